/- What calls of Go functions of this seat come to, as the rows need it: under the conditions that each theorem names. -/
import Derived.Test.YtllcofllnjgkcaaDoorMkF
import Derived.Test.YtllcofllnjgkcaaDoorMkI
import Derived.Deep.RegionWith
import Derived.Test.YtllcofllnjgkcaaDoorWTab
import Derived.Test.YtllcofllnjgkcaaDoorWLast
namespace Go.Proofs.YtllcofllnjgkcaaDoor.Sha
open Go.RowKit Go.Proofs.YtllcofllnjgkcaaDoorW.PrintWords Go.Proofs.YtllcofllnjgkcaaDoorW.PrintLast Go.Proofs.YtllcofllnjgkcaaDoorW.PrintMore
set_option linter.unusedVariables false
set_option linter.unusedSimpArgs false
/-- The way of a digest up, with a proof: the top, and what is left of the proof. -/
def chk (n i : Nat) (d : List Int) (p : List (List Int)) : Option (List Int × List (List Int)) :=
  if h : n ≤ 1 then some (d, p) else
    if n ≤ oth i then chk ((n + 1) / 2) (i / 2) d p else
      match p with
      | [] => none
      | x :: q => chk ((n + 1) / 2) (i / 2) (if i % 2 = 0 then pairI d x else pairI x d) q
termination_by n
decreasing_by all_goals omega
theorem chk_end {n : Nat} (i : Nat) (d : List Int) (p : List (List Int)) (h : n ≤ 1) : chk n i d p = some (d, p) := by rw [chk.eq_def, dif_pos h]
theorem chk_alone {n i : Nat} (d : List Int) (p : List (List Int)) (h : ¬ n ≤ 1) (h2 : n ≤ oth i) : chk n i d p = chk ((n + 1) / 2) (i / 2) d p := by
  conv => lhs; rw [chk.eq_def, dif_neg h, if_pos h2]
theorem chk_none {n i : Nat} (d : List Int) (h : ¬ n ≤ 1) (h2 : ¬ n ≤ oth i) : chk n i d [] = none := by
  rw [chk.eq_def, dif_neg h, if_neg h2]
theorem chk_cons {n i : Nat} (d x : List Int) (q : List (List Int)) (h : ¬ n ≤ 1) (h2 : ¬ n ≤ oth i) : chk n i d (x :: q) = chk ((n + 1) / 2) (i / 2) (if i % 2 = 0 then pairI d x else pairI x d) q := by
  conv => lhs; rw [chk.eq_def, dif_neg h, if_neg h2]
theorem chk_step {n i : Nat} (d : List Int) {q : List (List Int)} (h : ¬ n ≤ 1) (h2 : ¬ n ≤ oth i) (hq : 0 < q.length) : chk n i d q = chk ((n + 1) / 2) (i / 2) (if i % 2 = 0 then pairI d (q.getD 0 []) else pairI (q.getD 0 []) d) (q.drop 1) := by
  cases q with
  | nil => simp at hq
  | cons x r => rw [chk_cons d x r h h2]; rfl
/-- What is told of a chunk that is in its place and has its length. -/
def topB (n : Nat) (want : List Int) : Option (List Int × List (List Int)) → Bool
  | none => false
  | some (d, r) => r.length == 0 && decide (rootI n d = want)
theorem topB_nil (n : Nat) (want d : List Int) : topB n want (some (d, [])) = decide (rootI n d = want) := by
  show (([] : List (List Int)).length == 0 && decide (rootI n d = want)) = _
  generalize rootI n d = r
  simp
theorem topB_left (n : Nat) (want d : List Int) {q : List (List Int)} (hq : 0 < q.length) : topB n want (some (d, q)) = false := by
  show (q.length == 0 && decide (rootI n d = want)) = _
  generalize rootI n d = r
  simp only [Bool.and_eq_false_iff]
  left
  rw [beq_eq_false_iff_ne]
  omega
def checkR (want : List Int) (n i : Nat) (c : List Int) (p : List (List Int)) : Bool := topB n want (chk (countN n) i (leafI i c) p)
/-- How long a chunk is. -/
def sizeN (n i : Nat) : Nat := min 64 (n - 64 * i)
/-- What Check tells of anything. -/
def checkB (want : List Int) (n i : Int) (c : List Int) (p : List (List Int)) : Bool :=
  if 0 ≤ n ∧ 0 ≤ i ∧ i < (countN n.toNat : Int) ∧ c.length = sizeN n.toNat i.toNat then checkR want n.toNat i.toNat c p else false
/-- The rows of bytes on the way up, with a proof. -/
def pathR (n i : Nat) (d : List Int) (p : List (List Int)) : Option (List (List Int) × List Int × List (List Int)) :=
  if h : n ≤ 1 then some ([], d, p) else
    if n ≤ oth i then pathR ((n + 1) / 2) (i / 2) d p else
      match p with
      | [] => none
      | x :: q => (pathR ((n + 1) / 2) (i / 2) (if i % 2 = 0 then pairI d x else pairI x d) q).map fun r => ((if i % 2 = 0 then 1 :: (d ++ x) else 1 :: (x ++ d)) :: r.1, r.2)
termination_by n
decreasing_by all_goals omega
theorem pathR_end {n : Nat} (i : Nat) (d : List Int) (p : List (List Int)) (h : n ≤ 1) : pathR n i d p = some ([], d, p) := by rw [pathR.eq_def, dif_pos h]
theorem pathR_alone {n i : Nat} (d : List Int) (p : List (List Int)) (h : ¬ n ≤ 1) (h2 : n ≤ oth i) : pathR n i d p = pathR ((n + 1) / 2) (i / 2) d p := by
  conv => lhs; rw [pathR.eq_def, dif_neg h, if_pos h2]
theorem pathR_none {n i : Nat} (d : List Int) (h : ¬ n ≤ 1) (h2 : ¬ n ≤ oth i) : pathR n i d [] = none := by
  rw [pathR.eq_def, dif_neg h, if_neg h2]
theorem pathR_cons {n i : Nat} (d x : List Int) (q : List (List Int)) (h : ¬ n ≤ 1) (h2 : ¬ n ≤ oth i) : pathR n i d (x :: q) = (pathR ((n + 1) / 2) (i / 2) (if i % 2 = 0 then pairI d x else pairI x d) q).map fun r => ((if i % 2 = 0 then 1 :: (d ++ x) else 1 :: (x ++ d)) :: r.1, r.2) := by
  conv => lhs; rw [pathR.eq_def, dif_neg h, if_neg h2]
/-- The rows aside, it is the way up. -/
theorem pathR_chk : ∀ (n i : Nat) (d : List Int) (p : List (List Int)), (pathR n i d p).map (fun r => r.2) = chk n i d p := by
  intro n
  induction n using Nat.strongRecOn with
  | ind n ih =>
    intro i d p
    by_cases h : n ≤ 1
    · rw [pathR_end _ _ _ h, chk_end _ _ _ h]; rfl
    · by_cases h2 : n ≤ oth i
      · rw [pathR_alone _ _ h h2, chk_alone _ _ h h2]; exact ih _ (by omega) _ _ _
      · cases p with
        | nil => rw [pathR_none _ h h2, chk_none _ h h2]; rfl
        | cons x q =>
          rw [pathR_cons _ _ _ h h2, chk_cons _ _ _ h h2, ← ih _ (by omega), Option.map_map]
          rfl
end Go.Proofs.YtllcofllnjgkcaaDoor.Sha

namespace Go.Proofs.YtllcofllnjgkcaaDoor.Sha
open Go.RowKit Go.Proofs.YtllcofllnjgkcaaDoorW.PrintWords Go.Proofs.YtllcofllnjgkcaaDoorW.PrintLast Go.Proofs.YtllcofllnjgkcaaDoorW.PrintMore
set_option linter.unusedVariables false
set_option linter.unusedSimpArgs false
set_option maxHeartbeats 800000 in
set_option maxRecDepth 100000 in
theorem check_no (D : List Int) (n i : Int) (A A' : Option Addr) (c c' : Nat) (l : List Int) (p : List (List Int)) (w : World) (hn : n < 9223372036854775808) (hl : l.length < 10000000)
    (hno : ¬ (0 ≤ n ∧ 0 ≤ i ∧ i < (countN n.toNat : Int) ∧ l.length = sizeN n.toNat i.toNat)) :
    Calls Tryd.prog 21 #[vd D, .int .i64 n, .int .i64 i, .slice A l.length c, .slice A' p.length c'] w fun e w' => e = .returned (.bool false) ∧ Below w.heap.size w w' := by
  by_cases h0 : i < 0
  · have HCN : Aside0 (∃ N : Int, ∀ w, Calls Tryd.prog 10 #[.int .i64 n] w fun e w' => e = .returned (.int .i64 N) ∧ w' = w) := by
      by_cases hz : n < 0
      · exact ⟨0, fun w => count_neg n w hz⟩
      · obtain ⟨m, rfl⟩ := Int.eq_ofNat_of_zero_le (Int.not_lt.1 hz)
        exact ⟨_, fun w => count_calls m w (by omega)⟩
    obtain ⟨N, hN⟩ := HCN.out
    have HN := Aside0.mk hN
    clear hN HCN hno hn hl
    go_enter Tryd.func21, Tryd.ntmps21
    go_wp2_with fail
    refine (HN.out _).mono ?_
    rintro e w1 ⟨rfl, rfl⟩
    go_wp2
    go_ret
    exact ⟨rfl, (Below.refl _ _).alloc (Nat.le_refl _) _⟩
  by_cases hz : n < 0
  · have hi : 0 ≤ i := by omega
    clear hno hn hl
    go_enter Tryd.func21, Tryd.ntmps21
    go_wp2_with fail
    refine (count_neg n _ hz).mono ?_
    rintro e w1 ⟨rfl, rfl⟩
    go_wp2
    go_ret
    exact ⟨rfl, (Below.refl _ _).alloc (Nat.le_refl _) _⟩
  obtain ⟨m, rfl⟩ := Int.eq_ofNat_of_zero_le (Int.not_lt.1 hz)
  obtain ⟨j, rfl⟩ := Int.eq_ofNat_of_zero_le (Int.not_lt.1 h0)
  have HC := Aside0.mk (fun w => count_calls m w (by omega))
  rw [Int.toNat_natCast, Int.toNat_natCast] at hno
  clear hz h0
  by_cases hj : countN m ≤ j
  · have e1 : decide ((j : Int) ≥ (countN m : Int)) = true := decide_eq_true (by omega)
    have e2 : decide (countN m ≤ j) = true := decide_eq_true hj
    clear hno hn hl
    generalize countN m = N at *
    go_enter Tryd.func21, Tryd.ntmps21
    go_wp2_with fail
    refine (HC.out _).mono ?_
    rintro e w1 ⟨rfl, rfl⟩
    go_wp2
    go_ret
    exact ⟨rfl, (Below.refl _ _).alloc (Nat.le_refl _) _⟩
  · have e1 : decide ((j : Int) ≥ (countN m : Int)) = false := decide_eq_false (by omega)
    have e2 : decide (countN m ≤ j) = false := decide_eq_false hj
    have h64 := count_lt (Nat.lt_of_not_le hj)
    obtain ⟨d, hd⟩ : ∃ d, d = m - 64 * j := ⟨_, rfl⟩
    have hs : l.length ≠ min 64 d := fun h => hno ⟨by omega, by omega, by omega, by rw [hd] at h; exact h⟩
    obtain ⟨q, hq64⟩ : ∃ q, q = 64 * j := ⟨_, rfl⟩
    have hw1 : IntKind.i64.wrap ((j : Int) * 64) = (q : Int) := by rw [IntKind.wrap_i64]; omega
    have hw2 : IntKind.i64.wrap ((m : Int) - (q : Int)) = (d : Int) := by rw [IntKind.wrap_i64]; omega
    have hjn : j < countN m := Nat.lt_of_not_le hj
    clear hno hj hd h64 hn hq64
    generalize countN m = N at *
    by_cases h4 : d < 64
    · rw [Nat.min_eq_right (by omega)] at hs
      have hq : ((l.length : Int) != (d : Int)) = true := by rw [bne_iff_ne]; omega
      have hq2 : (l.length != d) = true := by simpa using hs
      have hdi4 : (d : Int) < 64 := by omega
      go_enter Tryd.func21, Tryd.ntmps21
      go_wp2_with fail
      refine (HC.out _).mono ?_
      rintro e w1 ⟨rfl, rfl⟩
      go_wp2
      go_ret
      exact ⟨rfl, (Below.refl _ _).alloc (Nat.le_refl _) _⟩
    · rw [Nat.min_eq_left (by omega)] at hs
      have hq : ((l.length : Int) != 64) = true := by rw [bne_iff_ne]; omega
      have hdi4 : ¬ (d : Int) < 64 := by omega
      go_enter Tryd.func21, Tryd.ntmps21
      go_wp2_with fail
      refine (HC.out _).mono ?_
      rintro e w1 ⟨rfl, rfl⟩
      go_wp2
      go_ret
      exact ⟨rfl, (Below.refl _ _).alloc (Nat.le_refl _) _⟩
end Go.Proofs.YtllcofllnjgkcaaDoor.Sha

namespace Go.Proofs.YtllcofllnjgkcaaDoor.Sha
open Go.RowKit Go.Proofs.YtllcofllnjgkcaaDoorW.PrintWords Go.Proofs.YtllcofllnjgkcaaDoorW.PrintLast Go.Proofs.YtllcofllnjgkcaaDoorW.PrintMore
set_option linter.unusedVariables false
set_option linter.unusedSimpArgs false
def cka_T11 : Bool × List (List Nat × List Nat) := (true, [([], []), ([], []), ([1], [1]), ([2], [2]), ([0, 3], [0, 3]), ([4, 4, 0, 1, 2, 3, 4], [4])])
def cka_B11 : List Nat := [0, 0, 2, 6, 15, 31]
theorem cka_tab11 : rtab .any (opsOf Tryd.f21 11) = cka_T11 := by kernel_rfl
theorem cka_bits11 : waitsOk cka_T11.2 cka_B11 = true := by kernel_rfl
def ckb_T12 : Bool × List (List Nat × List Nat) := (true, [([], []), ([0], [0]), ([1], [1]), ([], []), ([2, 3], [2, 3]), ([4, 4, 0, 1, 2, 3, 4], [4])])
def ckb_B12 : List Nat := [0, 1, 3, 0, 15, 31]
theorem ckb_tab12 : rtab .any (opsOf Tryd.f21 12) = ckb_T12 := by kernel_rfl
theorem ckb_bits12 : waitsOk ckb_T12.2 ckb_B12 = true := by kernel_rfl
def ckc_T14 : Bool × List (List Nat × List Nat) := (true, [([], []), ([0], [0]), ([1], [1]), ([2], [2]), ([3], [3]), ([3], [3]), ([4, 5, 3, 3], [3, 4, 5]), ([3], [3]), ([6, 7, 3], [3, 6, 7]), ([3, 8], [3, 8]), ([9, 6, 0, 1, 2, 3, 4, 5, 6, 7, 8, 9], [9])])
def ckc_B14 : List Nat := [0, 1, 3, 7, 15, 15, 63, 15, 255, 511, 1023]
theorem ckc_tab14 : rtab .any (opsOf Tryd.f21 14) = ckc_T14 := by kernel_rfl
theorem ckc_bits14 : waitsOk ckc_T14.2 ckc_B14 = true := by kernel_rfl
theorem ldg {w : World} {g : Nat} {D : List Int} (hg : w.heap[g]? = some (.cells (cb D) 32 (0, 0))) (hD : D.length = 32) :
    ∀ w' : World, Below w.heap.size w w' → (Instr.loadAt 32 (.pointer (some ⟨g, 0, none⟩))).run Tryd.prog w' = .ok (vd D) w' := fun w' h =>
  loadRow_take 32 g 32 (cb D) _ (heap_keep hg h) Tryd.underlying32 rfl (infoDg _ hD)
set_option maxHeartbeats 1600000 in
set_option maxRecDepth 100000 in
theorem check_yes (D : List Int) (m j : Nat) (A A' : Option Addr) (c c' : Nat) (l : List Int) (p : List (List Int)) (w : World) (hD : D.length = 32) (hm : m < 9223372036854775808) (hj : j < countN m) (hs : l.length = sizeN m j)
    (hr : B.C w A l.length l) (hc : l.length ≤ c) (hb : bytes l) (hp : KD.C w A' p.length p) (hc' : p.length ≤ c') (hpr : isRow p) (hpl : p.length < 10000000) (hT : Tab w) :
    Calls Tryd.prog 21 #[vd D, .int .i64 m, .int .i64 j, .slice A l.length c, .slice A' p.length c'] w fun e w' => e = .returned (.bool (checkR D m j l p)) ∧ Below w.heap.size w w' := by
  have HR := Aside0.mk hr
  have HY := Aside0.mk hb
  have HP := Aside0.mk hp
  have HPR := Aside0.mk hpr
  have HTAB := Aside0.mk hT
  have HM := Aside0.mk hm
  have HDL := Aside0.mk hD
  have HC := Aside0.mk (fun w => count_calls m w hm)
  have HL64 := Aside0.mk (show l.length ≤ 64 by rw [hs]; unfold sizeN; omega)
  have HJN := Aside0.mk (show j < countN m ∧ countN m ≤ 144115188075855872 ∧ 64 * j ≤ m ∧ j < 9223372036854775808 from ⟨hj, by unfold countN; omega, by have := count_lt hj; omega, by unfold countN at hj; omega⟩)
  have HS := Aside0.mk hs
  clear hr hb hp hpr hT hm hD hj hs
  have HRES := Aside0.mk (show topB m D (chk (countN m) j (leafI j l) p) = checkR D m j l p from rfl)
  generalize checkR D m j l p = RES at HRES ⊢
  go_enter Tryd.func21, Tryd.ntmps21
  go_wp2_with fail
  have HBX := Aside0.mk (show Below w.heap.size w (w.alloc (.cells (cb D) 32)) from (Below.refl _ _).alloc (Nat.le_refl _) _)
  have HGW := Aside0.mk (heap_new w (.cells (cb D) 32))
  refine (HC.out _).mono ?_
  rintro e w1 ⟨rfl, hw⟩
  replace hw := hw.symm
  subst hw
  go_upto_region 2 with (fail)
  generalize w.alloc (.cells (cb D) 32) = w1 at HBX HGW ⊢
  go_cut [31] (fun v wx => v = .bool false ∧ wx = w1)
  case first =>
    obtain ⟨h1, h2, h3, h4⟩ := HJN.out
    have e1 : decide ((j : Int) ≥ (countN m : Int)) = false := decide_eq_false (by omega)
    have e2 : decide (countN m ≤ j) = false := decide_eq_false (by omega)
    obtain ⟨d, hd⟩ : ∃ d, d = m - 64 * j := ⟨_, rfl⟩
    have hsz : l.length = min 64 d := by rw [hd]; exact HS.out
    obtain ⟨q, hq64⟩ : ∃ q, q = 64 * j := ⟨_, rfl⟩
    have hmb := HM.out
    have hw1 : IntKind.i64.wrap ((j : Int) * 64) = (q : Int) := by rw [IntKind.wrap_i64]; omega
    have hw2 : IntKind.i64.wrap ((m : Int) - (q : Int)) = (d : Int) := by rw [IntKind.wrap_i64]; omega
    clear h2 h3 h4 hd hq64 hmb
    generalize countN m = N at *
    by_cases h4 : d < 64
    · rw [Nat.min_eq_right (by omega)] at hsz
      have hq : ((l.length : Int) != (d : Int)) = false := by rw [bne_eq_false_iff_eq]; omega
      have hq2 : (l.length != d) = false := by simpa using hsz
      have hdi4 : (d : Int) < 64 := by omega
      clear hsz
      go_wp2
      go_meet
      exact ⟨rfl, rfl⟩
    · rw [Nat.min_eq_left (by omega)] at hsz
      have hq : ((l.length : Int) != 64) = false := by rw [bne_eq_false_iff_eq]; omega
      have hq2 : (l.length != 64) = false := by simpa using hsz
      have hdi4 : ¬ (d : Int) < 64 := by omega
      clear hsz
      go_wp2
      go_meet
      exact ⟨rfl, rfl⟩
  case rest =>
    obtain ⟨rfl, rfl⟩ := hcut
    go_wp2_with fail
    refine (leaf_calls j A c l _ (Kd.C_below HR.out HBX.out) hc HY.out HJN.out.2.2.2 (by have := HL64.out; omega) (HTAB.out.below HBX.out)).mono ?_
    rintro e w3 ⟨rfl, hb⟩
    have HD0 := Aside0.mk (show isD (leafI j l) by unfold leafI; exact sha_D _)
    have HB3 := Aside0.mk (below_step HBX.out hb)
    have HGW3 := Aside0.mk (heap_keep HGW.out hb)
    clear hb HBX HGW
    have hN1 := count_pos m
    have hjN := HJN.out.1
    have HN2 := Aside0.mk HJN.out.2.1
    clear HJN
    generalize leafI j l = d0 at HD0 HRES ⊢
    generalize countN m = N0 at HRES HN2 hjN hN1 ⊢
    have HRES2 := Aside0.mk (show ∃ r, r = chk N0 j d0 p ∧ topB m D r = RES from ⟨_, rfl, HRES.out⟩)
    obtain ⟨R0, hR0, hRR⟩ := HRES2.out
    have HR0 := Aside0.mk hR0.symm
    have HRR := Aside0.mk hRR
    clear hR0 hRR HRES HRES2
    go_wp2_with (first | (obtain ⟨w4, hw4, HB4, HD4, HZ4⟩ := dg_start w3; rw [hw4]; clear hw4; refine wpList_store_row rfl 32 (.tmp 12) (.tmp 34) rfl w3.heap.size (cb d0) rfl rfl 32 _ HD4.out (infoDg _ HD0.out.1) (by rw [cb_size, cb_size, HD0.out.1]; simp) (cb_one _) ?_))
    have hgw : w.heap.size < w3.heap.size := (Array.getElem?_eq_some_iff.1 HGW3.out).1
    obtain ⟨w5, hw5, HG5, HGW5, HB5⟩ : ∃ w5, w4.setRow w3.heap.size (cb d0) = w5 ∧ Aside0 (w5.heap[w3.heap.size]? = some (.cells (cb d0) 32 (0, 0))) ∧ Aside0 (w5.heap[w.heap.size]? = some (.cells (cb D) 32 (0, 0))) ∧ Aside0 (Below w.heap.size w w5) :=
      ⟨_, rfl, ⟨setRow_heap _ _ _ _ _ _ HD4.out⟩, ⟨by rw [setRow_other _ _ _ _ (by omega)]; exact heap_keep HGW3.out HB4.out⟩, ⟨below_setRow (below_step HB3.out HB4.out) (by omega) _⟩⟩
    rw [hw5]
    have hgw2 : w.heap.size ≤ w3.heap.size ∧ w.heap.size ≠ w3.heap.size := by omega
    have HGE := Aside0.mk hgw2
    clear hw5 HB4 HD4 HZ4 HB3 HGW3 hgw hgw2
    generalize w3.heap.size = g at *
    clear hc
    simp only [Act.put]
    go_loopw [2, 4, 11] (fun vi vp vn wr => ∃ (N I : Nat) (d : List Int) (q : List (List Int)) (A4 : Option Addr) (c4 : Nat), vi = .int .i64 (I : Int) ∧ vp = .slice A4 q.length c4 ∧ vn = .int .i64 (N : Int) ∧ Aside0 (N ≤ 144115188075855872) ∧ I < N ∧ q.length ≤ c4 ∧ q.length < 10000000 ∧ Aside0 (isD d) ∧ Aside0 (isRow q) ∧ Aside0 (KD.C w A4 q.length q) ∧ Aside0 (chk N I d q = R0) ∧ Aside0 (wr.heap[g]? = some (.cells (cb d) 32 (0, 0))) ∧ Aside0 (wr.heap[w.heap.size]? = some (.cells (cb D) 32 (0, 0))) ∧ Aside0 (Below w.heap.size w wr)) (fun _ _ v _ => (intOf v).toNat)
    case atStart => exact ⟨N0, j, d0, p, A', c', rfl, rfl, rfl, HN2, hjN, hc', hpl, HD0, HPR, HP, HR0, HG5, HGW5, HB5⟩
    case round =>
      clear HN2 hjN hN1 hc' hpl HD0 HPR HP HR0 HG5 HGW5 HB5
      obtain ⟨N, I, d, q, A4, c4, rfl, rfl, rfl, HN, hI, hc4, hq7, HD, HQR, HQ, HCK, HG, HGW, HB⟩ := hrel
      have HTR := Aside0.mk (HTAB.out.below HB.out)
      have HLG := Aside0.mk (ldg HG.out HD.out.1)
      by_cases hn1 : 1 < N
      · --STOP3
        have e1 : decide ((N : Int) > 1) = true := decide_eq_true (by omega)
        have hx1 := xor1 I (by have := HN.out; omega)
        have hN57 : (N : Int) + 1 ≤ 144115188075855873 := by have := HN.out; omega
        have hN2 : (N + 1) / 2 < N ∧ I / 2 < (N + 1) / 2 := by omega
        have HNN := Aside0.mk (show (N + 1) / 2 ≤ 144115188075855872 by have := HN.out; omega)
        by_cases hal : N ≤ oth I
        · have e3 : decide (((oth I : Nat) : Int) ≥ (N : Int)) = true := decide_eq_true (by omega)
          have e4 : decide (N ≤ oth I) = true := decide_eq_true hal
          have HCK2 := Aside0.mk ((chk_alone d q (by omega) hal).symm.trans HCK.out)
          generalize oth I = o at *
          go_wp2
          go_roundw
          case rel => exact ⟨(N + 1) / 2, I / 2, d, q, A4, c4, by go_num, rfl, by go_num, HNN, hN2.2, hc4, hq7, HD, HQR, HQ, HCK2, HG, HGW, HB⟩
          case measure => simp [intOf]; omega
        · have e3 : decide (((oth I : Nat) : Int) ≥ (N : Int)) = false := decide_eq_false (by omega)
          have e4 : decide (N ≤ oth I) = false := decide_eq_false hal
          by_cases hq0 : 0 < q.length
          · have HCK2 := Aside0.mk ((chk_step d (by omega) hal hq0).symm.trans HCK.out)
            have eq0 : (q.length == 0) = false := by rw [beq_eq_false_iff_ne]; omega
            have eq1 : ((q.length : Int) == 0) = false := by rw [beq_eq_false_iff_ne]; omega
            obtain ⟨A6, c6, hcut, hcc, hc6⟩ := cutD A4 c4 q 1 (by omega) hc4
            replace hcut : ∀ W : World, (Instr.slice 34 (.slice A4 q.length c4) (some (.int .i64 1)) none none).run Tryd.prog W = .ok (.slice A6 (q.drop 1).length c6) W := hcut
            have HQ2 := Aside0.mk (hcc _ HQ.out)
            have hq72 : (q.drop 1).length < 10000000 := by rw [List.length_drop]; omega
            have HQR2 := Aside0.mk (show isRow (q.drop 1) from fun d hd => HQR.out d (List.mem_of_mem_drop hd))
            obtain ⟨ad, rfl, _, _⟩ := row_ld HQ.out 0 hq0
            have HXD := Aside0.mk (isRow_getD HQR.out 0 hq0)
            generalize hxe : q.getD 0 [] = x at HXD HCK2
            have hx := fun (w' : World) (h : Below wr.heap.size wr w') => row_load' HQ.out (below_step HB.out h) 0 hq0 hxe
            simp only [Nat.zero_mul, Addr.add_zero'] at hx
            have HX := Aside0.mk hx
            clear hx hxe hcc HQ HQR
            generalize q.drop 1 = q2 at *
            by_cases hpar : I % 2 = 0
            · rw [if_pos hpar] at HCK2
              have e5 : decide ((I : Int) % 2 = 0) = true := decide_eq_true (by omega)
              have e6 : ((I : Int) % 2 == 0) = true := by simpa using (show (I : Int) % 2 = 0 by omega)
              have HD2 := Aside0.mk (show isD (pairI d x) by unfold pairI; exact sha_D _)
              generalize hdn : pairI d x = D2 at HCK2 HD2
              have HDN := Aside0.mk hdn
              clear hdn
              generalize oth I = o at *
              go_upto_region 11 with (fail)
              have hS0 : Below wr.heap.size wr wr.drew := below_drew1 (Below.refl _ _)
              refine start_ (n := 6) (S := fun w' => Below wr.heap.size wr w') (ds := [4,5]) #[false, false, false, false, false, false] (by kernel_rfl) rfl rfl (by exact hS0) (fun hHeld => ?_)
              refine with_tabW cka_tab11 cka_bits11 (fun HT_ HW_ => ?_)
              refine pure_ (i := 1) (N := some 53) (v := ?_) (a' := ?_) #[false, true, false, false, false, false] rfl rfl (any_of HT_.out (by kernel_rfl)) (fun _ _ _ h => h) (Or.inl ⟨by rfl, ?_⟩) ?_ ?_
              rotate_left
              · intro w'
                go_simp
                with_reducible rfl
              rotate_left
              · simp only [Act.put, List.setIfInBounds_toArray, List.set_cons_zero, List.set_cons_succ, i64_w, i32_w]
                rfl
              refine pure_ (i := 2) (N := some 54) (v := ?_) (a' := ?_) #[false, true, true, false, false, false] rfl rfl (any_of HT_.out (by kernel_rfl)) (fun _ _ _ h => h) (Or.inl ⟨by rfl, ?_⟩) ?_ ?_
              rotate_left
              · intro w'
                go_simp
                with_reducible rfl
              rotate_left
              · simp only [Act.put, List.setIfInBounds_toArray, List.set_cons_zero, List.set_cons_succ, i64_w, i32_w]
                rfl
              refine take_ (i := 0) (N := some 52) (v := ?_) (a' := ?_) #[true, true, true, false, false, false] rfl rfl (take_ofW HT_.out HW_.out (by kernel_rfl)) (fun _ _ _ h => h) (Or.inl ⟨by rfl, ?_⟩) hHeld ?_ ?_
              rotate_left
              · intro w' hSt
                refine (exec_load (p := .pointer (some ⟨g, 0, none⟩)) rfl rfl (HLG.out w' hSt)).trans ?_
                with_reducible rfl
              rotate_left
              · simp only [Act.put, List.setIfInBounds_toArray, List.set_cons_zero, List.set_cons_succ, i64_w, i32_w]
                rfl
              refine take_ (i := 3) (N := some 55) (v := ?_) (a' := ?_) #[true, true, true, true, false, false] rfl rfl (take_ofW HT_.out HW_.out (by kernel_rfl)) (fun _ _ _ h => h) (Or.inl ⟨by rfl, ?_⟩) hHeld ?_ ?_
              rotate_left
              · intro w' hSt
                refine (exec_load (p := .pointer (some ad)) rfl rfl (HX.out w' hSt)).trans ?_
                with_reducible rfl
              rotate_left
              · simp only [Act.put, List.setIfInBounds_toArray, List.set_cons_zero, List.set_cons_succ, i64_w, i32_w]
                rfl
              refine last_ (i := 4) (N := some 56) #[true, true, true, true, true, false] rfl rfl (one_of HT_.out (by kernel_rfl)) (by decide) (fun K hK => ?_)
              refine goes_ Tryd.func36 (by kernel_rfl) rfl #[vd d, vd x] (by rfl) rfl rfl (by (try simp only [List.map_toArray, List.map_cons, List.map_nil]); first | done | rfl) ?_
              refine (pair_calls d x _ HD.out.1 HXD.out.1 HD.out.2 HXD.out.2 (HTR.out.below hHeld)).mono ?_
              rintro e w3 ⟨rfl, hb⟩
              refine ⟨_, rfl, ?_⟩
              rw [HDN.out]
              have HBa := Aside0.mk (below_step hHeld hb)
              clear hb
              refine hK.out _ _ ?_
              clear hK K
              refine norm_ (a' := ?_) ?_ ?_
              rotate_left
              · first
                | (show Act.put _ (some 56) _ = _; simp only [Act.put, List.setIfInBounds_toArray, List.set_cons_zero, List.set_cons_succ, i64_w, i32_w]; rfl)
                | rfl
              refine last_ (i := 5) (N := none) #[true, true, true, true, true, true] rfl rfl (one_of HT_.out (by kernel_rfl)) (by decide) (fun K hK => ?_)
              refine storeRow_step (by rfl) 32 (.tmp 12) (.tmp 56) rfl g (cb D2) rfl rfl 32 _ (heap_keep HG.out HBa.out) (infoDg _ HD2.out.1) (by rw [cb_size, cb_size, HD2.out.1, HD.out.1]) (cb_one _) ?_
              refine hK.out _ _ ?_
              clear hK K
              refine norm_ (a' := ?_) ?_ ?_
              rotate_left
              · first
                | (show Act.put _ none _ = _; simp only [Act.put, List.setIfInBounds_toArray, List.set_cons_zero, List.set_cons_succ, i64_w, i32_w]; rfl)
                | rfl
              refine done_ (done_of HT_.out (by kernel_rfl)) ?_
              clear hS0 hHeld HT_ HW_
              go_wp2
              go_roundw
              case rel => exact ⟨(N + 1) / 2, I / 2, D2, q2, A6, c6, by go_num, rfl, by go_num, HNN, hN2.2, hc6, hq72, HD2, HQR2, HQ2, HCK2, ⟨setRow_heap _ _ _ _ _ _ (heap_keep HG.out HBa.out)⟩, ⟨by rw [setRow_other _ _ _ _ HGE.out.2]; exact heap_keep HGW.out HBa.out⟩, ⟨below_setRow (below_step HB.out HBa.out) HGE.out.1 _⟩⟩
              case measure => simp [intOf]; omega
            · rw [if_neg hpar] at HCK2
              have e5 : decide ((I : Int) % 2 = 0) = false := decide_eq_false (by omega)
              have e6 : ((I : Int) % 2 == 0) = false := by rw [beq_eq_false_iff_ne]; omega
              have HD2 := Aside0.mk (show isD (pairI x d) by unfold pairI; exact sha_D _)
              generalize hdn : pairI x d = D2 at HCK2 HD2
              have HDN := Aside0.mk hdn
              clear hdn
              generalize oth I = o at *
              go_upto_region 12 with (fail)
              have hS0 : Below wr.heap.size wr wr.drew := below_drew1 (Below.refl _ _)
              refine start_ (n := 6) (S := fun w' => Below wr.heap.size wr w') (ds := [4,5]) #[false, false, false, false, false, false] (by kernel_rfl) rfl rfl (by exact hS0) (fun hHeld => ?_)
              refine with_tabW ckb_tab12 ckb_bits12 (fun HT_ HW_ => ?_)
              refine pure_ (i := 0) (N := some 57) (v := ?_) (a' := ?_) #[true, false, false, false, false, false] rfl rfl (any_of HT_.out (by kernel_rfl)) (fun _ _ _ h => h) (Or.inl ⟨by rfl, ?_⟩) ?_ ?_
              rotate_left
              · intro w'
                go_simp
                with_reducible rfl
              rotate_left
              · simp only [Act.put, List.setIfInBounds_toArray, List.set_cons_zero, List.set_cons_succ, i64_w, i32_w]
                rfl
              refine pure_ (i := 1) (N := some 58) (v := ?_) (a' := ?_) #[true, true, false, false, false, false] rfl rfl (any_of HT_.out (by kernel_rfl)) (fun _ _ _ h => h) (Or.inl ⟨by rfl, ?_⟩) ?_ ?_
              rotate_left
              · intro w'
                go_simp
                with_reducible rfl
              rotate_left
              · simp only [Act.put, List.setIfInBounds_toArray, List.set_cons_zero, List.set_cons_succ, i64_w, i32_w]
                rfl
              refine take_ (i := 2) (N := some 59) (v := ?_) (a' := ?_) #[true, true, true, false, false, false] rfl rfl (take_ofW HT_.out HW_.out (by kernel_rfl)) (fun _ _ _ h => h) (Or.inl ⟨by rfl, ?_⟩) hHeld ?_ ?_
              rotate_left
              · intro w' hSt
                refine (exec_load (p := .pointer (some ad)) rfl rfl (HX.out w' hSt)).trans ?_
                with_reducible rfl
              rotate_left
              · simp only [Act.put, List.setIfInBounds_toArray, List.set_cons_zero, List.set_cons_succ, i64_w, i32_w]
                rfl
              refine take_ (i := 3) (N := some 60) (v := ?_) (a' := ?_) #[true, true, true, true, false, false] rfl rfl (take_ofW HT_.out HW_.out (by kernel_rfl)) (fun _ _ _ h => h) (Or.inl ⟨by rfl, ?_⟩) hHeld ?_ ?_
              rotate_left
              · intro w' hSt
                refine (exec_load (p := .pointer (some ⟨g, 0, none⟩)) rfl rfl (HLG.out w' hSt)).trans ?_
                with_reducible rfl
              rotate_left
              · simp only [Act.put, List.setIfInBounds_toArray, List.set_cons_zero, List.set_cons_succ, i64_w, i32_w]
                rfl
              refine last_ (i := 4) (N := some 61) #[true, true, true, true, true, false] rfl rfl (one_of HT_.out (by kernel_rfl)) (by decide) (fun K hK => ?_)
              refine goes_ Tryd.func36 (by kernel_rfl) rfl #[vd x, vd d] (by rfl) rfl rfl (by (try simp only [List.map_toArray, List.map_cons, List.map_nil]); first | done | rfl) ?_
              refine (pair_calls x d _ HXD.out.1 HD.out.1 HXD.out.2 HD.out.2 (HTR.out.below hHeld)).mono ?_
              rintro e w3 ⟨rfl, hb⟩
              refine ⟨_, rfl, ?_⟩
              rw [HDN.out]
              have HBa := Aside0.mk (below_step hHeld hb)
              clear hb
              refine hK.out _ _ ?_
              clear hK K
              refine norm_ (a' := ?_) ?_ ?_
              rotate_left
              · first
                | (show Act.put _ (some 61) _ = _; simp only [Act.put, List.setIfInBounds_toArray, List.set_cons_zero, List.set_cons_succ, i64_w, i32_w]; rfl)
                | rfl
              refine last_ (i := 5) (N := none) #[true, true, true, true, true, true] rfl rfl (one_of HT_.out (by kernel_rfl)) (by decide) (fun K hK => ?_)
              refine storeRow_step (by rfl) 32 (.tmp 12) (.tmp 61) rfl g (cb D2) rfl rfl 32 _ (heap_keep HG.out HBa.out) (infoDg _ HD2.out.1) (by rw [cb_size, cb_size, HD2.out.1, HD.out.1]) (cb_one _) ?_
              refine hK.out _ _ ?_
              clear hK K
              refine norm_ (a' := ?_) ?_ ?_
              rotate_left
              · first
                | (show Act.put _ none _ = _; simp only [Act.put, List.setIfInBounds_toArray, List.set_cons_zero, List.set_cons_succ, i64_w, i32_w]; rfl)
                | rfl
              refine done_ (done_of HT_.out (by kernel_rfl)) ?_
              clear hS0 hHeld HT_ HW_
              go_wp2
              go_roundw
              case rel => exact ⟨(N + 1) / 2, I / 2, D2, q2, A6, c6, by go_num, rfl, by go_num, HNN, hN2.2, hc6, hq72, HD2, HQR2, HQ2, HCK2, ⟨setRow_heap _ _ _ _ _ _ (heap_keep HG.out HBa.out)⟩, ⟨by rw [setRow_other _ _ _ _ HGE.out.2]; exact heap_keep HGW.out HBa.out⟩, ⟨below_setRow (below_step HB.out HBa.out) HGE.out.1 _⟩⟩
              case measure => simp [intOf]; omega
          · obtain rfl : q = [] := List.length_eq_zero_iff.1 (by omega)
            rw [chk_none d (by omega) hal] at HCK
            have HE := Aside0.mk (show RES = false by rw [← HRR.out, ← HCK.out]; rfl)
            generalize oth I = o at *
            go_wp2
            go_ret
            exact ⟨by rw [HE.out]; rfl, HB.out⟩
      · have e1 : decide ((N : Int) > 1) = false := decide_eq_false (by omega)
        rw [chk_end I d q (by omega)] at HCK
        by_cases hq0 : 0 < q.length
        · have HE := Aside0.mk (show RES = false by rw [← HRR.out, ← HCK.out]; exact topB_left m D d hq0)
          have eq0 : (q.length == 0) = false := by rw [beq_eq_false_iff_ne]; omega
          have eq1 : ((q.length : Int) == 0) = false := by rw [beq_eq_false_iff_ne]; omega
          go_upto_region 14 with (fail)
          have hS0 : Below wr.heap.size wr wr.drew := below_drew1 (Below.refl _ _)
          refine start_ (n := 11) (S := fun w' => Below wr.heap.size wr w') (ds := []) #[false, false, false, false, false, false, false, false, false, false, false] (by kernel_rfl) rfl rfl (by exact hS0) (fun hHeld => ?_)
          refine with_tabW ckc_tab14 ckc_bits14 (fun HT_ HW_ => ?_)
          refine pure_ (i := 0) (N := some 64) (v := ?_) (a' := ?_) #[true, false, false, false, false, false, false, false, false, false, false] rfl rfl (any_of HT_.out (by kernel_rfl)) (fun _ _ _ h => h) (Or.inl ⟨by rfl, ?_⟩) ?_ ?_
          rotate_left
          · intro w'
            go_simp
            with_reducible rfl
          rotate_left
          · simp only [Act.put, List.setIfInBounds_toArray, List.set_cons_zero, List.set_cons_succ, i64_w, i32_w]
            rfl
          refine pure_ (i := 1) (N := some 65) (v := ?_) (a' := ?_) #[true, true, false, false, false, false, false, false, false, false, false] rfl rfl (any_of HT_.out (by kernel_rfl)) (fun _ _ _ h => h) (Or.inl ⟨by rfl, ?_⟩) ?_ ?_
          rotate_left
          · intro w'
            go_simp
            with_reducible rfl
          rotate_left
          · simp only [Act.put, List.setIfInBounds_toArray, List.set_cons_zero, List.set_cons_succ, i64_w, i32_w]
            rfl
          refine pure_ (i := 2) (N := some 66) (v := ?_) (a' := ?_) #[true, true, true, false, false, false, false, false, false, false, false] rfl rfl (any_of HT_.out (by kernel_rfl)) (fun _ _ _ h => h) (Or.inl ⟨by rfl, ?_⟩) ?_ ?_
          rotate_left
          · intro w'
            go_simp
            with_reducible rfl
          rotate_left
          · simp only [Act.put, List.setIfInBounds_toArray, List.set_cons_zero, List.set_cons_succ, i64_w, i32_w]
            rfl
          refine pure_ (i := 3) (N := some 67) (v := ?_) (a' := ?_) #[true, true, true, true, false, false, false, false, false, false, false] rfl rfl (any_of HT_.out (by kernel_rfl)) (fun _ _ _ h => h) (Or.inl ⟨by rfl, ?_⟩) ?_ ?_
          rotate_left
          · intro w'
            go_simp
            with_reducible rfl
          rotate_left
          · simp only [Act.put, List.setIfInBounds_toArray, List.set_cons_zero, List.set_cons_succ, i64_w, i32_w]
            rfl
          refine pure_ (i := 4) (N := some 68) (v := undef) (a' := ?_) #[true, true, true, true, true, false, false, false, false, false, false] rfl rfl (any_of HT_.out (by kernel_rfl)) (fun _ _ _ h => h) (Or.inr ⟨by rfl, rfl⟩) ?_ ?_
          rotate_left
          · simp only [Act.put, List.setIfInBounds_toArray, List.set_cons_zero, List.set_cons_succ, i64_w, i32_w]
            rfl
          refine pure_ (i := 5) (N := some 69) (v := undef) (a' := ?_) #[true, true, true, true, true, true, false, false, false, false, false] rfl rfl (any_of HT_.out (by kernel_rfl)) (fun _ _ _ h => h) (Or.inr ⟨by rfl, rfl⟩) ?_ ?_
          rotate_left
          · simp only [Act.put, List.setIfInBounds_toArray, List.set_cons_zero, List.set_cons_succ, i64_w, i32_w]
            rfl
          refine pure_ (i := 6) (N := some 70) (v := undef) (a' := ?_) #[true, true, true, true, true, true, true, false, false, false, false] rfl rfl (any_of HT_.out (by kernel_rfl)) (fun _ _ _ h => h) (Or.inr ⟨by rfl, rfl⟩) ?_ ?_
          rotate_left
          · simp only [Act.put, List.setIfInBounds_toArray, List.set_cons_zero, List.set_cons_succ, i64_w, i32_w]
            rfl
          refine pure_ (i := 7) (N := some 71) (v := undef) (a' := ?_) #[true, true, true, true, true, true, true, true, false, false, false] rfl rfl (any_of HT_.out (by kernel_rfl)) (fun _ _ _ h => h) (Or.inr ⟨by rfl, rfl⟩) ?_ ?_
          rotate_left
          · simp only [Act.put, List.setIfInBounds_toArray, List.set_cons_zero, List.set_cons_succ, i64_w, i32_w]
            rfl
          refine pure_ (i := 8) (N := some 72) (v := undef) (a' := ?_) #[true, true, true, true, true, true, true, true, true, false, false] rfl rfl (any_of HT_.out (by kernel_rfl)) (fun _ _ _ h => h) (Or.inr ⟨by rfl, rfl⟩) ?_ ?_
          rotate_left
          · simp only [Act.put, List.setIfInBounds_toArray, List.set_cons_zero, List.set_cons_succ, i64_w, i32_w]
            rfl
          refine pure_ (i := 9) (N := some 73) (v := ?_) (a' := ?_) #[true, true, true, true, true, true, true, true, true, true, false] rfl rfl (any_of HT_.out (by kernel_rfl)) (fun _ _ _ h => h) (Or.inl ⟨by rfl, ?_⟩) ?_ ?_
          rotate_left
          · intro w'
            go_simp
            with_reducible rfl
          rotate_left
          · simp only [Act.put, List.setIfInBounds_toArray, List.set_cons_zero, List.set_cons_succ, i64_w, i32_w]
            rfl
          refine pure_ (i := 10) (N := some 10) (v := ?_) (a' := ?_) #[true, true, true, true, true, true, true, true, true, true, true] rfl rfl (any_of HT_.out (by kernel_rfl)) (fun _ _ _ h => h) (Or.inl ⟨by rfl, ?_⟩) ?_ ?_
          rotate_left
          · intro w'
            go_simp
            with_reducible rfl
          rotate_left
          · simp only [Act.put, List.setIfInBounds_toArray, List.set_cons_zero, List.set_cons_succ, i64_w, i32_w]
            rfl
          refine done_ (done_of HT_.out (by kernel_rfl)) ?_
          have HBz := Aside0.mk (below_step HB.out hHeld)
          clear hS0 hHeld HT_ HW_
          go_wp2
          go_ret
          exact ⟨by rw [HE.out]; rfl, HBz.out⟩
        · obtain rfl : q = [] := List.length_eq_zero_iff.1 (by omega)
          have HE := Aside0.mk (show RES = decide (rootI m d = D) by rw [← HRR.out, ← HCK.out]; exact topB_nil m D d)
          have HRL := Aside0.mk (show (rootI m d).length = 32 by unfold rootI; exact shaI_len _)
          have HLW := Aside0.mk (ldg HGW.out HDL.out)
          generalize hrt : rootI m d = RT at HE HRL
          have HRT := Aside0.mk hrt
          clear hrt
          have heq : ∀ w : World, (Op.equalIn 10000 32 (vd RT) (vd D)).run Tryd.prog w = .ok (decide (RT = D)) w := fun w => eqD HRL.out HDL.out w
          generalize decide (RT = D) = ans at HE heq
          go_upto_region 14 with (fail)
          have hS0 : Below wr.heap.size wr wr.drew := below_drew1 (Below.refl _ _)
          refine start_ (n := 11) (S := fun w' => Below wr.heap.size wr w') (ds := []) #[false, false, false, false, false, false, false, false, false, false, false] (by kernel_rfl) rfl rfl (by exact hS0) (fun hHeld => ?_)
          refine with_tabW ckc_tab14 ckc_bits14 (fun HT_ HW_ => ?_)
          refine pure_ (i := 0) (N := some 64) (v := ?_) (a' := ?_) #[true, false, false, false, false, false, false, false, false, false, false] rfl rfl (any_of HT_.out (by kernel_rfl)) (fun _ _ _ h => h) (Or.inl ⟨by rfl, ?_⟩) ?_ ?_
          rotate_left
          · intro w'
            go_simp
            with_reducible rfl
          rotate_left
          · simp only [Act.put, List.setIfInBounds_toArray, List.set_cons_zero, List.set_cons_succ, i64_w, i32_w]
            rfl
          refine pure_ (i := 1) (N := some 65) (v := ?_) (a' := ?_) #[true, true, false, false, false, false, false, false, false, false, false] rfl rfl (any_of HT_.out (by kernel_rfl)) (fun _ _ _ h => h) (Or.inl ⟨by rfl, ?_⟩) ?_ ?_
          rotate_left
          · intro w'
            go_simp
            with_reducible rfl
          rotate_left
          · simp only [Act.put, List.setIfInBounds_toArray, List.set_cons_zero, List.set_cons_succ, i64_w, i32_w]
            rfl
          refine pure_ (i := 2) (N := some 66) (v := ?_) (a' := ?_) #[true, true, true, false, false, false, false, false, false, false, false] rfl rfl (any_of HT_.out (by kernel_rfl)) (fun _ _ _ h => h) (Or.inl ⟨by rfl, ?_⟩) ?_ ?_
          rotate_left
          · intro w'
            go_simp
            with_reducible rfl
          rotate_left
          · simp only [Act.put, List.setIfInBounds_toArray, List.set_cons_zero, List.set_cons_succ, i64_w, i32_w]
            rfl
          refine pure_ (i := 3) (N := some 67) (v := ?_) (a' := ?_) #[true, true, true, true, false, false, false, false, false, false, false] rfl rfl (any_of HT_.out (by kernel_rfl)) (fun _ _ _ h => h) (Or.inl ⟨by rfl, ?_⟩) ?_ ?_
          rotate_left
          · intro w'
            go_simp
            with_reducible rfl
          rotate_left
          · simp only [Act.put, List.setIfInBounds_toArray, List.set_cons_zero, List.set_cons_succ, i64_w, i32_w]
            rfl
          refine pure_ (i := 4) (N := some 68) (v := ?_) (a' := ?_) #[true, true, true, true, true, false, false, false, false, false, false] rfl rfl (any_of HT_.out (by kernel_rfl)) (fun _ _ _ h => h) (Or.inl ⟨by rfl, ?_⟩) ?_ ?_
          rotate_left
          · intro w'
            go_simp
            with_reducible rfl
          rotate_left
          · simp only [Act.put, List.setIfInBounds_toArray, List.set_cons_zero, List.set_cons_succ, i64_w, i32_w]
            rfl
          refine take_ (i := 5) (N := some 69) (v := ?_) (a' := ?_) #[true, true, true, true, true, true, false, false, false, false, false] rfl rfl (take_ofW HT_.out HW_.out (by kernel_rfl)) (fun _ _ _ h => h) (Or.inl ⟨by rfl, ?_⟩) hHeld ?_ ?_
          rotate_left
          · intro w' hSt
            refine (exec_load (p := .pointer (some ⟨g, 0, none⟩)) rfl rfl (HLG.out w' hSt)).trans ?_
            with_reducible rfl
          rotate_left
          · simp only [Act.put, List.setIfInBounds_toArray, List.set_cons_zero, List.set_cons_succ, i64_w, i32_w]
            rfl
          refine take_ (i := 7) (N := some 71) (v := ?_) (a' := ?_) #[true, true, true, true, true, true, false, true, false, false, false] rfl rfl (take_ofW HT_.out HW_.out (by kernel_rfl)) (fun _ _ _ h => h) (Or.inl ⟨by rfl, ?_⟩) hHeld ?_ ?_
          rotate_left
          · intro w' hSt
            refine (exec_load (p := .pointer (some ⟨w.heap.size, 0, none⟩)) rfl rfl (HLW.out w' hSt)).trans ?_
            with_reducible rfl
          rotate_left
          · simp only [Act.put, List.setIfInBounds_toArray, List.set_cons_zero, List.set_cons_succ, i64_w, i32_w]
            rfl
          refine one_ (i := 6) (N := some 70) #[true, true, true, true, true, true, true, true, false, false, false] rfl rfl (one_of HT_.out (by kernel_rfl)) (by decide) (fun K hK => ?_)
          refine goes_ Tryd.func29 (by kernel_rfl) rfl #[.int .i64 (m : Int), vd d] (by rfl) rfl rfl (by (try simp only [List.map_toArray, List.map_cons, List.map_nil]); first | done | rfl) ?_
          refine (root_calls m d _ HM.out HD.out.1 HD.out.2 (HTR.out.below hHeld)).mono ?_
          rintro e w3 ⟨rfl, hb⟩
          refine ⟨_, rfl, ?_⟩
          rw [HRT.out]
          have hS1 := below_step hHeld hb
          clear hb
          refine hK.out _ _ (by exact hS1) (fun hHeld => ?_)
          clear hK K
          refine norm_ (a' := ?_) ?_ ?_
          rotate_left
          · first
            | (show Act.put _ (some 70) _ = _; simp only [Act.put, List.setIfInBounds_toArray, List.set_cons_zero, List.set_cons_succ, i64_w, i32_w]; rfl)
            | rfl
          refine pure_ (i := 8) (N := some 72) (v := ?_) (a' := ?_) #[true, true, true, true, true, true, true, true, true, false, false] rfl rfl (any_of HT_.out (by kernel_rfl)) (fun _ _ _ h => h) (Or.inl ⟨by rfl, ?_⟩) ?_ ?_
          rotate_left
          · intro w'
            go_simp
            with_reducible rfl
          rotate_left
          · simp only [Act.put, List.setIfInBounds_toArray, List.set_cons_zero, List.set_cons_succ, i64_w, i32_w]
            rfl
          refine pure_ (i := 9) (N := some 73) (v := ?_) (a' := ?_) #[true, true, true, true, true, true, true, true, true, true, false] rfl rfl (any_of HT_.out (by kernel_rfl)) (fun _ _ _ h => h) (Or.inl ⟨by rfl, ?_⟩) ?_ ?_
          rotate_left
          · intro w'
            go_simp
            with_reducible rfl
          rotate_left
          · simp only [Act.put, List.setIfInBounds_toArray, List.set_cons_zero, List.set_cons_succ, i64_w, i32_w]
            rfl
          refine pure_ (i := 10) (N := some 10) (v := ?_) (a' := ?_) #[true, true, true, true, true, true, true, true, true, true, true] rfl rfl (any_of HT_.out (by kernel_rfl)) (fun _ _ _ h => h) (Or.inl ⟨by rfl, ?_⟩) ?_ ?_
          rotate_left
          · intro w'
            go_simp
            with_reducible rfl
          rotate_left
          · simp only [Act.put, List.setIfInBounds_toArray, List.set_cons_zero, List.set_cons_succ, i64_w, i32_w]
            rfl
          refine done_ (done_of HT_.out (by kernel_rfl)) ?_
          have HBz := Aside0.mk (below_step HB.out hHeld)
          clear hS0 hHeld HT_ HW_
          go_wp2
          go_ret
          exact ⟨by rw [HE.out]; rfl, HBz.out⟩
end Go.Proofs.YtllcofllnjgkcaaDoor.Sha
