/- What calls of Go functions of this seat come to, as the rows need it: under the conditions that each theorem names. -/
import Derived.Test.YtllcofllnjgkcaaDoorRefT
namespace Go.Proofs.YtllcofllnjgkcaaDoor.Ref
open Go.RowKit Go.Proofs.YtllcofllnjgkcaaDoorW.PrintWords Go.Proofs.YtllcofllnjgkcaaDoorW.PrintLast Go.Proofs.YtllcofllnjgkcaaDoorW.PrintMore
set_option linter.unusedVariables false
set_option linter.unusedSimpArgs false
open Go.Proofs.YtllcofllnjgkcaaDoor.Sha
theorem cell_keep {w w' : World} {p : Addr} {v : Value} (h : Below w.heap.size w w') (hc : w.cell? p = some v) : w'.cell? p = some v := by
  have hl := World.block_lt_of_cell? w p hc
  rw [h.cell hl]
  exact hc
theorem chk_D : ∀ (n i : Nat) (d : List Int) (p : List (List Int)), isD d → ∀ r, chk n i d p = some r → isD r.1 := by
  intro n
  induction n using Nat.strongRecOn with
  | ind n ih =>
    intro i d p hd r hr
    by_cases h : n ≤ 1
    · rw [chk_end _ _ _ h] at hr
      cases hr
      exact hd
    · by_cases h2 : n ≤ oth i
      · rw [chk_alone _ _ h h2] at hr
        exact ih _ (by omega) _ _ _ hd r hr
      · cases p with
        | nil => rw [chk_none _ h h2] at hr; cases hr
        | cons x q =>
          rw [chk_cons _ _ _ h h2] at hr
          exact ih _ (by omega) _ _ _ (by split <;> (unfold pairI; exact sha_D _)) r hr
/-- What Check tells, of what path tells. -/
theorem pathV_check (D : List Int) (n i : Nat) (l : List Int) (p : List (List Int)) :
    (checkR D n i l p = false ∧ (pathV n i l p).2 = false) ∨ ∃ (rows : List (List Int)) (t : List Int), checkR D n i l p = decide (rootI n t = D) ∧ isD t ∧ pathV n i l p = (rows ++ [2 :: (be8 n ++ t)], true) := by
  have h := pathR_chk (countN n) i (leafI i l) p
  have hd : isD (leafI i l) := by unfold leafI; exact sha_D _
  have ht := chk_D (countN n) i (leafI i l) p hd
  unfold checkR pathV
  generalize leafI i l = d0 at *
  rw [← h]
  rw [← h] at ht
  cases hp : pathR (countN n) i d0 p with
  | none => exact Or.inl ⟨rfl, rfl⟩
  | some r =>
    obtain ⟨rows, t, q⟩ := r
    rw [hp] at ht
    have hT : isD t := ht (t, q) rfl
    by_cases hq : 0 < q.length
    · exact Or.inl ⟨topB_left n D t hq, decide_eq_false (by omega)⟩
    · obtain rfl : q = [] := List.length_eq_zero_iff.1 (by omega)
      exact Or.inr ⟨[0 :: (be8 i ++ l)] ++ rows, t, topB_nil n D t, hT, rfl⟩
set_option maxHeartbeats 800000 in
set_option maxRecDepth 100000 in
theorem rcheck_no (gh : Nat) (D : List Int) (n i : Int) (A A' : Option Addr) (c c' : Nat) (l : List Int) (p : List (List Int)) (w : World) (hn : n < 9223372036854775808) (hl : l.length < 10000000)
    (hno : ¬ (0 ≤ n ∧ 0 ≤ i ∧ i < (countN n.toNat : Int) ∧ l.length = sizeN n.toNat i.toNat)) :
    Calls Tryd.prog 22 #[.pointer (some ⟨gh, 0, none⟩), vd D, .int .i64 n, .int .i64 i, .slice A l.length c, .slice A' p.length c'] w fun e w' => e = .returned (.bool false) ∧ Below w.heap.size w w' := by
  by_cases hz : n < 0
  · clear hno hn hl
    go_enter Tryd.func22, Tryd.ntmps22
    go_wp2
    go_ret
    exact ⟨rfl, (Below.refl _ _).alloc (Nat.le_refl _) _⟩
  by_cases h0 : i < 0
  · have hz2 : decide (n < 0) = false := decide_eq_false hz
    clear hno hn hl
    go_enter Tryd.func22, Tryd.ntmps22
    go_wp2
    go_ret
    exact ⟨rfl, (Below.refl _ _).alloc (Nat.le_refl _) _⟩
  obtain ⟨m, rfl⟩ := Int.eq_ofNat_of_zero_le (Int.not_lt.1 hz)
  obtain ⟨j, rfl⟩ := Int.eq_ofNat_of_zero_le (Int.not_lt.1 h0)
  have HC := Aside0.mk (fun w => rcount_calls m w (by omega))
  rw [Int.toNat_natCast, Int.toNat_natCast] at hno
  clear hz h0
  by_cases hj : countN m ≤ j
  · have e1 : decide ((j : Int) ≥ (countN m : Int)) = true := decide_eq_true (by omega)
    have e2 : decide (countN m ≤ j) = true := decide_eq_true hj
    clear hno hn hl
    generalize countN m = N at *
    go_enter Tryd.func22, Tryd.ntmps22
    go_wp2_with fail
    refine (HC.out _).mono ?_
    rintro e w1 ⟨rfl, rfl⟩
    go_wp2
    go_ret
    exact ⟨rfl, (Below.refl _ _).alloc (Nat.le_refl _) _⟩
  · have e1 : decide ((j : Int) ≥ (countN m : Int)) = false := decide_eq_false (by omega)
    have e2 : decide (countN m ≤ j) = false := decide_eq_false hj
    have h64 := count_lt (Nat.lt_of_not_le hj)
    have HS := Aside0.mk (fun w => rsize2 m j w (by omega) (by omega))
    have hs : l.length ≠ sizeN m j := fun h => hno ⟨by omega, by omega, by omega, h⟩
    have hq : ((l.length : Int) != (sizeN m j : Int)) = true := by rw [bne_iff_ne]; omega
    have hq2 : (l.length != sizeN m j) = true := by simpa using hs
    have hjn : j < countN m := Nat.lt_of_not_le hj
    clear hno hj h64 hn hs
    generalize countN m = N at *
    generalize sizeN m j = z at *
    go_enter Tryd.func22, Tryd.ntmps22
    go_wp2_with fail
    refine (HC.out _).mono ?_
    rintro e w1 ⟨rfl, rfl⟩
    go_wp2_with fail
    refine (HS.out _).mono ?_
    rintro e w1 ⟨rfl, rfl⟩
    go_wp2
    go_ret
    exact ⟨rfl, (Below.refl _ _).alloc (Nat.le_refl _) _⟩
def rck_T4 : Bool × List (List Nat × List Nat) := (true, [([], []), ([0], [0]), ([1], [1]), ([1], [1]), ([1], [1]), ([4, 1], [1, 4]), ([5, 1], [1, 5]), ([3, 6, 1], [1, 3, 6]), ([7, 1], [1, 7]), ([2, 8, 1, 1], [1, 2, 8]), ([1], [1]), ([9, 10, 1], [1, 9, 10]), ([1, 11], [1, 11]), ([12, 9, 0, 1, 2, 3, 4, 5, 6, 7, 8, 9, 10, 11, 12], [12])])
def rck_B4 : List Nat := [0, 1, 3, 3, 3, 19, 51, 123, 251, 511, 3, 2047, 4095, 8191]
theorem rck_tab4 : rtab .any (opsOf Tryd.f22 4) = rck_T4 := by kernel_rfl
theorem rck_bits4 : waitsOk rck_T4.2 rck_B4 = true := by kernel_rfl
set_option maxHeartbeats 1600000 in
set_option maxRecDepth 100000 in
theorem rcheck_yes (gh : Nat) (D : List Int) (m j : Nat) (A A' : Option Addr) (c c' : Nat) (l : List Int) (p : List (List Int)) (w : World) (hg : w.heap[gh]? = some (.cells hk 54 (0, 0))) (hD : D.length = 32) (hm : m < 9223372036854775808) (hj : j < countN m) (hs : l.length = sizeN m j)
    (hr : B.C w A l.length l) (hc : l.length ≤ c) (hb : Sha.bytes l) (hp : KD.C w A' p.length p) (hc' : p.length ≤ c') (hpr : isRow p) (hpl : p.length < 1000000) :
    Calls Tryd.prog 22 #[.pointer (some ⟨gh, 0, none⟩), vd D, .int .i64 m, .int .i64 j, .slice A l.length c, .slice A' p.length c'] w fun e w' => e = .returned (.bool (checkR D m j l p)) ∧ Below w.heap.size w w' := by
  have HR := Aside0.mk hr
  have HY := Aside0.mk hb
  have HP := Aside0.mk hp
  have HPR := Aside0.mk hpr
  have HM := Aside0.mk hm
  have HDL := Aside0.mk hD
  have HG := Aside0.mk hg
  have HJ := Aside0.mk hj
  have HC := Aside0.mk (fun w => rcount_calls m w hm)
  have HZ := Aside0.mk (fun w => rsize2 m j w hm (by have := count_lt hj; omega))
  have HL64 := Aside0.mk (show l.length ≤ 64 by rw [hs]; unfold sizeN; omega)
  have HPV := Aside0.mk (pathV_check D m j l p)
  have e1 : decide ((j : Int) ≥ (countN m : Int)) = false := decide_eq_false (by omega)
  have e2 : decide (countN m ≤ j) = false := decide_eq_false (by omega)
  have hq : ((l.length : Int) != (sizeN m j : Int)) = false := by rw [bne_eq_false_iff_eq]; omega
  have hq2 : (l.length != sizeN m j) = false := by simpa using hs
  have hjn := hj
  clear hr hb hp hpr hm hD hj hs hg
  generalize checkR D m j l p = RES at HPV ⊢
  generalize sizeN m j = z at *
  generalize hN : countN m = N at e1 e2 HC hjn
  clear hN
  go_enter Tryd.func22, Tryd.ntmps22
  go_upto_region 1 with (fail)
  have HBX := Aside0.mk (show Below w.heap.size w (w.alloc (.cells (cb D) 32)) from (Below.refl _ _).alloc (Nat.le_refl _) _)
  have HGW := Aside0.mk (Sha.heap_new w (.cells (cb D) 32))
  generalize w.alloc (.cells (cb D) 32) = w1 at HBX HGW ⊢
  go_wp2_with fail
  refine (HC.out _).mono ?_
  rintro e w2 ⟨rfl, hw⟩
  replace hw := hw.symm
  subst hw
  go_wp2_with fail
  refine (HZ.out _).mono ?_
  rintro e w2 ⟨rfl, hw⟩
  replace hw := hw.symm
  subst hw
  go_wp2_with fail
  clear e1 e2 hq hq2 hjn HC HZ
  refine (path_calls gh m j A A' c c' l p _ (heap_keep HG.out HBX.out) HM.out HJ.out (Kd.C_below HR.out HBX.out) hc HY.out (by have := HL64.out; omega) (Kd.C_below HP.out HBX.out) hc' HPR.out hpl).mono ?_
  rintro e w2 ⟨v, rfl, ho, hb⟩
  have HO := Aside0.mk ho
  have HB2 := Aside0.mk (below_step HBX.out hb)
  have HGW2 := Aside0.mk (heap_keep HGW.out hb)
  have HG2 := Aside0.mk (heap_keep HG.out HB2.out)
  clear ho hb HBX HGW
  rcases HPV.out with ⟨h1, h2⟩ | ⟨rows, t, h1, hT, h2⟩
  · rw [h2]
    have HE := Aside0.mk h1
    clear h1 h2 HPV
    go_upto_region 4 with (fail)
    have hS0 : Below w2.heap.size w2 w2.drew := below_drew1 (Below.refl _ _)
    refine start_ (n := 14) (S := fun w' => Below w2.heap.size w2 w') (ds := []) #[false, false, false, false, false, false, false, false, false, false, false, false, false, false] (by kernel_rfl) rfl rfl (by exact hS0) (fun hHeld => ?_)
    refine with_tabW rck_tab4 rck_bits4 (fun HT_ HW_ => ?_)
    refine pure_ (i := 0) (N := some 44) (v := ?_) (a' := ?_) #[true, false, false, false, false, false, false, false, false, false, false, false, false, false] rfl rfl (any_of HT_.out (by kernel_rfl)) (fun _ _ _ h => h) (Or.inl ⟨by rfl, ?_⟩) ?_ ?_
    rotate_left
    · intro w'
      go_simp
      with_reducible rfl
    rotate_left
    · simp only [Act.put, List.setIfInBounds_toArray, List.set_cons_zero, List.set_cons_succ, i64_w, i32_w]
      rfl
    refine pure_ (i := 1) (N := some 45) (v := ?_) (a' := ?_) #[true, true, false, false, false, false, false, false, false, false, false, false, false, false] rfl rfl (any_of HT_.out (by kernel_rfl)) (fun _ _ _ h => h) (Or.inl ⟨by rfl, ?_⟩) ?_ ?_
    rotate_left
    · intro w'
      go_simp
      with_reducible rfl
    rotate_left
    · simp only [Act.put, List.setIfInBounds_toArray, List.set_cons_zero, List.set_cons_succ, i64_w, i32_w]
      rfl
    refine pure_ (i := 2) (N := some 46) (v := undef) (a' := ?_) #[true, true, true, false, false, false, false, false, false, false, false, false, false, false] rfl rfl (any_of HT_.out (by kernel_rfl)) (fun _ _ _ h => h) (Or.inr ⟨by rfl, rfl⟩) ?_ ?_
    rotate_left
    · simp only [Act.put, List.setIfInBounds_toArray, List.set_cons_zero, List.set_cons_succ, i64_w, i32_w]
      rfl
    refine pure_ (i := 3) (N := some 47) (v := undef) (a' := ?_) #[true, true, true, true, false, false, false, false, false, false, false, false, false, false] rfl rfl (any_of HT_.out (by kernel_rfl)) (fun _ _ _ h => h) (Or.inr ⟨by rfl, rfl⟩) ?_ ?_
    rotate_left
    · simp only [Act.put, List.setIfInBounds_toArray, List.set_cons_zero, List.set_cons_succ, i64_w, i32_w]
      rfl
    refine pure_ (i := 4) (N := some 48) (v := undef) (a' := ?_) #[true, true, true, true, true, false, false, false, false, false, false, false, false, false] rfl rfl (any_of HT_.out (by kernel_rfl)) (fun _ _ _ h => h) (Or.inr ⟨by rfl, rfl⟩) ?_ ?_
    rotate_left
    · simp only [Act.put, List.setIfInBounds_toArray, List.set_cons_zero, List.set_cons_succ, i64_w, i32_w]
      rfl
    refine pure_ (i := 5) (N := some 49) (v := undef) (a' := ?_) #[true, true, true, true, true, true, false, false, false, false, false, false, false, false] rfl rfl (any_of HT_.out (by kernel_rfl)) (fun _ _ _ h => h) (Or.inr ⟨by rfl, rfl⟩) ?_ ?_
    rotate_left
    · simp only [Act.put, List.setIfInBounds_toArray, List.set_cons_zero, List.set_cons_succ, i64_w, i32_w]
      rfl
    refine pure_ (i := 6) (N := some 50) (v := undef) (a' := ?_) #[true, true, true, true, true, true, true, false, false, false, false, false, false, false] rfl rfl (any_of HT_.out (by kernel_rfl)) (fun _ _ _ h => h) (Or.inr ⟨by rfl, rfl⟩) ?_ ?_
    rotate_left
    · simp only [Act.put, List.setIfInBounds_toArray, List.set_cons_zero, List.set_cons_succ, i64_w, i32_w]
      rfl
    refine pure_ (i := 7) (N := some 51) (v := undef) (a' := ?_) #[true, true, true, true, true, true, true, true, false, false, false, false, false, false] rfl rfl (any_of HT_.out (by kernel_rfl)) (fun _ _ _ h => h) (Or.inr ⟨by rfl, rfl⟩) ?_ ?_
    rotate_left
    · simp only [Act.put, List.setIfInBounds_toArray, List.set_cons_zero, List.set_cons_succ, i64_w, i32_w]
      rfl
    refine pure_ (i := 8) (N := some 52) (v := undef) (a' := ?_) #[true, true, true, true, true, true, true, true, true, false, false, false, false, false] rfl rfl (any_of HT_.out (by kernel_rfl)) (fun _ _ _ h => h) (Or.inr ⟨by rfl, rfl⟩) ?_ ?_
    rotate_left
    · simp only [Act.put, List.setIfInBounds_toArray, List.set_cons_zero, List.set_cons_succ, i64_w, i32_w]
      rfl
    refine pure_ (i := 9) (N := some 53) (v := undef) (a' := ?_) #[true, true, true, true, true, true, true, true, true, true, false, false, false, false] rfl rfl (any_of HT_.out (by kernel_rfl)) (fun _ _ _ h => h) (Or.inr ⟨by rfl, rfl⟩) ?_ ?_
    rotate_left
    · simp only [Act.put, List.setIfInBounds_toArray, List.set_cons_zero, List.set_cons_succ, i64_w, i32_w]
      rfl
    refine pure_ (i := 10) (N := some 54) (v := undef) (a' := ?_) #[true, true, true, true, true, true, true, true, true, true, true, false, false, false] rfl rfl (any_of HT_.out (by kernel_rfl)) (fun _ _ _ h => h) (Or.inr ⟨by rfl, rfl⟩) ?_ ?_
    rotate_left
    · simp only [Act.put, List.setIfInBounds_toArray, List.set_cons_zero, List.set_cons_succ, i64_w, i32_w]
      rfl
    refine pure_ (i := 11) (N := some 55) (v := undef) (a' := ?_) #[true, true, true, true, true, true, true, true, true, true, true, true, false, false] rfl rfl (any_of HT_.out (by kernel_rfl)) (fun _ _ _ h => h) (Or.inr ⟨by rfl, rfl⟩) ?_ ?_
    rotate_left
    · simp only [Act.put, List.setIfInBounds_toArray, List.set_cons_zero, List.set_cons_succ, i64_w, i32_w]
      rfl
    refine pure_ (i := 12) (N := some 56) (v := ?_) (a' := ?_) #[true, true, true, true, true, true, true, true, true, true, true, true, true, false] rfl rfl (any_of HT_.out (by kernel_rfl)) (fun _ _ _ h => h) (Or.inl ⟨by rfl, ?_⟩) ?_ ?_
    rotate_left
    · intro w'
      go_simp
      with_reducible rfl
    rotate_left
    · simp only [Act.put, List.setIfInBounds_toArray, List.set_cons_zero, List.set_cons_succ, i64_w, i32_w]
      rfl
    refine pure_ (i := 13) (N := some 12) (v := ?_) (a' := ?_) #[true, true, true, true, true, true, true, true, true, true, true, true, true, true] rfl rfl (any_of HT_.out (by kernel_rfl)) (fun _ _ _ h => h) (Or.inl ⟨by rfl, ?_⟩) ?_ ?_
    rotate_left
    · intro w'
      go_simp
      with_reducible rfl
    rotate_left
    · simp only [Act.put, List.setIfInBounds_toArray, List.set_cons_zero, List.set_cons_succ, i64_w, i32_w]
      rfl
    refine done_ (done_of HT_.out (by kernel_rfl)) ?_
    have HBz := Aside0.mk (below_step HB2.out hHeld)
    clear hS0 hHeld HT_ HW_
    go_wp2
    go_ret
    exact ⟨by rw [HE.out]; rfl, HBz.out⟩
  · rw [h2] at HO ⊢
    have HE := Aside0.mk h1
    have HTD := Aside0.mk hT
    have HXB := Aside0.mk (show Sha.bytes (2 :: (be8 m ++ t)) from fun x hx => by
      rcases List.mem_cons.1 hx with rfl | hx
      · omega
      · exact bytes_app (be8_bytes m) HTD.out.2 x hx)
    have HXN := Aside0.mk (show (2 :: (be8 m ++ t)).length < 100000000 by simp [be8, HTD.out.1])
    have HSX := Aside0.mk (show shaI (2 :: (be8 m ++ t)) = rootI m t from rfl)
    have HRL := Aside0.mk (show (rootI m t).length = 32 by unfold rootI; exact shaI_len _)
    clear h1 h2 hT HPV
    generalize rootI m t = RT at HE HSX HRL
    obtain ⟨X, hX⟩ : ∃ X, X = 2 :: (be8 m ++ t) := ⟨_, rfl⟩
    rw [← hX] at HXB HXN HSX HO
    clear hX
    replace HO := Aside0.mk (show Kd.R KS 22 w2 w1.heap.size (fun _ => True) v (rows ++ [X]) from HO.out)
    obtain ⟨rr, hrr⟩ : ∃ rr, rr = rows ++ [X] := ⟨_, rfl⟩
    rw [← hrr] at HO
    have hrl1 : (rr.length : Int) - 1 = (rows.length : Int) := by rw [hrr]; simp
    have hrl2 : rows.length < rr.length := by rw [hrr]; simp
    have hrX : rowD rr rows.length = X := by rw [hrr]; simp [rowD, List.getD_eq_getElem?_getD]
    clear hrr
    obtain ⟨A8, c8, rfl, hc8, hr8⟩ := Kd.R_reads HO.out
    obtain ⟨ad, A9, c9, rfl, hcell, hc9, hC9⟩ := row_at hr8 rows.length hrl2
    rw [hrX] at hcell hc9 hC9
    have hrl : IntKind.i64.wrap ((rr.length : Int) - 1) = (rows.length : Int) := by
      have h1 := hr8.2.1
      rw [IntKind.wrap_i64]
      omega
    clear hrl1
    have HXC := Aside0.mk (show ∀ w' : World, Below w2.heap.size w2 w' → w'.cell? (ad.add rows.length) = some (.slice A9 X.length c9) from fun w' h => cell_keep h hcell)
    have HC9 := Aside0.mk hC9
    have HLW := Aside0.mk (ldg HGW2.out HDL.out)
    clear hr8 hcell hC9 hrX
    generalize rows.length = k at *
    have heq : ∀ w : World, (Op.equalIn 10000 32 (vd RT) (vd D)).run Tryd.prog w = .ok (decide (RT = D)) w := fun w => eqD HRL.out HDL.out w
    generalize decide (RT = D) = ans at HE heq
    go_upto_region 4 with (fail)
    have hS0 : Below w2.heap.size w2 w2.drew := below_drew1 (Below.refl _ _)
    refine start_ (n := 14) (S := fun w' => Below w2.heap.size w2 w') (ds := []) #[false, false, false, false, false, false, false, false, false, false, false, false, false, false] (by kernel_rfl) rfl rfl (by exact hS0) (fun hHeld => ?_)
    refine with_tabW rck_tab4 rck_bits4 (fun HT_ HW_ => ?_)
    refine pure_ (i := 0) (N := some 44) (v := ?_) (a' := ?_) #[true, false, false, false, false, false, false, false, false, false, false, false, false, false] rfl rfl (any_of HT_.out (by kernel_rfl)) (fun _ _ _ h => h) (Or.inl ⟨by rfl, ?_⟩) ?_ ?_
    rotate_left
    · intro w'
      go_simp
      with_reducible rfl
    rotate_left
    · simp only [Act.put, List.setIfInBounds_toArray, List.set_cons_zero, List.set_cons_succ, i64_w, i32_w]
      rfl
    refine pure_ (i := 1) (N := some 45) (v := ?_) (a' := ?_) #[true, true, false, false, false, false, false, false, false, false, false, false, false, false] rfl rfl (any_of HT_.out (by kernel_rfl)) (fun _ _ _ h => h) (Or.inl ⟨by rfl, ?_⟩) ?_ ?_
    rotate_left
    · intro w'
      go_simp
      with_reducible rfl
    rotate_left
    · simp only [Act.put, List.setIfInBounds_toArray, List.set_cons_zero, List.set_cons_succ, i64_w, i32_w]
      rfl
    refine pure_ (i := 2) (N := some 46) (v := ?_) (a' := ?_) #[true, true, true, false, false, false, false, false, false, false, false, false, false, false] rfl rfl (any_of HT_.out (by kernel_rfl)) (fun _ _ _ h => h) (Or.inl ⟨by rfl, ?_⟩) ?_ ?_
    rotate_left
    · intro w'
      go_simp
      with_reducible rfl
    rotate_left
    · simp only [Act.put, List.setIfInBounds_toArray, List.set_cons_zero, List.set_cons_succ, i64_w, i32_w]
      rfl
    refine pure_ (i := 3) (N := some 47) (v := ?_) (a' := ?_) #[true, true, true, true, false, false, false, false, false, false, false, false, false, false] rfl rfl (any_of HT_.out (by kernel_rfl)) (fun _ _ _ h => h) (Or.inl ⟨by rfl, ?_⟩) ?_ ?_
    rotate_left
    · intro w'
      go_simp
      with_reducible rfl
    rotate_left
    · simp only [Act.put, List.setIfInBounds_toArray, List.set_cons_zero, List.set_cons_succ, i64_w, i32_w]
      rfl
    refine pure_ (i := 4) (N := some 48) (v := ?_) (a' := ?_) #[true, true, true, true, true, false, false, false, false, false, false, false, false, false] rfl rfl (any_of HT_.out (by kernel_rfl)) (fun _ _ _ h => h) (Or.inl ⟨by rfl, ?_⟩) ?_ ?_
    rotate_left
    · intro w'
      go_simp
      with_reducible rfl
    rotate_left
    · simp only [Act.put, List.setIfInBounds_toArray, List.set_cons_zero, List.set_cons_succ, i64_w, i32_w]
      rfl
    refine pure_ (i := 5) (N := some 49) (v := ?_) (a' := ?_) #[true, true, true, true, true, true, false, false, false, false, false, false, false, false] rfl rfl (any_of HT_.out (by kernel_rfl)) (fun _ _ _ h => h) (Or.inl ⟨by rfl, ?_⟩) ?_ ?_
    rotate_left
    · intro w'
      go_simp
      with_reducible rfl
    rotate_left
    · simp only [Act.put, List.setIfInBounds_toArray, List.set_cons_zero, List.set_cons_succ, i64_w, i32_w]
      rfl
    refine pure_ (i := 6) (N := some 50) (v := ?_) (a' := ?_) #[true, true, true, true, true, true, true, false, false, false, false, false, false, false] rfl rfl (any_of HT_.out (by kernel_rfl)) (fun _ _ _ h => h) (Or.inl ⟨by rfl, ?_⟩) ?_ ?_
    rotate_left
    · intro w'
      go_simp
      with_reducible rfl
    rotate_left
    · simp only [Act.put, List.setIfInBounds_toArray, List.set_cons_zero, List.set_cons_succ, i64_w, i32_w]
      rfl
    refine pure_ (i := 7) (N := some 51) (v := ?_) (a' := ?_) #[true, true, true, true, true, true, true, true, false, false, false, false, false, false] rfl rfl (any_of HT_.out (by kernel_rfl)) (fun _ _ _ h => h) (Or.inl ⟨by rfl, ?_⟩) ?_ ?_
    rotate_left
    · intro w'
      go_simp
      with_reducible rfl
    rotate_left
    · simp only [Act.put, List.setIfInBounds_toArray, List.set_cons_zero, List.set_cons_succ, i64_w, i32_w]
      rfl
    refine take_ (i := 8) (N := some 52) (v := ?_) (a' := ?_) #[true, true, true, true, true, true, true, true, true, false, false, false, false, false] rfl rfl (take_ofW HT_.out HW_.out (by kernel_rfl)) (fun _ _ _ h => h) (Or.inl ⟨by rfl, ?_⟩) hHeld ?_ ?_
    rotate_left
    · intro w' hSt
      have hcell := HXC.out w' hSt
      go_simp
      with_reducible rfl
    rotate_left
    · simp only [Act.put, List.setIfInBounds_toArray, List.set_cons_zero, List.set_cons_succ, i64_w, i32_w]
      rfl
    refine take_ (i := 10) (N := some 54) (v := ?_) (a' := ?_) #[true, true, true, true, true, true, true, true, true, false, true, false, false, false] rfl rfl (take_ofW HT_.out HW_.out (by kernel_rfl)) (fun _ _ _ h => h) (Or.inl ⟨by rfl, ?_⟩) hHeld ?_ ?_
    rotate_left
    · intro w' hSt
      refine (exec_load (p := .pointer (some ⟨w.heap.size, 0, none⟩)) rfl rfl (HLW.out w' hSt)).trans ?_
      with_reducible rfl
    rotate_left
    · simp only [Act.put, List.setIfInBounds_toArray, List.set_cons_zero, List.set_cons_succ, i64_w, i32_w]
      rfl
    refine one_ (i := 9) (N := some 53) #[true, true, true, true, true, true, true, true, true, true, true, false, false, false] rfl rfl (one_of HT_.out (by kernel_rfl)) (by decide) (fun K hK => ?_)
    refine goes_ Tryd.func31 (by kernel_rfl) rfl #[.pointer (some ⟨gh, 0, none⟩), .slice A9 X.length c9] (by rfl) rfl rfl (by (try simp only [List.map_toArray, List.map_cons, List.map_nil]); first | done | rfl) ?_
    refine (hsum_calls gh A9 c9 X _ (heap_keep HG2.out hHeld) (Kd.C_below HC9.out hHeld) hc9 HXB.out HXN.out).mono ?_
    rintro e w3 ⟨rfl, hb⟩
    refine ⟨_, rfl, ?_⟩
    rw [HSX.out]
    have hS1 := below_step hHeld hb
    clear hb
    refine hK.out _ _ (by exact hS1) (fun hHeld => ?_)
    clear hK K
    refine norm_ (a' := ?_) ?_ ?_
    rotate_left
    · first
      | (show Act.put _ (some 53) _ = _; simp only [Act.put, List.setIfInBounds_toArray, List.set_cons_zero, List.set_cons_succ, i64_w, i32_w]; rfl)
      | rfl
    refine pure_ (i := 11) (N := some 55) (v := ?_) (a' := ?_) #[true, true, true, true, true, true, true, true, true, true, true, true, false, false] rfl rfl (any_of HT_.out (by kernel_rfl)) (fun _ _ _ h => h) (Or.inl ⟨by rfl, ?_⟩) ?_ ?_
    rotate_left
    · intro w'
      go_simp
      with_reducible rfl
    rotate_left
    · simp only [Act.put, List.setIfInBounds_toArray, List.set_cons_zero, List.set_cons_succ, i64_w, i32_w]
      rfl
    refine pure_ (i := 12) (N := some 56) (v := ?_) (a' := ?_) #[true, true, true, true, true, true, true, true, true, true, true, true, true, false] rfl rfl (any_of HT_.out (by kernel_rfl)) (fun _ _ _ h => h) (Or.inl ⟨by rfl, ?_⟩) ?_ ?_
    rotate_left
    · intro w'
      go_simp
      with_reducible rfl
    rotate_left
    · simp only [Act.put, List.setIfInBounds_toArray, List.set_cons_zero, List.set_cons_succ, i64_w, i32_w]
      rfl
    refine pure_ (i := 13) (N := some 12) (v := ?_) (a' := ?_) #[true, true, true, true, true, true, true, true, true, true, true, true, true, true] rfl rfl (any_of HT_.out (by kernel_rfl)) (fun _ _ _ h => h) (Or.inl ⟨by rfl, ?_⟩) ?_ ?_
    rotate_left
    · intro w'
      go_simp
      with_reducible rfl
    rotate_left
    · simp only [Act.put, List.setIfInBounds_toArray, List.set_cons_zero, List.set_cons_succ, i64_w, i32_w]
      rfl
    refine done_ (done_of HT_.out (by kernel_rfl)) ?_
    have HBz := Aside0.mk (below_step HB2.out hHeld)
    clear hS0 hHeld HT_ HW_
    go_wp2
    go_ret
    exact ⟨by rw [HE.out]; rfl, HBz.out⟩
end Go.Proofs.YtllcofllnjgkcaaDoor.Ref
