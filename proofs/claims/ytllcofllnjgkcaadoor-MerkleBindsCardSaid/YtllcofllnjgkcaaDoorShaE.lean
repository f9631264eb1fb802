/- What calls of Go functions of this seat come to, as the rows need it: under the conditions that each theorem names. -/
import Derived.Test.YtllcofllnjgkcaaDoorShaD
namespace Go.Proofs.YtllcofllnjgkcaaDoor.Sha
open Go.RowKit Go.Proofs.YtllcofllnjgkcaaDoorW.PrintWords Go.Proofs.YtllcofllnjgkcaaDoorW.PrintLast Go.Proofs.YtllcofllnjgkcaaDoorW.PrintMore
set_option linter.unusedVariables false
set_option linter.unusedSimpArgs false
def eights (n : Nat) : Nat → List Int
  | 0 => List.replicate 8 0
  | k + 1 => (eights n k).set k ((n : Int) / 2 ^ (56 - 8 * k) % 256)
theorem eights_len (n k : Nat) : (eights n k).length = 8 := by
  induction k with
  | zero => simp [eights]
  | succ k ih => simp [eights, ih]
theorem div_cast (n a : Nat) : (n : Int) / 2 ^ a % 256 = ((n / 2 ^ a % 256 : Nat) : Int) := by rw [Int.natCast_emod, Int.natCast_ediv, Int.natCast_pow]; rfl
theorem eights_all (n : Nat) : eights n 8 = be8 n := by
  simp only [eights, div_cast, be8, List.replicate, List.set_cons_zero, List.set_cons_succ]
  simp
structure E8 (w0 w : World) (d : List Int) : Prop where
  d : w.heap[w0.heap.size]? = some (.cells (cb d) 81 (0, 0))
  b : Below w0.heap.size w0 w
theorem E8.set {w0 w : World} {d : List Int} (h : E8 w0 w d) (j : Nat) (x : Int) : E8 w0 (w.setCell ⟨w0.heap.size, j, none⟩ (.int .u8 x)) (d.set j x) :=
  ⟨by rw [← cb_set]; exact blk_set h.d j _, h.b.setCell (p := ⟨w0.heap.size, j, none⟩) (Nat.le_refl _) _⟩
theorem C_cb {w : World} {g : Nat} {D : List Int} {t : TypeId} (h : w.heap[g]? = some (.cells (cb D) t (0, 0))) (hl : D.length ≤ 9223372036854775807) : B.C w (some ⟨g, 0, none⟩) D.length D :=
  C_block .u8 h D (fun j x hj => by
    have hlt := (List.getElem?_eq_some_iff.1 hj).1
    rw [Nat.zero_add, cb_get hlt]
    unfold rd
    rw [Int.toNat_natCast, List.getD_eq_getElem?_getD, hj]
    rfl) hl
set_option maxHeartbeats 1600000 in
set_option maxRecDepth 100000 in
theorem eight_calls (n : Nat) (w : World) (hn : n < 9223372036854775808) :
    Calls Tryd.prog 40 #[.int .i64 n] w fun e w' => e = .returned (.slice (some ⟨w.heap.size, 0, none⟩) 8 8) ∧ B.C w' (some ⟨w.heap.size, 0, none⟩) 8 (be8 n) ∧ Below w.heap.size w w' := by
  go_enter Tryd.func40, Tryd.ntmps40
  go_wp2
  go_loopw [5] (fun i wr => ∃ k : Nat, k ≤ 8 ∧ i = .int .i64 (k : Int) ∧ Aside0 (E8 w wr (eights n k))) (fun i _ => 8 - (intOf i).toNat)
  case atStart => exact ⟨0, Nat.zero_le _, rfl, ⟨heap_new _ _, (Below.refl w.heap.size w).alloc (Nat.le_refl _) _⟩⟩
  case round =>
    obtain ⟨k, hk, rfl, HS⟩ := hrel
    by_cases hlt : k < 8
    · have hk8 : (k : Int) < 8 := by omega
      have HN := Aside0.mk (show eights n (k + 1) = (eights n k).set k ((n : Int) / 2 ^ (56 - 8 * k) % 256) from rfl)
      obtain ⟨a, ha0⟩ : ∃ a, a = 56 - 8 * k := ⟨_, rfl⟩
      rw [← ha0] at HN
      have ha : 56 - 8 * (k : Int) = (a : Int) := by omega
      have ha1 : a ≤ 64 := by omega
      have hd := (cell_of HS.out.d).2 (cb_get (xs := eights n k) (j := k) (by rw [eights_len]; omega))
      have hf : wr.frozen? ⟨w.heap.size, k, none⟩ = false := by simp [World.frozen?, HS.out.d]
      generalize rd (eights n k) (k : Int) = dv at hd
      clear ha0
      go_wp2
      go_roundw
      case rel => exact ⟨k + 1, by omega, by go_num, ⟨by rw [HN.out]; exact HS.out.set k _⟩⟩
      case measure => simp [intOf]; omega
    · obtain rfl : k = 8 := by omega
      rw [eights_all] at HS
      clear hlt hk
      rw [show ((8 : Nat) : Int) = 8 from rfl]
      go_wp2
      go_ret
      exact ⟨rfl, C_cb HS.out.d (by simp [be8]), HS.out.b⟩
/-- The digests of a chunk, of two digests, of a length and a top. -/
def leafI (i : Nat) (c : List Int) : List Int := shaI (0 :: (be8 i ++ c))
def pairI (a b : List Int) : List Int := shaI (1 :: (a ++ b))
def rootI (n : Nat) (d : List Int) : List Int := shaI (2 :: (be8 n ++ d))
theorem two_rows {w : World} {g : Nat} {A B' : Option Addr} {ca cb' : Nat} {a b : List Int} {t : TypeId} (h : w.heap[g]? = some (.cells #[.slice A a.length ca, .slice B' b.length cb'] t (0, 0))) (ha : B.C w A a.length a) (hca : a.length ≤ ca) (hb : B.C w B' b.length b) (hcb : b.length ≤ cb') :
    Kd.C (Kd.slice 5 B) w (some ⟨g, 0, none⟩) 2 [a, b] := by
  refine C_rows_block _ h [a, b] (fun j x hj => ?_) (by simp)
  rcases j with _ | _ | j
  · obtain rfl : a = x := by simpa using hj
    exact ⟨A, ca, rfl, hca, ha⟩
  · obtain rfl : b = x := by simpa using hj
    exact ⟨B', cb', rfl, hcb, hb⟩
  · simp at hj
theorem flen2 (a b : List Int) : flen [a, b] [a, b].length = a.length + b.length := by simp [flen]
theorem flat2 (a b : List Int) : [a, b].flatten = a ++ b := by simp
set_option maxHeartbeats 1600000 in
set_option maxRecDepth 100000 in
theorem leaf_calls (i : Nat) (A : Option Addr) (c : Nat) (l : List Int) (w : World) (hr : B.C w A l.length l) (hc : l.length ≤ c) (hb : bytes l) (hi : i < 9223372036854775808) (hl : l.length < 10000000) (hT : Tab w) :
    Calls Tryd.prog 35 #[.int .i64 i, .slice A l.length c] w fun e w' => e = .returned (vd (leafI i l)) ∧ Below w.heap.size w w' := by
  have HR := Aside0.mk hr
  have HY := Aside0.mk (bytes_app (be8_bytes i) hb)
  have HTAB := Aside0.mk hT
  clear hr hb hT
  have HSL := Aside0.mk (shaI_len (0 :: (be8 i ++ l)))
  generalize hD : leafI i l = D
  have HDD := Aside0.mk hD
  clear hD
  go_enter Tryd.func35, Tryd.ntmps35
  go_upto_region 1 with (fail)
  obtain ⟨w1, hw1, HB1, HD, HZ1⟩ := dg_start w
  rw [hw1]
  clear hw1
  go_wp2_with fail
  refine (eight_calls i _ hi).mono ?_
  rintro e w2 ⟨rfl, h8, hb⟩
  replace HD := Aside0.mk (heap_keep HD.out hb)
  have HB2 := Aside0.mk (below_step HB1.out hb)
  have H8 := Aside0.mk h8
  clear hb h8
  generalize (some ⟨w1.heap.size, 0, none⟩ : Option Addr) = A8 at H8 ⊢
  go_wp2_with fail
  refine (parts_calls 0 _ 2 [be8 i, l] _ (two_rows (heap_new _ _) (Kd.C_alloc H8.out _) (Nat.le_refl 8) (Kd.C_alloc (Kd.C_below HR.out HB2.out) _) hc) (Nat.le_refl 2) (by omega) (by rw [flat2]; exact HY.out) (by rw [flen2]; simp [be8]; omega) (HTAB.out.below (HB2.out.alloc HB2.out.size _))).mono ?_
  rintro e w3 ⟨rfl, hb⟩
  rw [flat2, show shaI (0 :: (be8 i ++ l)) = D from HDD.out]
  rw [show shaI (0 :: (be8 i ++ l)) = D from HDD.out] at HSL
  have HD2 := Aside0.mk (heap_keep (heap_keep HD.out ((Below.refl _ _).alloc (Nat.le_refl _) _)) hb)
  have HB3 := Aside0.mk (below_step (HB2.out.alloc HB2.out.size _) hb)
  clear hb
  go_wp2_with (first | (refine wpList_store_row rfl 32 (.tmp 4) (.tmp 9) rfl w.heap.size (cb D) rfl rfl 32 _ HD2.out (infoDg _ HSL.out) (by rw [cb_size, cb_size, HSL.out]; simp) (cb_one _) ?_))
  (try simp only [Exit.inBlock, Exit.then])
  exact dg_ret rfl rfl HSL.out (setRow_heap _ _ _ _ _ _ HD2.out) rfl ⟨rfl, below_setRow HB3.out (Nat.le_refl _) _⟩
end Go.Proofs.YtllcofllnjgkcaaDoor.Sha
