/- What calls of Go functions of this seat come to, as the rows need it: under the conditions that each theorem names. -/
import Derived.Test.YtebjibkgefgalaaDoorShaC
import Derived.Test.YtebjibkgefgalaaDoorWRepsOne
import Derived.Test.YtebjibkgefgalaaDoorWArr
namespace Go.Proofs.YtebjibkgefgalaaDoor.Sha
open Go.RowKit Go.Proofs.YtebjibkgefgalaaDoorW.PrintWords Go.Proofs.YtebjibkgefgalaaDoorW.PrintLast Go.Proofs.YtebjibkgefgalaaDoorW.PrintMore
set_option linter.unusedVariables false
set_option linter.unusedSimpArgs false
theorem info23 : (Tryd.prog.info? 22).map (fun i => (i.zero, i.size, i.bytes)) = some (some (.slice none 0 0), 1, 24) := by kernel_rfl
def rowD (xs : List (List Int)) (k : Nat) : List Int := xs.getD k []
def flen (xs : List (List Int)) (k : Nat) : Nat := (xs.take k).flatten.length
theorem row_at {w : World} {A : Option Addr} {n : Nat} {xs : List (List Int)} (h : Kd.C (Kd.slice 5 B) w A n xs) (k : Nat) (hk : k < n) : ∃ ad A0 c0, A = some ad ∧ w.cell? (ad.add k) = some (.slice A0 (rowD xs k).length c0) ∧ (rowD xs k).length ≤ c0 ∧ B.C w A0 (rowD xs k).length (rowD xs k) := by
  obtain ⟨ad, c, e, _, hK, hc0⟩ := Kd.C_get h ([] : List Int) (k : Int) (by omega) (by omega)
  have hc : ∀ j u, c[j]? = some u → w.cell? (ad.add (k * 1 + j)) = some u := hc0
  obtain ⟨A0, c0, rfl, l0, g0⟩ := hK
  simp only [Int.toNat_natCast] at l0 g0 hc
  exact ⟨ad, A0, c0, e, by have hq := hc 0 _ rfl; rwa [Nat.mul_one, Nat.add_zero] at hq, l0, g0⟩

theorem flen_succ (xs : List (List Int)) (k : Nat) (hk : k < xs.length) : flen xs (k + 1) = flen xs k + (rowD xs k).length := by
  unfold flen rowD
  rw [List.take_succ_eq_append_getElem hk, List.flatten_append, List.getD_eq_getElem?_getD, List.getElem?_eq_getElem hk]
  simp
theorem flen_all (xs : List (List Int)) : flen xs xs.length = xs.flatten.length := by unfold flen; rw [List.take_length]
theorem flen_le (xs : List (List Int)) (k : Nat) : flen xs k ≤ flen xs xs.length := by
  rw [flen_all]
  unfold flen
  conv => rhs; rw [← List.take_append_drop k xs, List.flatten_append, List.length_append]
  omega
theorem flat_take (xs : List (List Int)) (k : Nat) (hk : k < xs.length) : (xs.take (k + 1)).flatten = (xs.take k).flatten ++ rowD xs k := by
  unfold rowD
  rw [List.take_succ_eq_append_getElem hk, List.flatten_append, List.getD_eq_getElem?_getD, List.getElem?_eq_getElem hk]
  simp
theorem infoDg (D : List Int) (h : D.length = 32) : (Tryd.prog.info? 41).map (·.size) = some (cb D).size := by rw [cb_size, h]; exact infoD
/-- A fresh digest's block. -/
theorem dg_start (w : World) : ∃ w1, w.alloc (.cells #[.int .u8 0, .int .u8 0, .int .u8 0, .int .u8 0, .int .u8 0, .int .u8 0, .int .u8 0, .int .u8 0, .int .u8 0, .int .u8 0, .int .u8 0, .int .u8 0, .int .u8 0, .int .u8 0, .int .u8 0, .int .u8 0, .int .u8 0, .int .u8 0, .int .u8 0, .int .u8 0, .int .u8 0, .int .u8 0, .int .u8 0, .int .u8 0, .int .u8 0, .int .u8 0, .int .u8 0, .int .u8 0, .int .u8 0, .int .u8 0, .int .u8 0, .int .u8 0] 41) = w1 ∧ Aside0 (Below w.heap.size w w1) ∧ Aside0 (w1.heap[w.heap.size]? = some (.cells (cb (List.replicate 32 0)) 41 (0, 0))) ∧ Aside0 (w1.heap.size = w.heap.size + 1) :=
  ⟨_, rfl, ⟨(Below.refl w.heap.size w).alloc (Nat.le_refl _) _⟩, ⟨heap_new _ _⟩, ⟨by simp⟩⟩
section
variable {P : Program}
/-- A digest is told out of its block. -/
theorem dg_ret {fn : Func} {R : Ending → World → Prop} {a : Act} {w : World} {p : Tmp} {g : Nat} {D : List Int} (h : fn.results = #[.cell p 41]) (hp : a.tmps.getD p undef = .pointer (some ⟨g, 0, none⟩)) (hD : D.length = 32)
    (hg : w.heap[g]? = some (.cells (cb D) 41 (0, 0))) (hd : a.defers = []) (hR : R (.returned (vd D)) w) : bodyPost Tryd.prog fn R .ret a w :=
  bodyPost_ret (results_cell_row h _ _ g 41 (cb D) (0, 0) _ hp hg Tryd.underlying41 rfl (infoDg D hD)) hd hR
end
set_option maxHeartbeats 1600000 in
set_option maxRecDepth 100000 in
theorem Sum_calls (A : Option Addr) (c : Nat) (l : List Int) (w : World) (hr : B.C w A l.length l) (hc : l.length ≤ c) (hb : bytes l) (hT : Tab w) (h60 : l.length < 1152921504606846976) :
    Calls Tryd.prog 17 #[.slice A l.length c] w fun e w' => e = .returned (vd (shaI l)) ∧ Below w.heap.size w w' := by
  have HR := Aside0.mk hr
  have HY := Aside0.mk hb
  have HTAB := Aside0.mk hT
  have hl63 := hr.2.1
  clear hr hb hT
  go_enter Tryd.func17, Tryd.ntmps17
  go_upto_region 1 with (fail)
  obtain ⟨w1, hw1, HB1, HD, HZ1⟩ := dg_start w
  rw [hw1]
  clear hw1
  go_wp2_with fail
  refine (sum_calls A c l _ (Kd.C_below HR.out HB1.out) hc HY.out (HTAB.out.below HB1.out) h60).mono ?_
  rintro e w2 ⟨rfl, hb⟩
  have HD2 := Aside0.mk (heap_keep HD.out hb)
  have HB2 := Aside0.mk (below_step HB1.out hb)
  clear hb
  go_wp2_with (first | (refine wpList_store_row rfl 41 (.tmp 2) (.tmp 4) rfl w.heap.size (cb (shaI l)) rfl rfl 41 _ HD2.out (infoDg _ (shaI_len l)) (by rw [cb_size, cb_size, shaI_len]; simp) (cb_one _) ?_))
  (try simp only [Exit.inBlock, Exit.then])
  exact dg_ret rfl rfl (shaI_len l) (setRow_heap _ _ _ _ _ _ HD2.out) rfl ⟨rfl, below_setRow HB2.out (Nat.le_refl _) _⟩
end Go.Proofs.YtebjibkgefgalaaDoor.Sha
