/- What calls of Go functions of this seat come to, as the rows need it: under the conditions that each theorem names. -/
import Derived.Test.YtebjibkgefgalaaDoorRefJ
import Derived.Great.BuildSlice
namespace Go.Proofs.YtebjibkgefgalaaDoor.Ref
open Go.RowKit Go.Proofs.YtebjibkgefgalaaDoorW.PrintWords Go.Proofs.YtebjibkgefgalaaDoorW.PrintLast Go.Proofs.YtebjibkgefgalaaDoorW.PrintMore
set_option linter.unusedVariables false
set_option linter.unusedSimpArgs false
open Go.Proofs.YtebjibkgefgalaaDoor.Sha
/-- The words that a hash holds. -/
def hk : Array Value := cw fTab ++ cw kTab
set_option maxHeartbeats 1600000 in
set_option maxRecDepth 100000 in
theorem new_calls (w : World) : Calls Tryd.prog 12 #[] w fun e w' => ∃ g, e = .returned (.pointer (some ⟨g, 0, none⟩)) ∧ w.heap.size ≤ g ∧ w'.heap[g]? = some (.cells hk 52 (0, 0)) ∧ Below w.heap.size w w' := by
  have HBT := Aside0.mk (show Tryd.prog.built 52 [(0, .agg (cw fTab)), (1, .agg (cw kTab))] = some hk by kernel_rfl)
  generalize hk = CK at HBT ⊢
  go_enter Tryd.func12, Tryd.ntmps12
  go_wp2_with fail
  refine (words_calls _).mono ?_
  rintro e w1 ⟨rfl, hb⟩
  have HB1 := Aside0.mk hb
  clear hb
  have hsF : (cw fTab).size = 8 := by kernel_rfl
  have hsK : (cw kTab).size = 64 := by kernel_rfl
  have HOF := Aside0.mk (cw_one fTab)
  have HOK := Aside0.mk (cw_one kTab)
  have HIF := Aside0.mk (infoH fTab rfl)
  have HIK := Aside0.mk (infoK kTab rfl)
  generalize cw fTab = FT at *
  generalize cw kTab = KT at *
  go_upto_region 2 with (first | (refine wpList_store_row rfl 47 (.tmp 1) (.tmp 5) rfl w1.heap.size FT rfl rfl 47 _ (by rw [Below.heap_alloc _ _ _ (by simp)]; exact Sha.heap_new _ _) HIF.out (by rw [hsF]; rfl) HOF.out ?_) | (refine wpList_store_row rfl 48 (.tmp 2) (.tmp 6) rfl (w1.heap.size + 1) KT rfl rfl 48 _ (by rw [setRow_other _ _ _ _ (by omega)]; exact Sha.heap_new' _ _ _ (by simp)) HIK.out (by rw [hsK]; rfl) HOK.out ?_; generalize hW : World.setRow _ _ _ = W))
  have H0 := Aside0.mk (show W.heap[w1.heap.size]? = some (.cells FT 47 (0, 0)) by
    rw [← hW, setRow_other _ _ _ _ (by omega)]
    exact setRow_heap _ _ _ _ _ _ (by rw [Below.heap_alloc _ _ _ (by simp)]; exact Sha.heap_new _ _))
  have H1 := Aside0.mk (show W.heap[w1.heap.size + 1]? = some (.cells KT 48 (0, 0)) by
    rw [← hW]
    exact setRow_heap _ _ _ _ _ _ (by rw [setRow_other _ _ _ _ (by omega)]; exact Sha.heap_new' _ _ _ (by simp)))
  have HB := Aside0.mk (show Below w.heap.size w W by
    rw [← hW]
    exact below_setRow (below_setRow ((HB1.out.alloc HB1.out.size _).alloc (by have := HB1.out.size; simp; omega) _) HB1.out.size _) (by have := HB1.out.size; omega) _)
  clear hW
  go_wp2_with (first | (refine wpList_load_row rfl 47 (.tmp 1) rfl w1.heap.size rfl 47 FT (0, 0) _ H0.out Tryd.underlying47 rfl HIF.out ?_) | (refine wpList_load_row rfl 48 (.tmp 2) rfl (w1.heap.size + 1) rfl 48 KT (0, 0) _ H1.out Tryd.underlying48 rfl HIK.out ?_) | ((with_reducible refine gate_dst (N := 9) rfl ?_); refine wpList_buildTo rfl 52 _ rfl (some 9) rfl CK (Eq.trans (congrArg (Tryd.prog.built 52) (by simp only [List.map_toArray, List.map_cons, List.map_nil]; rfl)) HBT.out) ?_))
  go_ret
  exact ⟨W.heap.size, rfl, HB.out.size, Sha.heap_new _ _, HB.out.alloc HB.out.size _⟩
end Go.Proofs.YtebjibkgefgalaaDoor.Ref
