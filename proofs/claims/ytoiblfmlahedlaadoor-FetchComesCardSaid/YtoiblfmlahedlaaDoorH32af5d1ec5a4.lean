/- What calls of Go functions of this seat come to, as the rows need it: under the conditions that each theorem names. -/
import Derived.Test.YtoiblfmlahedlaaDoorHc637e66dafc9
import Derived.Test.YtoiblfmlahedlaaDoorH90499394dd19
import Derived.ChangeArms
import Derived.LaidMore
import Derived.Stop.Joined
section
namespace Go.Proofs.YtoiblfmlahedlaaDoor.Open
open Go.RowKit Go.Proofs.YtoiblfmlahedlaaDoorW.PrintWords Go.ChangeShapes Go.Deep Go.Proofs.YtoiblfmlahedlaaDoor.Sha
set_option linter.unusedVariables false
set_option linter.unusedSimpArgs false
abbrev laidF {H : Type} : List (String × DataW H) := [("murmuration/sha.k", Rows.laid_murmuration_sha_k), ("murmuration/sha.first", Rows.laid_murmuration_sha_first)]
theorem gF : Tryd.prog.globalNamed "murmuration/sha.first" = some 0 := by kernel_rfl
theorem gK : Tryd.prog.globalNamed "murmuration/sha.k" = some 1 := by kernel_rfl
theorem tF : (Tryd.prog.globals[0]?).map (·.type) = some 67 := by kernel_rfl
theorem tK : (Tryd.prog.globals[1]?).map (·.type) = some 68 := by kernel_rfl
theorem cU : Tryd.prog.cellsOf 66 = 1 := by kernel_rfl
theorem datF {H : Type} : (Rows.laid_murmuration_sha_first : DataW H) = .agg (fTab.map fun x => .lit (.int .u32 x)) := rfl
theorem datK {H : Type} : (Rows.laid_murmuration_sha_k : DataW H) = .agg (kTab.map fun x => .lit (.int .u32 x)) := rfl
theorem at_drop {α : Type} {l : List α} {k : Nat} {v : α} (h : (l.drop (k * 1)).take 1 = [v]) : l[k]? = some v := by
  rw [Nat.mul_one] at h
  have h2 : ((l.drop k).take 1)[0]? = some v := by rw [h]; rfl
  rw [List.getElem?_take_of_lt (by omega), List.getElem?_drop] at h2
  simpa using h2
theorem tab_of_laid {W : World} (h : laidMetH Tryd.prog laidF W) : Tab W := by
  rw [MakeChecks.laidMetH_plain _ _ _ (by kernel_rfl)] at h
  obtain ⟨ps, ⟨g0, t0, cs0, f0, p0, q0, hg0, ht0, hv0, hd0, ⟨g1, t1, cs1, f1, p1, q1, hg1, ht1, hv1, hd1, _, _⟩, _⟩, _, _⟩ := h
  obtain rfl := Option.some.inj (gK.symm.trans hg0)
  obtain rfl := Option.some.inj (tK.symm.trans ht0)
  obtain rfl := Option.some.inj (gF.symm.trans hg1)
  obtain rfl := Option.some.inj (tF.symm.trans ht1)
  obtain ⟨xs, m1, rfl, hx1, hlen, hn, hel⟩ := DataW.trod_array Tryd.underlying68 hd0
  obtain ⟨ys, m2, rfl, hy1, hlen2, hn2, hel2⟩ := DataW.trod_array Tryd.underlying67 hd1
  have keyK : ∀ i, i < 64 → W.cell? ⟨1, i, none⟩ = some (.int .u32 (rd kTab (i : Int))) := by
    intro i hi
    have h1 := hel i hi
    rw [cU] at h1
    obtain ⟨y, hy⟩ : ∃ y, xs[i]? = some y := ⟨_, List.getElem?_eq_getElem (by omega)⟩
    rw [hy] at h1
    obtain ⟨v, e1, e2, _⟩ := DataW.trod_int Tryd.underlying66 h1
    rw [datK] at hx1
    have hx2 := congrArg (fun l => l[i]?) (DataW.agg.inj (Prod.mk.inj hx1).1)
    simp only [List.getElem?_map, hy] at hx2
    have hkl : i < kTab.length := hi
    have hrd : rd kTab (i : Int) = v := by
      unfold rd
      rw [Int.toNat_natCast, List.getD_eq_getElem?_getD]
      rw [List.getElem?_eq_getElem hkl] at hx2 ⊢
      rw [e2] at hx2
      simpa using hx2
    rw [hrd]
    have h3 := World.var?_cell hg0 hv0 i
    have h4 := at_drop e1
    rw [Array.getElem?_toList] at h4
    exact h3.trans h4
  have keyF : ∀ i, i < 8 → W.cell? ⟨0, i, none⟩ = some (.int .u32 (rd fTab (i : Int))) := by
    intro i hi
    have h1 := hel2 i hi
    rw [cU] at h1
    obtain ⟨y, hy⟩ : ∃ y, ys[i]? = some y := ⟨_, List.getElem?_eq_getElem (by omega)⟩
    rw [hy] at h1
    obtain ⟨v, e1, e2, _⟩ := DataW.trod_int Tryd.underlying66 h1
    rw [datF] at hy1
    have hx2 := congrArg (fun l => l[i]?) (DataW.agg.inj (Prod.mk.inj hy1).1)
    simp only [List.getElem?_map, hy] at hx2
    have hkl : i < fTab.length := hi
    have hrd : rd fTab (i : Int) = v := by
      unfold rd
      rw [Int.toNat_natCast, List.getD_eq_getElem?_getD]
      rw [List.getElem?_eq_getElem hkl] at hx2 ⊢
      rw [e2] at hx2
      simpa using hx2
    rw [hrd]
    have h3 := World.var?_cell hg1 hv1 i
    have h4 := at_drop e1
    rw [Array.getElem?_toList] at h4
    exact h3.trans h4
  refine ⟨?_, keyK, keyF⟩
  exact World.block_lt_of_cell? W _ (keyK 0 (by omega))
theorem door_met (os : Os) (args : Array Value) : laidMetH Tryd.prog laidF ((World.doorLaid Tryd.prog 400 os).forCall (fun _ _ => 0) ⟨#[], args, []⟩).memory :=
  laidMetH_of_parts3 (fuel := 8) (laidMet_of_run' 8 (by kernel_rfl) (by kernel_rfl)) (by kernel_rfl) (by kernel_rfl)
end Go.Proofs.YtoiblfmlahedlaaDoor.Open
end
section
namespace Go.Proofs.YtoiblfmlahedlaaDoor.Open
open Go.RowKit Go.Proofs.YtoiblfmlahedlaaDoorW.PrintWords Go.ChangeShapes Go.Deep Go.Proofs.YtoiblfmlahedlaaDoor.Sha
set_option linter.unusedVariables false
set_option linter.unusedSimpArgs false
def okD (D : List Int) : Prop := D.length = 32 ∧ ∀ x ∈ D, (Lit.int .u8 x).wf = true
theorem okD.isD {D : List Int} (h : okD D) : Sha.isD D := ⟨h.1, fun x hx => by
  have := bounds_u8 (h.2 x hx)
  omega⟩
end Go.Proofs.YtoiblfmlahedlaaDoor.Open
end
section
namespace Go.Proofs.YtoiblfmlahedlaaDoor.Open
open Go.RowKit Go.Proofs.YtoiblfmlahedlaaDoorW.PrintWords Go.ChangeShapes Go.Deep
set_option linter.unusedVariables false
set_option linter.unusedSimpArgs false
set_option maxRecDepth 100000
end Go.Proofs.YtoiblfmlahedlaaDoor.Open
end
