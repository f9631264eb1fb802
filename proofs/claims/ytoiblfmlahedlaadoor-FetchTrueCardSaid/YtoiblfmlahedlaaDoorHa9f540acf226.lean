/- What calls of Go functions of this seat come to, as the rows need it: under the conditions that each theorem names. -/
import Derived.Test.YtoiblfmlahedlaaDoorH9c39fe4fc8f2
import Derived.Test.YtoiblfmlahedlaaDoorH3d502e5f63d5
section
namespace Go.Proofs.YtoiblfmlahedlaaDoor.Ref
open Go.RowKit Go.Proofs.YtoiblfmlahedlaaDoorW.PrintWords Go.Proofs.YtoiblfmlahedlaaDoorW.PrintLast Go.Proofs.YtoiblfmlahedlaaDoorW.PrintMore
set_option linter.unusedVariables false
set_option linter.unusedSimpArgs false
set_option maxRecDepth 100000
open Go.Proofs.YtoiblfmlahedlaaDoor.Sha
theorem check_any (D : List Int) (n i : Int) (A A' : Option Addr) (c c' : Nat) (l : List Int) (p : List (List Int)) (w : World) (hD : D.length = 32) (hn : n < 9223372036854775808) (hr : B.C w A l.length l) (hc : l.length ≤ c) (hb : Sha.bytes l) (hl : l.length < 10000000)
    (hp : KD.C w A' p.length p) (hc' : p.length ≤ c') (hpr : isRow p) (hpl : p.length < 1000000) (hT : Tab w) :
    Calls Tryd.prog 40 #[vd D, .int .i64 n, .int .i64 i, .slice A l.length c, .slice A' p.length c'] w fun e w' => e = .returned (.bool (checkB D n i l p)) ∧ Below w.heap.size w w' := by
  unfold checkB
  split
  · rename_i h
    obtain ⟨h1, h2, h3, h4⟩ := h
    obtain ⟨m, rfl⟩ := Int.eq_ofNat_of_zero_le h1
    obtain ⟨j, rfl⟩ := Int.eq_ofNat_of_zero_le h2
    rw [Int.toNat_natCast] at h3 h4 ⊢
    rw [Int.toNat_natCast] at h4 ⊢
    exact check_yes D m j A A' c c' l p w hD (by omega) (by omega) h4 hr hc hb hp hc' hpr (by omega) hT
  · rename_i h
    exact check_no D n i A A' c c' l p w hn hl h
end Go.Proofs.YtoiblfmlahedlaaDoor.Ref
end
section
namespace Go.Proofs.YtoiblfmlahedlaaDoor.Ref
open Go.RowKit Go.Proofs.YtoiblfmlahedlaaDoorW.PrintWords Go.Proofs.YtoiblfmlahedlaaDoorW.PrintLast Go.Proofs.YtoiblfmlahedlaaDoorW.PrintMore
set_option linter.unusedVariables false
set_option linter.unusedSimpArgs false
set_option maxRecDepth 100000
open Go.Proofs.YtoiblfmlahedlaaDoor.Sha
end Go.Proofs.YtoiblfmlahedlaaDoor.Ref
end
