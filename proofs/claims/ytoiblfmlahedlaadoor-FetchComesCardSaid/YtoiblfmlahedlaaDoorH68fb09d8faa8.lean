/- What calls of Go functions of this seat come to, as the rows need it: under the conditions that each theorem names. -/
import Derived.Test.YtoiblfmlahedlaaDoorH7e137454c65d
import Derived.Maps.Own
import Derived.Maps.OwnOps
import Derived.DeepKeys5
section
namespace Go.Proofs.YtoiblfmlahedlaaDoor.As
open Go.RowKit Go.Proofs.YtoiblfmlahedlaaDoorW.PrintWords Go.Proofs.YtoiblfmlahedlaaDoorW.PrintLast Go.Proofs.YtoiblfmlahedlaaDoorW.PrintMore
set_option linter.unusedVariables false
set_option linter.unusedSimpArgs false
set_option maxRecDepth 100000
theorem keyed : Go.Maps.Keyed Tryd.prog 111 := Go.Maps.Keyed.of_law (deep_law_gate (by kernel_rfl) (by decide) (by decide) (by kernel_rfl) (by kernel_rfl))
theorem key_at (i k : Int) (hi : (Lit.int .i64 i).wf = true) (hk : (Lit.int .i64 k).wf = true) : ∃ l, keyOf Tryd.prog 111 (.agg #[.int .i64 i, .int .i64 k]) = some l := by
  have hu := Tryd.underlying111
  have h3 := Tryd.underlying3
  unfold keyOf
  rw [hu]
  simp only []
  have hkt : Tryd.prog.keyType 111 = true := by kernel_rfl
  have hc1 : Tryd.prog.cellsOf 111 = 2 := by kernel_rfl
  have hc2 : Tryd.prog.cellsOf 3 = 1 := by kernel_rfl
  have hf : Value.formed Tryd.prog 111 (.agg #[.int .i64 i, .int .i64 k]) = true := by
    simp [Value.formed, hu, h3, hc1, hc2]
  rw [hkt, hf]
  simp only [Bool.and_self, if_true]
  have hcells : (Value.agg #[.int .i64 i, .int .i64 k]).cells.toList = [.int .i64 i, .int .i64 k] := rfl
  rw [hcells]
  simp only [Program.keyLits, hu]
  obtain ⟨N, hN⟩ : ∃ N, Tryd.prog.types.size = N + 1 := ⟨_, (by kernel_rfl : Tryd.prog.types.size = (Tryd.prog.types.size - 1) + 1)⟩
  rw [hN]
  simp [hc1, hc2, h3, hi, hk, Program.keyLits]
end Go.Proofs.YtoiblfmlahedlaaDoor.As
end
