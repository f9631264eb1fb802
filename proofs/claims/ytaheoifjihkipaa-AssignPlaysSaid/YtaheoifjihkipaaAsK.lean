/- What calls of Go functions of this seat come to, as the rows need it: under the conditions that each theorem names. -/
import Derived.Test.YtaheoifjihkipaaAsH
import Derived.Maps.Own
import Derived.Maps.OwnOps
import Derived.DeepKeys5
namespace Go.Proofs.Ytaheoifjihkipaa.As
open Go.RowKit Go.Proofs.YtaheoifjihkipaaW.PrintWords Go.Proofs.YtaheoifjihkipaaW.PrintLast Go.Proofs.YtaheoifjihkipaaW.PrintMore
set_option linter.unusedVariables false
set_option linter.unusedSimpArgs false
theorem keyed : Go.Maps.Keyed Try.prog 60 := Go.Maps.Keyed.of_law (deep_law_gate (by kernel_rfl) (by decide) (by decide) (by kernel_rfl) (by kernel_rfl))
theorem key_at (i k : Int) (hi : (Lit.int .i64 i).wf = true) (hk : (Lit.int .i64 k).wf = true) : ∃ l, keyOf Try.prog 60 (.agg #[.int .i64 i, .int .i64 k]) = some l := by
  have hu := Try.underlying60
  have h3 := Try.underlying3
  unfold keyOf
  rw [hu]
  simp only []
  have hkt : Try.prog.keyType 60 = true := by kernel_rfl
  have hc1 : Try.prog.cellsOf 60 = 2 := by kernel_rfl
  have hc2 : Try.prog.cellsOf 3 = 1 := by kernel_rfl
  have hf : Value.formed Try.prog 60 (.agg #[.int .i64 i, .int .i64 k]) = true := by
    simp [Value.formed, hu, h3, hc1, hc2]
  rw [hkt, hf]
  simp only [Bool.and_self, if_true]
  have hcells : (Value.agg #[.int .i64 i, .int .i64 k]).cells.toList = [.int .i64 i, .int .i64 k] := rfl
  rw [hcells]
  simp only [Program.keyLits, hu]
  obtain ⟨N, hN⟩ : ∃ N, Try.prog.types.size = N + 1 := ⟨_, (by kernel_rfl : Try.prog.types.size = (Try.prog.types.size - 1) + 1)⟩
  rw [hN]
  simp [hc1, hc2, h3, hi, hk, Program.keyLits]
end Go.Proofs.Ytaheoifjihkipaa.As
