/- What calls of Go functions of this seat come to, as the rows need it: under the conditions that each theorem names. -/
import Derived.Test.YtoiblfmlahedlaaDoorH68fb09d8faa8
import Derived.Maps.Views
section
namespace Go.Proofs.YtoiblfmlahedlaaDoor.As
open Go.RowKit Go.Proofs.YtoiblfmlahedlaaDoorW.PrintWords Go.Proofs.YtoiblfmlahedlaaDoorW.PrintLast Go.Proofs.YtoiblfmlahedlaaDoorW.PrintMore
set_option linter.unusedVariables false
set_option linter.unusedSimpArgs false
set_option maxRecDepth 100000
open Go.Maps
noncomputable def keyL (i k : Nat) : Lit := (keyOf Tryd.prog 111 (.agg #[.int .i64 (i : Int), .int .i64 (k : Int)])).getD (.bool false)
theorem keyL_of {i k : Nat} (hi : i ≤ 1000) (hk : k ≤ 1000) : keyOf Tryd.prog 111 (.agg #[.int .i64 (i : Int), .int .i64 (k : Int)]) = some (keyL i k) := by
  obtain ⟨l, hl⟩ := key_at (i : Int) (k : Int) (by simp [Lit.wf, IntKind.min, IntKind.max, IntKind.signed, IntKind.bits]; omega) (by simp [Lit.wf, IntKind.min, IntKind.max, IntKind.signed, IntKind.bits]; omega)
  unfold keyL
  rw [hl]
  rfl
theorem keyL_inj {i k i' k' : Nat} (hi : i ≤ 1000) (hk : k ≤ 1000) (hi' : i' ≤ 1000) (hk' : k' ≤ 1000) (h : keyL i k = keyL i' k') : i = i' ∧ k = k' := by
  have h1 := keyL_of hi hk
  have h2 := keyL_of hi' hk'
  rw [← h] at h2
  have h3 := keyed.inj h1 h2
  simp only [Value.agg.injEq, Array.mk.injEq, List.cons.injEq, Value.int.injEq] at h3
  omega
def Tm (w : World) (b cnt : Nat) (T : Nat → Nat → Int) : Prop := ∃ D : DataW Unit, w.ownsMap Tryd.prog 111 (plainElem Tryd.prog 3) b cnt D ∧ IsMap D ∧ ∀ i k, i ≤ 1000 → k ≤ 1000 → D.atKey (keyL i k) (.lit (.int .i64 0)) = .lit (.int .i64 (T i k))
theorem Tm.below {w w' : World} {b cnt : Nat} {T : Nat → Nat → Int} (h : Tm w b cnt T) (hb : Below w.heap.size w w') : Tm w' b cnt T := by
  obtain ⟨D, h1, h2⟩ := h
  have hlt := h1.lt
  obtain ⟨es, clock, a, F, hs, hD⟩ := h1
  exact ⟨D, ⟨es, clock, heap_keep a hb, F, hs, hD⟩, h2⟩
theorem zero_int (w : World) : (zeroValue 3).run Tryd.prog w = .ok (.int .i64 0) w := by kernel_rfl
theorem Tm.look {w : World} {b cnt : Nat} {T : Nat → Nat → Int} (h : Tm w b cnt T) {i k : Nat} (hi : i ≤ 1000) (hk : k ≤ 1000) :
    (Instr.lookup 102 (.map (some b)) (.agg #[.int .i64 (i : Int), .int .i64 (k : Int)]) false).run Tryd.prog w = .ok (.int .i64 (T i k)) w := by
  obtain ⟨D, h1, h2, h3⟩ := h
  obtain ⟨c, hrun, hat, -⟩ := h1.lookup_int keyed Tryd.underlying102 Tryd.underlying3 (zero_int w) (keyL_of hi hk)
  rw [h3 i k hi hk] at hat
  injection hat with e1
  injection e1 with e2 e3
  rw [hrun, e3]
end Go.Proofs.YtoiblfmlahedlaaDoor.As
end
