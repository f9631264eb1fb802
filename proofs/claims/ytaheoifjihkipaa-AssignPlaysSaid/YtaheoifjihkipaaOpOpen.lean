/- Reading calls (four numbers) as data: what an argument's reading gives the walk. No condition. -/
import Derived.Test.YtaheoifjihkipaaOpen
import Derived.Test.YtaheoifjihkipaaAsV
import Derived.ChangeArms
namespace Go.Proofs.Ytaheoifjihkipaa.Open
open Go.RowKit Go.Proofs.YtaheoifjihkipaaW.PrintWords Go.ChangeShapes Go.Deep Go.Proofs.Ytaheoifjihkipaa.As
set_option linter.unusedVariables false
set_option linter.unusedSimpArgs false
abbrev Op4 := Int × Int × Int × Int
abbrev k_t37 : Kd Op4 := Kd.pair (Kd.int .i64) (Kd.pair (Kd.int .i64) (Kd.pair (Kd.int .i64) (Kd.int .i64)))
def okO (x : Op4) : Prop := (Lit.int .i64 x.1).wf = true ∧ (Lit.int .i64 x.2.1).wf = true ∧ (Lit.int .i64 x.2.2.1).wf = true ∧ (Lit.int .i64 x.2.2.2).wf = true
theorem opn_t37 : Opn Try.prog 37 k_t37 okO (fun _ => 0) := ⟨fun h => by
  obtain ⟨xs, n, rfl, hx, hc, hl, hf⟩ := DataW.trod_struct Try.underlying37 h
  have hc4 : _ = 4 := hc.trans (by kernel_rfl)
  rename_i cs _ _
  match cs, hc4 with
  | [c0, c1, c2, c3], _ =>
    match xs, hl with
    | [y0, y1, y2, y3], _ =>
      have h0 := hf 0 _ rfl
      have h1 := hf 1 _ rfl
      have h2 := hf 2 _ rfl
      have h3 := hf 3 _ rfl
      have e0 : Try.prog.cellsOf 3 = 1 := by kernel_rfl
      simp only [e0, List.drop_zero, List.drop_succ_cons, List.take_succ_cons, List.take_zero, List.getElem?_cons_zero, List.getElem?_cons_succ] at h0 h1 h2 h3
      obtain ⟨n0, a0, _, w0⟩ := DataW.trod_int Try.underlying3 h0
      obtain ⟨n1, a1, _, w1⟩ := DataW.trod_int Try.underlying3 h1
      obtain ⟨n2, a2, _, w2⟩ := DataW.trod_int Try.underlying3 h2
      obtain ⟨n3, a3, _, w3⟩ := DataW.trod_int Try.underlying3 h3
      cases a0
      cases a1
      cases a2
      cases a3
      exact ⟨(n0, n1, n2, n3), ⟨[.int .i64 n0], [.int .i64 n1, .int .i64 n2, .int .i64 n3], rfl, rfl, ⟨[.int .i64 n1], [.int .i64 n2, .int .i64 n3], rfl, rfl, ⟨[.int .i64 n2], [.int .i64 n3], rfl, rfl, rfl⟩⟩⟩, ⟨w0, w1, w2, w3⟩, Nat.zero_le _⟩⟩
theorem op_cells {w : World} {x : Op4} {cs : List Value} (h : k_t37.K w x cs) : cs = [.int .i64 x.1, .int .i64 x.2.1, .int .i64 x.2.2.1, .int .i64 x.2.2.2] := by
  obtain ⟨_, _, rfl, h0, _, _, rfl, h1, _, _, rfl, h2, h3⟩ := h
  rw [show _ = [Value.int .i64 x.1] from h0, show _ = [Value.int .i64 x.2.1] from h1, show _ = [Value.int .i64 x.2.2.1] from h2, show _ = [Value.int .i64 x.2.2.2] from h3]
  rfl
end Go.Proofs.Ytaheoifjihkipaa.Open
