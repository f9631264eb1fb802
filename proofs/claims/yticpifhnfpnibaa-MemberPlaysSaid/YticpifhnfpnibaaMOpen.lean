/- Reading an update as data: what an argument's reading gives the walk. No condition. -/
import Derived.Test.YticpifhnfpnibaaOpen
import Derived.Test.YticpifhnfpnibaaMemB
import Derived.ChangeArms
namespace Go.Proofs.Yticpifhnfpnibaa.Open
open Go.RowKit Go.Proofs.YticpifhnfpnibaaW.PrintWords Go.ChangeShapes Go.Deep Go.Proofs.Yticpifhnfpnibaa.Mem
set_option linter.unusedVariables false
set_option linter.unusedSimpArgs false
abbrev k_t32 : Kd U := KU
def okU (u : U) : Prop := (Lit.int .i64 u.1).wf = true ∧ (Lit.int .u8 u.2.1).wf = true ∧ (Lit.int .u64 u.2.2).wf = true
theorem opn_t32 : Opn Try.prog 32 KU okU (fun _ => 0) := ⟨fun h => by
  obtain ⟨xs, n, rfl, hx, hc, hl, hf⟩ := DataW.trod_struct Try.underlying32 h
  have hc3 : _ = 3 := hc.trans (by kernel_rfl)
  rename_i cs _ _
  match cs, hc3 with
  | [c0, c1, c2], _ =>
    match xs, hl with
    | [y0, y1, y2], _ =>
      have h0 := hf 0 _ rfl
      have h1 := hf 1 _ rfl
      have h2 := hf 2 _ rfl
      have e0 : Try.prog.cellsOf 3 = 1 := by kernel_rfl
      have e1 : Try.prog.cellsOf 5 = 1 := by kernel_rfl
      have e2 : Try.prog.cellsOf 22 = 1 := by kernel_rfl
      simp only [e0, e1, e2, List.drop_zero, List.drop_succ_cons, List.take_succ_cons, List.take_zero, List.getElem?_cons_zero, List.getElem?_cons_succ] at h0 h1 h2
      obtain ⟨n0, a0, _, w0⟩ := DataW.trod_int Try.underlying3 h0
      obtain ⟨n1, a1, _, w1⟩ := DataW.trod_int Try.underlying5 h1
      obtain ⟨n2, a2, _, w2⟩ := DataW.trod_int Try.underlying22 h2
      cases a0
      cases a1
      cases a2
      exact ⟨(n0, n1, n2), ⟨[.int .i64 n0], [.int .u8 n1, .int .u64 n2], rfl, rfl, ⟨[.int .u8 n1], [.int .u64 n2], rfl, rfl, rfl⟩⟩, ⟨w0, w1, w2⟩, Nat.zero_le _⟩⟩
theorem bounds_u64' {n : Int} (h : (Lit.int .u64 n).wf = true) : 0 ≤ n := (bounds_u64 h).1
end Go.Proofs.Yticpifhnfpnibaa.Open
