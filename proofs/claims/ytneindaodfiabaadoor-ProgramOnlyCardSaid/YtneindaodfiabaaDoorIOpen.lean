/- Reading instructions as data, and the fields' table off the listed variable: what an argument's reading gives the walk. No condition. -/
import Derived.Test.YtneindaodfiabaaDoorOpen
import Derived.Test.YtneindaodfiabaaDoorMay
import Derived.ChangeArms
import Derived.LaidMore
import Derived.Stop.Joined
namespace Go.Proofs.YtneindaodfiabaaDoor.Open
open Go.RowKit Go.Proofs.YtneindaodfiabaaDoorW.PrintWords Go.ChangeShapes Go.Deep Go.Proofs.YtneindaodfiabaaDoor.Prog6
set_option linter.unusedVariables false
set_option linter.unusedSimpArgs false
abbrev k_t26 : Kd Ins := KP
def okI (x : Ins) : Prop := (Lit.int .u8 x.1).wf = true ∧ (x.2.1.size ≤ maxLen ∧ x.2.2.1.size ≤ maxLen ∧ x.2.2.2.1.size ≤ maxLen) ∧ (Lit.int .i64 x.2.2.2.2.1).wf = true ∧ (Lit.int .i64 x.2.2.2.2.2).wf = true
theorem opn_t26 : Opn Tryd.prog 26 KP okI (fun _ => 0) := ⟨fun h => by
  obtain ⟨xs, n, rfl, hx, hc, hl, hf⟩ := DataW.trod_struct Tryd.underlying26 h
  have hc6 : _ = 6 := hc.trans (by kernel_rfl)
  rename_i cs _ _
  match cs, hc6 with
  | [c0, c1, c2, c3, c4, c5], _ =>
    match xs, hl with
    | [y0, y1, y2, y3, y4, y5], _ =>
      have h0 := hf 0 _ rfl
      have h1 := hf 1 _ rfl
      have h2 := hf 2 _ rfl
      have h3 := hf 3 _ rfl
      have h4 := hf 4 _ rfl
      have h5 := hf 5 _ rfl
      have e0 : Tryd.prog.cellsOf 5 = 1 := by kernel_rfl
      have e1 : Tryd.prog.cellsOf 9 = 1 := by kernel_rfl
      have e2 : Tryd.prog.cellsOf 3 = 1 := by kernel_rfl
      simp only [e0, e1, e2, List.drop_zero, List.drop_succ_cons, List.take_succ_cons, List.take_zero, List.getElem?_cons_zero, List.getElem?_cons_succ] at h0 h1 h2 h3 h4 h5
      obtain ⟨n0, a0, _, w0⟩ := DataW.trod_int Tryd.underlying5 h0
      obtain ⟨n1, a1, _, w1⟩ := DataW.trod_string Tryd.underlying9 h1
      obtain ⟨n2, a2, _, w2⟩ := DataW.trod_string Tryd.underlying9 h2
      obtain ⟨n3, a3, _, w3⟩ := DataW.trod_string Tryd.underlying9 h3
      obtain ⟨n4, a4, _, w4⟩ := DataW.trod_int Tryd.underlying3 h4
      obtain ⟨n5, a5, _, w5⟩ := DataW.trod_int Tryd.underlying3 h5
      cases a0
      cases a1
      cases a2
      cases a3
      cases a4
      cases a5
      exact ⟨(n0, n1, n2, n3, n4, n5), KP_of _ _, ⟨w0, ⟨w1, w2, w3⟩, w4, w5⟩, Nat.zero_le _⟩⟩
theorem okI.sz {x : Ins} (h : okI x) : szOk x := by
  obtain ⟨_, ⟨a, b, c⟩, _⟩ := h
  unfold maxLen at a b c
  exact ⟨by omega, by omega, by omega⟩
theorem gF : Tryd.prog.globalNamed "murmuration/program.fields" = some 0 := by kernel_rfl
theorem tF : (Tryd.prog.globals[0]?).map (·.type) = some 59 := by kernel_rfl
theorem cS : Tryd.prog.cellsOf 9 = 1 := by kernel_rfl
abbrev laidF {H : Type} : List (String × DataW H) := [("murmuration/program.fields", Rows.laid_murmuration_program_fields)]
theorem datF {H : Type} : (Rows.laid_murmuration_program_fields : DataW H) = .agg ((List.range 12).map fun op => .lit (.string (flds op))) := rfl
theorem at_drop {α : Type} {l : List α} {k : Nat} {v : α} (h : (l.drop (k * 1)).take 1 = [v]) : l[k]? = some v := by
  rw [Nat.mul_one] at h
  have h2 : ((l.drop k).take 1)[0]? = some v := by rw [h]; rfl
  rw [List.getElem?_take_of_lt (by omega), List.getElem?_drop] at h2
  simpa using h2
/-- What the listed variable gives the walk: the fields' table. -/
theorem tab_of_laid {W : World} (h : laidMetH Tryd.prog laidF W) : Tab W := by
  rw [MakeChecks.laidMetH_plain _ _ _ (by kernel_rfl)] at h
  obtain ⟨ps, ⟨g0, t0, cs0, f0, p0, q0, hg0, ht0, hv0, hd0, _, _⟩, _, _⟩ := h
  obtain rfl := Option.some.inj (gF.symm.trans hg0)
  obtain rfl := Option.some.inj (tF.symm.trans ht0)
  obtain ⟨xs, m1, rfl, hx1, hlen, hn, hel⟩ := DataW.trod_array Tryd.underlying59 hd0
  have key : ∀ op, op < 12 → W.cell? ⟨0, op, none⟩ = some (.string (fieldB op)) := by
    intro op hop
    have h1 := hel op hop
    rw [cS] at h1
    obtain ⟨y, hy⟩ : ∃ y, xs[op]? = some y := ⟨_, List.getElem?_eq_getElem (by omega)⟩
    rw [hy] at h1
    obtain ⟨s, e1, e2, _⟩ := DataW.trod_string Tryd.underlying9 h1
    rw [datF] at hx1
    have hx2 := congrArg (fun l => l[op]?) (DataW.agg.inj (Prod.mk.inj hx1).1)
    simp only [List.getElem?_map, hy, Option.map_some] at hx2
    rw [List.getElem?_range hop] at hx2
    have hs : s.data.toList = flds op := by
      rw [e2] at hx2
      simpa using hx2.symm
    have hs2 : s = fieldB op := by
      obtain ⟨⟨l⟩⟩ := s
      have : l = flds op := hs
      subst this
      rfl
    rw [← hs2]
    have h3 := World.var?_cell hg0 hv0 op
    have h4 := at_drop e1
    rw [Array.getElem?_toList] at h4
    exact h3.trans h4
  refine ⟨?_, key⟩
  rcases Nat.eq_zero_or_pos W.heap.size with e | e
  · have h0 := key 0 (by omega)
    have hn0 : W.heap[0]? = none := Array.getElem?_eq_none (by omega)
    simp [World.cell?, hn0] at h0
  · exact e
/-- The door's own heap meets the condition. -/
theorem door_met (os : Os) (args : Array Value) : laidMetH Tryd.prog laidF ((World.doorLaid Tryd.prog 400 os).forCall (fun _ _ => 0) ⟨#[], args, []⟩).memory :=
  laidMetH_of_parts3 (fuel := 8) (laidMet_of_run' 8 (by kernel_rfl) (by kernel_rfl)) (by kernel_rfl) (by kernel_rfl)
end Go.Proofs.YtneindaodfiabaaDoor.Open
