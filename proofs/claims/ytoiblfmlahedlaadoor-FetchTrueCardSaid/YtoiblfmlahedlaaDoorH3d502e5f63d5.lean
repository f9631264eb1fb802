/- What calls of Go functions of this seat come to, as the rows need it: under the conditions that each theorem names. -/
import Derived.Test.YtoiblfmlahedlaaDoorH3087a32cde9d
import Derived.Test.YtoiblfmlahedlaaDoorHcdfb28b62681
import Derived.ChangeArms
import Derived.LaidMore
import Derived.Stop.Joined
section
namespace Go.Proofs.YtoiblfmlahedlaaDoor.Open
open Go.RowKit Go.Proofs.YtoiblfmlahedlaaDoorW.PrintWords Go.ChangeShapes Go.Deep Go.Proofs.YtoiblfmlahedlaaDoor.Sha
set_option linter.unusedVariables false
set_option linter.unusedSimpArgs false
abbrev laidF {H : Type} : List (String × DataW H) := [("murmuration/sha.k", Rows.laid_murmuration_sha_k), ("murmuration/sha.first", Rows.laid_murmuration_sha_first)]
theorem gF : Tryd.prog.globalNamed "murmuration/sha.first" = some 0 := by kernel_rfl
theorem gK : Tryd.prog.globalNamed "murmuration/sha.k" = some 1 := by kernel_rfl
theorem tF : (Tryd.prog.globals[0]?).map (·.type) = some 67 := by kernel_rfl
theorem tK : (Tryd.prog.globals[1]?).map (·.type) = some 68 := by kernel_rfl
theorem cU : Tryd.prog.cellsOf 66 = 1 := by kernel_rfl
theorem datF {H : Type} : (Rows.laid_murmuration_sha_first : DataW H) = .agg (fTab.map fun x => .lit (.int .u32 x)) := rfl
theorem datK {H : Type} : (Rows.laid_murmuration_sha_k : DataW H) = .agg (kTab.map fun x => .lit (.int .u32 x)) := rfl
theorem at_drop {α : Type} {l : List α} {k : Nat} {v : α} (h : (l.drop (k * 1)).take 1 = [v]) : l[k]? = some v := by
  rw [Nat.mul_one] at h
  have h2 : ((l.drop k).take 1)[0]? = some v := by rw [h]; rfl
  rw [List.getElem?_take_of_lt (by omega), List.getElem?_drop] at h2
  simpa using h2
theorem tab_of_laid {W : World} (h : laidMetH Tryd.prog laidF W) : Tab W := by
  rw [MakeChecks.laidMetH_plain _ _ _ (by kernel_rfl)] at h
  obtain ⟨ps, ⟨g0, t0, cs0, f0, p0, q0, hg0, ht0, hv0, hd0, ⟨g1, t1, cs1, f1, p1, q1, hg1, ht1, hv1, hd1, _, _⟩, _⟩, _, _⟩ := h
  obtain rfl := Option.some.inj (gK.symm.trans hg0)
  obtain rfl := Option.some.inj (tK.symm.trans ht0)
  obtain rfl := Option.some.inj (gF.symm.trans hg1)
  obtain rfl := Option.some.inj (tF.symm.trans ht1)
  obtain ⟨xs, m1, rfl, hx1, hlen, hn, hel⟩ := DataW.trod_array Tryd.underlying68 hd0
  obtain ⟨ys, m2, rfl, hy1, hlen2, hn2, hel2⟩ := DataW.trod_array Tryd.underlying67 hd1
  have keyK : ∀ i, i < 64 → W.cell? ⟨1, i, none⟩ = some (.int .u32 (rd kTab (i : Int))) := by
    intro i hi
    have h1 := hel i hi
    rw [cU] at h1
    obtain ⟨y, hy⟩ : ∃ y, xs[i]? = some y := ⟨_, List.getElem?_eq_getElem (by omega)⟩
    rw [hy] at h1
    obtain ⟨v, e1, e2, _⟩ := DataW.trod_int Tryd.underlying66 h1
    rw [datK] at hx1
    have hx2 := congrArg (fun l => l[i]?) (DataW.agg.inj (Prod.mk.inj hx1).1)
    simp only [List.getElem?_map, hy] at hx2
    have hkl : i < kTab.length := hi
    have hrd : rd kTab (i : Int) = v := by
      unfold rd
      rw [Int.toNat_natCast, List.getD_eq_getElem?_getD]
      rw [List.getElem?_eq_getElem hkl] at hx2 ⊢
      rw [e2] at hx2
      simpa using hx2
    rw [hrd]
    have h3 := World.var?_cell hg0 hv0 i
    have h4 := at_drop e1
    rw [Array.getElem?_toList] at h4
    exact h3.trans h4
  have keyF : ∀ i, i < 8 → W.cell? ⟨0, i, none⟩ = some (.int .u32 (rd fTab (i : Int))) := by
    intro i hi
    have h1 := hel2 i hi
    rw [cU] at h1
    obtain ⟨y, hy⟩ : ∃ y, ys[i]? = some y := ⟨_, List.getElem?_eq_getElem (by omega)⟩
    rw [hy] at h1
    obtain ⟨v, e1, e2, _⟩ := DataW.trod_int Tryd.underlying66 h1
    rw [datF] at hy1
    have hx2 := congrArg (fun l => l[i]?) (DataW.agg.inj (Prod.mk.inj hy1).1)
    simp only [List.getElem?_map, hy] at hx2
    have hkl : i < fTab.length := hi
    have hrd : rd fTab (i : Int) = v := by
      unfold rd
      rw [Int.toNat_natCast, List.getD_eq_getElem?_getD]
      rw [List.getElem?_eq_getElem hkl] at hx2 ⊢
      rw [e2] at hx2
      simpa using hx2
    rw [hrd]
    have h3 := World.var?_cell hg1 hv1 i
    have h4 := at_drop e1
    rw [Array.getElem?_toList] at h4
    exact h3.trans h4
  refine ⟨?_, keyK, keyF⟩
  exact World.block_lt_of_cell? W _ (keyK 0 (by omega))
theorem door_met (os : Os) (args : Array Value) : laidMetH Tryd.prog laidF ((World.doorLaid Tryd.prog 400 os).forCall (fun _ _ => 0) ⟨#[], args, []⟩).memory :=
  laidMetH_of_parts3 (fuel := 8) (laidMet_of_run' 8 (by kernel_rfl) (by kernel_rfl)) (by kernel_rfl) (by kernel_rfl)
end Go.Proofs.YtoiblfmlahedlaaDoor.Open
end
section
namespace Go.Proofs.YtoiblfmlahedlaaDoor.Open
open Go.RowKit Go.Proofs.YtoiblfmlahedlaaDoorW.PrintWords Go.ChangeShapes Go.Deep Go.Proofs.YtoiblfmlahedlaaDoor.Sha
set_option linter.unusedVariables false
set_option linter.unusedSimpArgs false
def okD (D : List Int) : Prop := D.length = 32 ∧ ∀ x ∈ D, (Lit.int .u8 x).wf = true
theorem okD.isD {D : List Int} (h : okD D) : Sha.isD D := ⟨h.1, fun x hx => by
  have := bounds_u8 (h.2 x hx)
  omega⟩
end Go.Proofs.YtoiblfmlahedlaaDoor.Open
end
section
namespace Go.Proofs.YtoiblfmlahedlaaDoor.Open
open Go.RowKit Go.Proofs.YtoiblfmlahedlaaDoorW.PrintWords Go.ChangeShapes Go.Deep
set_option linter.unusedVariables false
set_option linter.unusedSimpArgs false
set_option maxRecDepth 100000
abbrev OpB := Int × Int × Int × Int × List Int
abbrev k_t38 : Kd OpB := Kd.pair (Kd.int .i64) (Kd.pair (Kd.int .i64) (Kd.pair (Kd.int .i64) (Kd.pair (Kd.int .i64) (Kd.slice 5 (Kd.int .u8)))))
def okOpB (x : OpB) : Prop := (Lit.int .i64 x.1).wf = true ∧ (Lit.int .i64 x.2.1).wf = true ∧ (Lit.int .i64 x.2.2.1).wf = true ∧ (Lit.int .i64 x.2.2.2.1).wf = true ∧ (∀ y ∈ x.2.2.2.2, (Lit.int .u8 y).wf = true)
theorem opn_t38 : Opn Tryd.prog 38 k_t38 okOpB (fun _ => 0) := ⟨fun h => by
  obtain ⟨xs, n, rfl, hx, hc, hl, hf⟩ := DataW.trod_struct Tryd.underlying38 h
  have hcn : _ = 5 := hc.trans (by kernel_rfl)
  rename_i cs _ _
  match cs, hcn with
  | [c0, c1, c2, c3, c4], _ =>
    match xs, hl with
    | [y0, y1, y2, y3, y4], _ =>
      have h0 := hf 0 _ rfl
      have h1 := hf 1 _ rfl
      have h2 := hf 2 _ rfl
      have h3 := hf 3 _ rfl
      have h4 := hf 4 _ rfl
      have e0 : Tryd.prog.cellsOf 22 = 1 := by kernel_rfl
      have e1 : Tryd.prog.cellsOf 3 = 1 := by kernel_rfl
      simp only [e0, e1, List.drop_zero, List.drop_succ_cons, List.take_succ_cons, List.take_zero, List.getElem?_cons_zero, List.getElem?_cons_succ] at h0 h1 h2 h3 h4
      obtain ⟨n0, a0, _, w0⟩ := DataW.trod_int Tryd.underlying3 h0
      cases a0
      obtain ⟨n1, a1, _, w1⟩ := DataW.trod_int Tryd.underlying3 h1
      cases a1
      obtain ⟨n2, a2, _, w2⟩ := DataW.trod_int Tryd.underlying3 h2
      cases a2
      obtain ⟨n3, a3, _, w3⟩ := DataW.trod_int Tryd.underlying3 h3
      cases a3
      obtain ⟨n4, K4, w4, _⟩ := (opn_slice Tryd.underlying22 (by kernel_rfl) (opn_int Tryd.underlying5)).opn h4
      exact ⟨(n0, n1, n2, n3, n4), ⟨[.int .i64 n0], _, rfl, rfl, ⟨[.int .i64 n1], _, rfl, rfl, ⟨[.int .i64 n2], _, rfl, rfl, ⟨[.int .i64 n3], _, rfl, rfl, K4⟩⟩⟩⟩, ⟨w0, w1, w2, w3, w4⟩, Nat.zero_le _⟩⟩
theorem cells_OpB {w : World} {x : OpB} {cs : List Value} (h : k_t38.K w x cs) : ∃ A4 c4, cs = [.int .i64 x.1, .int .i64 x.2.1, .int .i64 x.2.2.1, .int .i64 x.2.2.2.1, .slice A4 x.2.2.2.2.length c4] ∧ x.2.2.2.2.length ≤ c4 ∧ (Kd.int .u8).C w A4 x.2.2.2.2.length x.2.2.2.2 := by
  obtain ⟨a0, z0, q0, h0, a1, z1, q1, h1, a2, z2, q2, h2, a3, z3, q3, h3, ⟨A4, c4, b4, l4, r4⟩⟩ := h
  have g0 : a0 = [.int .i64 x.1] := h0
  subst g0
  have g1 : a1 = [.int .i64 x.2.1] := h1
  subst g1
  have g2 : a2 = [.int .i64 x.2.2.1] := h2
  subst g2
  have g3 : a3 = [.int .i64 x.2.2.2.1] := h3
  subst g3
  subst b4
  subst q3
  subst q2
  subst q1
  subst q0
  exact ⟨A4, c4, rfl, l4, r4⟩
abbrev AskB := List Int × Bool × List Int × Int × Int × Int × Int
abbrev k_t25 : Kd AskB := Kd.pair (Kd.slice 5 (Kd.int .u8)) (Kd.pair Kd.bool (Kd.pair (Kd.slice 3 (Kd.int .i64)) (Kd.pair (Kd.int .i64) (Kd.pair (Kd.int .i64) (Kd.pair (Kd.int .i64) (Kd.int .i64))))))
def okAskB (x : AskB) : Prop := (∀ y ∈ x.1, (Lit.int .u8 y).wf = true) ∧ True ∧ (∀ y ∈ x.2.2.1, (Lit.int .i64 y).wf = true) ∧ (Lit.int .i64 x.2.2.2.1).wf = true ∧ (Lit.int .i64 x.2.2.2.2.1).wf = true ∧ (Lit.int .i64 x.2.2.2.2.2.1).wf = true ∧ (Lit.int .i64 x.2.2.2.2.2.2).wf = true
theorem opn_t25 : Opn Tryd.prog 25 k_t25 okAskB (fun _ => 0) := ⟨fun h => by
  obtain ⟨xs, n, rfl, hx, hc, hl, hf⟩ := DataW.trod_struct Tryd.underlying25 h
  have hcn : _ = 7 := hc.trans (by kernel_rfl)
  rename_i cs _ _
  match cs, hcn with
  | [c0, c1, c2, c3, c4, c5, c6], _ =>
    match xs, hl with
    | [y0, y1, y2, y3, y4, y5, y6], _ =>
      have h0 := hf 0 _ rfl
      have h1 := hf 1 _ rfl
      have h2 := hf 2 _ rfl
      have h3 := hf 3 _ rfl
      have h4 := hf 4 _ rfl
      have h5 := hf 5 _ rfl
      have h6 := hf 6 _ rfl
      have e0 : Tryd.prog.cellsOf 23 = 1 := by kernel_rfl
      have e1 : Tryd.prog.cellsOf 22 = 1 := by kernel_rfl
      have e2 : Tryd.prog.cellsOf 4 = 1 := by kernel_rfl
      have e3 : Tryd.prog.cellsOf 3 = 1 := by kernel_rfl
      simp only [e0, e1, e2, e3, List.drop_zero, List.drop_succ_cons, List.take_succ_cons, List.take_zero, List.getElem?_cons_zero, List.getElem?_cons_succ] at h0 h1 h2 h3 h4 h5 h6
      obtain ⟨n0, K0, w0, _⟩ := (opn_slice Tryd.underlying22 (by kernel_rfl) (opn_int Tryd.underlying5)).opn h0
      obtain ⟨n1, a1, _⟩ := DataW.trod_bool Tryd.underlying4 h1
      cases a1
      obtain ⟨n2, K2, w2, _⟩ := (opn_slice Tryd.underlying23 (by kernel_rfl) (opn_int Tryd.underlying3)).opn h2
      obtain ⟨n3, a3, _, w3⟩ := DataW.trod_int Tryd.underlying3 h3
      cases a3
      obtain ⟨n4, a4, _, w4⟩ := DataW.trod_int Tryd.underlying3 h4
      cases a4
      obtain ⟨n5, a5, _, w5⟩ := DataW.trod_int Tryd.underlying3 h5
      cases a5
      obtain ⟨n6, a6, _, w6⟩ := DataW.trod_int Tryd.underlying3 h6
      cases a6
      exact ⟨(n0, n1, n2, n3, n4, n5, n6), ⟨[c0], _, rfl, K0, ⟨[.bool n1], _, rfl, rfl, ⟨[c2], _, rfl, K2, ⟨[.int .i64 n3], _, rfl, rfl, ⟨[.int .i64 n4], _, rfl, rfl, ⟨[.int .i64 n5], _, rfl, rfl, rfl⟩⟩⟩⟩⟩⟩, ⟨w0, trivial, w2, w3, w4, w5, w6⟩, Nat.zero_le _⟩⟩
theorem cells_AskB {w : World} {x : AskB} {cs : List Value} (h : k_t25.K w x cs) : ∃ A0 c0 A2 c2, cs = [.slice A0 x.1.length c0, .bool x.2.1, .slice A2 x.2.2.1.length c2, .int .i64 x.2.2.2.1, .int .i64 x.2.2.2.2.1, .int .i64 x.2.2.2.2.2.1, .int .i64 x.2.2.2.2.2.2] ∧ x.1.length ≤ c0 ∧ (Kd.int .u8).C w A0 x.1.length x.1 ∧ x.2.2.1.length ≤ c2 ∧ (Kd.int .i64).C w A2 x.2.2.1.length x.2.2.1 := by
  obtain ⟨a0, z0, q0, ⟨A0, c0, b0, l0, r0⟩, a1, z1, q1, h1, a2, z2, q2, ⟨A2, c2, b2, l2, r2⟩, a3, z3, q3, h3, a4, z4, q4, h4, a5, z5, q5, h5, h6⟩ := h
  subst b0
  have g1 : a1 = [.bool x.2.1] := h1
  subst g1
  subst b2
  have g3 : a3 = [.int .i64 x.2.2.2.1] := h3
  subst g3
  have g4 : a4 = [.int .i64 x.2.2.2.2.1] := h4
  subst g4
  have g5 : a5 = [.int .i64 x.2.2.2.2.2.1] := h5
  subst g5
  have g6 : z5 = [.int .i64 x.2.2.2.2.2.2] := h6
  subst g6
  subst q5
  subst q4
  subst q3
  subst q2
  subst q1
  subst q0
  exact ⟨A0, c0, A2, c2, rfl, l0, r0, l2, r2⟩
end Go.Proofs.YtoiblfmlahedlaaDoor.Open
end
