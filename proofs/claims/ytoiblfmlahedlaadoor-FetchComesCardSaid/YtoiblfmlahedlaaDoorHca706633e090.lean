/- What calls of Go functions of this seat come to, as the rows need it: under the conditions that each theorem names. -/
import Derived.Test.YtoiblfmlahedlaaDoorH3cde10612e24
import Derived.WideKeyEntry
section
namespace Go.Proofs.YtoiblfmlahedlaaDoor.As
open Go.RowKit Go.Proofs.YtoiblfmlahedlaaDoorW.PrintWords Go.Proofs.YtoiblfmlahedlaaDoorW.PrintLast Go.Proofs.YtoiblfmlahedlaaDoorW.PrintMore
set_option linter.unusedVariables false
set_option linter.unusedSimpArgs false
set_option maxRecDepth 100000
open Go.Maps
open Go.ChangeMaps (setBlock)
def updT (T : Nat → Nat → Int) (i k : Nat) (x : Int) : Nat → Nat → Int := fun a b => if a = i ∧ b = k then x else T a b
theorem keyLaw : WideMaps.KeyLaw Tryd.prog 111 := deep_law_gate (by kernel_rfl) (by decide) (by decide) (by kernel_rfl) (by kernel_rfl)
theorem setB2 (w : World) (b : Nat) (x y : Obj) : setBlock (setBlock w b x) b y = setBlock w b y := by
  simp [setBlock]
theorem Tm.put {w : World} {b cnt : Nat} {T : Nat → Nat → Int} (h : Tm w b cnt T) {i k : Nat} (hi : i ≤ 1000) (hk : k ≤ 1000) (hc : cnt < maxLen) :
    ∃ (v0 : Value) (st : Nat) (w1 : World), (Instr.mapEntry 102 (.map (some b)) (.agg #[.int .i64 (i : Int), .int .i64 (k : Int)])).run Tryd.prog w = .ok (.tuple #[v0, goInt st]) w1 ∧
      ∀ x : Int, (Lit.int .i64 x).wf = true → ∃ w2, (Instr.entryStore 102 (.map (some b)) (goInt st) (.int .i64 x)).run Tryd.prog w1 = .ok () w2 ∧ Tm w2 b (cnt + 1) (updT T i k x) ∧ w.grownBy w2 (some b) := by
  obtain ⟨D, h1, h2, h3⟩ := h
  have h1' := h1
  obtain ⟨es, clock, hb, F, hs, hD⟩ := h1'
  obtain ⟨v0, st, es1, clock1, hrun, -, hst⟩ := Go.WideElems.entry_then_store keyLaw Tryd.underlying102 zero_int hb F (keyL_of hi hk)
  refine ⟨v0, st, _, hrun, fun x hx => ?_⟩
  obtain ⟨es', clock', hrun2, hup⟩ := hst (setBlock w b (.map es1 clock1)) (.int .i64 x) (Go.ChangeMaps.heap_setBlock_same hb _)
  obtain ⟨w', hrun3, hown, hgr⟩ := h1.update keyed Tryd.underlying102 hc (keyL_of hi hk) (plainElem_int Tryd.underlying3 hx)
  rw [hup] at hrun3
  injection hrun3 with _ hw
  rw [setB2] at hrun2
  refine ⟨_, hrun2, ?_, ?_⟩
  · rw [hw]
    refine ⟨_, hown, h2.put _ _, fun a c ha hcc => ?_⟩
    by_cases e : a = i ∧ c = k
    · obtain ⟨rfl, rfl⟩ := e
      rw [atKey_put_same h2 (keyed.key (keyL_of hi hk))]
      simp [updT]
    · rw [atKey_put_other (fun e2 => e (keyL_inj ha hcc hi hk e2)), h3 a c ha hcc]
      unfold updT
      rw [if_neg e]
  · rw [hw]; exact hgr
theorem heap_setB (w : World) {b : Nat} {x : Obj} (h : w.heap[b]? = some x) (y : Obj) : (setBlock w b y).heap[b]? = some y := by
  have := (Array.getElem?_eq_some_iff.1 h).1
  simp [setBlock, this]
theorem setB_grown (w : World) (b : Nat) (x : Obj) : w.grownBy (setBlock w b x) (some b) :=
  ⟨rfl, rfl, rfl, by simp [setBlock], fun k hk hne => by
    unfold setBlock
    exact Array.getElem?_setIfInBounds_ne (fun e => hne (by rw [e]))⟩
theorem Tm.inc {w : World} {b cnt : Nat} {T : Nat → Nat → Int} (h : Tm w b cnt T) {i k : Nat} (hi : i ≤ 1000) (hk : k ≤ 1000) (hc : cnt < maxLen) :
    ∃ (v0 : Value) (st : Nat) (w1 : World), (Instr.mapEntry 102 (.map (some b)) (.agg #[.int .i64 (i : Int), .int .i64 (k : Int)])).run Tryd.prog w = .ok (.tuple #[v0, goInt st]) w1 ∧ w.grownBy w1 (some b) ∧
      (Instr.lookup 102 (.map (some b)) (.agg #[.int .i64 (i : Int), .int .i64 (k : Int)]) false).run Tryd.prog w1 = .ok (.int .i64 (T i k)) w1 ∧
      ∀ x : Int, (Lit.int .i64 x).wf = true → ∃ w2, (Instr.entryStore 102 (.map (some b)) (goInt st) (.int .i64 x)).run Tryd.prog w1 = .ok () w2 ∧ Tm w2 b (cnt + 1) (updT T i k x) ∧ w.grownBy w2 (some b) := by
  obtain ⟨v0, st, w1, hrun, hst⟩ := h.put hi hk hc
  have hl := h.look hi hk
  obtain ⟨D, h1, h2, h3⟩ := h
  obtain ⟨es, clock, hb, F, hs, hD⟩ := h1
  have hkey := keyL_of hi hk
  have key : w.grownBy w1 (some b) ∧ (Instr.lookup 102 (.map (some b)) (.agg #[.int .i64 (i : Int), .int .i64 (k : Int)]) false).run Tryd.prog w1 = .ok (.int .i64 (T i k)) w1 := by
    rcases keyLaw.find w hkey es.toList F.keys with ⟨f1, f2⟩ | ⟨j, e0, f1, f2, f3⟩
    · have hr : (Instr.mapEntry 102 (.map (some b)) (.agg #[.int .i64 (i : Int), .int .i64 (k : Int)])).run Tryd.prog w = .ok (.tuple #[.int .i64 0, goInt clock]) (setBlock w b (.map (es.push ⟨.agg #[.int .i64 (i : Int), .int .i64 (k : Int)], .int .i64 0, clock⟩) (clock + 1))) := by
        simp [Instr.mapEntry, run_underlying Tryd.underlying102, MapKept.run_getObj_map hb, keyLaw.check w false hkey, f1, zero_int w, MapKept.run_setObj_map _ hb, Result.andThen, setBlock]
      rw [hr] at hrun
      injection hrun with _ hw
      subst hw
      refine ⟨setB_grown _ _ _, ?_⟩
      have hb1 := heap_setB w hb (.map (es.push ⟨.agg #[.int .i64 (i : Int), .int .i64 (k : Int)], .int .i64 0, clock⟩) (clock + 1))
      have hl0 : (Instr.lookup 102 (.map (some b)) (.agg #[.int .i64 (i : Int), .int .i64 (k : Int)]) false).run Tryd.prog w = .ok (.int .i64 0) w := by
        simp [Instr.lookup, run_underlying Tryd.underlying102, MapKept.run_getObj_map hb, keyLaw.check w _ hkey, f1, zero_int w, Result.andThen]
      have e0 : T i k = 0 := by
        have e := hl.symm.trans hl0
        simp only [Result.ok.injEq, Value.int.injEq, true_and, and_true] at e
        exact e
      rw [e0]
      rcases keyLaw.find (setBlock w b (.map (es.push ⟨.agg #[.int .i64 (i : Int), .int .i64 (k : Int)], .int .i64 0, clock⟩) (clock + 1))) hkey (es.push ⟨.agg #[.int .i64 (i : Int), .int .i64 (k : Int)], .int .i64 0, clock⟩).toList (by
        intro e he
        rw [Array.toList_push, List.mem_append, List.mem_singleton] at he
        rcases he with he | rfl
        · exact F.keys e he
        · exact ⟨_, hkey⟩) with ⟨g1, g2⟩ | ⟨j, e1, g1, g2, g3⟩
      · exact absurd rfl (g2 ⟨.agg #[.int .i64 (i : Int), .int .i64 (k : Int)], .int .i64 0, clock⟩ (by simp))
      · have hv : e1.val = .int .i64 0 := by
          rw [Array.toList_push, List.getElem?_append] at g2
          split at g2
          · exact absurd g3 (f2 e1 (List.mem_of_getElem? g2))
          · have := List.mem_of_getElem? g2
            rw [List.mem_singleton] at this
            rw [this]
        rw [hv] at g1
        simp only [Array.toList_push] at g1
        simp [Instr.lookup, run_underlying Tryd.underlying102, MapKept.run_getObj_map hb1, keyLaw.check _ _ hkey, g1, Result.andThen]
    · have hj : es[j]? = some e0 := by simpa using f2
      have hsame : es.modify j (fun e => { e with key := .agg #[.int .i64 (i : Int), .int .i64 (k : Int)] }) = es := by
        apply Array.ext'
        rw [Array.toList_modify]
        apply List.ext_getElem?
        intro q
        rw [List.getElem?_modify]
        by_cases e : j = q
        · subst e
          rw [f2]
          simp [← f3]
        · simp [e]
      have hr : (Instr.mapEntry 102 (.map (some b)) (.agg #[.int .i64 (i : Int), .int .i64 (k : Int)])).run Tryd.prog w = .ok (.tuple #[e0.val, goInt e0.born]) (setBlock w b (.map es clock)) := by
        simp [Instr.mapEntry, run_underlying Tryd.underlying102, MapKept.run_getObj_map hb, keyLaw.check w false hkey, f1, hj, f3, keyLaw.stays w hkey, hsame, MapKept.run_setObj_map _ hb, Result.andThen, setBlock]
      rw [hr] at hrun
      injection hrun with _ hw
      subst hw
      refine ⟨setB_grown _ _ _, ?_⟩
      exact Tm.look (cnt := cnt) ⟨D, ⟨es, clock, heap_setB w hb _, F, hs, hD⟩, h2, h3⟩ hi hk
  exact ⟨v0, st, w1, hrun, key.1, key.2, hst⟩
end Go.Proofs.YtoiblfmlahedlaaDoor.As
end
section
namespace Go.Proofs.YtoiblfmlahedlaaDoor.As
open Go.RowKit Go.Proofs.YtoiblfmlahedlaaDoorW.PrintWords Go.Proofs.YtoiblfmlahedlaaDoorW.PrintLast Go.Proofs.YtoiblfmlahedlaaDoorW.PrintMore
set_option linter.unusedVariables false
set_option linter.unusedSimpArgs false
set_option maxRecDepth 100000
def ownF (S : Nat → U) (D : Nat → Int) (T : Nat → Nat → Int) (n i k : Nat) : U := (T i k, (loadF S (k : Int) n : Int), D k)
def mayF (S : Nat → U) (D : Nat → Int) (win : Int) (n k : Nat) : Prop := D k < 3 ∧ (loadF S (k : Int) n : Int) < win
instance (S : Nat → U) (D : Nat → Int) (win : Int) (n k : Nat) : Decidable (mayF S D win n k) := by unfold mayF; infer_instance
def bestF (S : Nat → U) (D : Nat → Int) (T : Nat → Nat → Int) (win : Int) (n i : Nat) : Nat → Int
  | 0 => -1
  | k + 1 => if mayF S D win n k ∧ (bestF S D T win n i k < 0 ∨ cmp3 (ownF S D T n i k) (ownF S D T n i (bestF S D T win n i k).toNat) < 0) then (k : Int) else bestF S D T win n i k
theorem bestF_rng (S : Nat → U) (D : Nat → Int) (T : Nat → Nat → Int) (win : Int) (n i : Nat) : ∀ k, -1 ≤ bestF S D T win n i k ∧ bestF S D T win n i k < k
  | 0 => by unfold bestF; omega
  | k + 1 => by
    have := bestF_rng S D T win n i k
    unfold bestF
    split <;> omega
end Go.Proofs.YtoiblfmlahedlaaDoor.As
end
