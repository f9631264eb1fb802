/- What calls of Go functions of this seat come to, as the rows need it: under the conditions that each theorem names. -/
import Derived.Test.YtaheoifjihkipaaAsP
namespace Go.Proofs.Ytaheoifjihkipaa.As
open Go.RowKit Go.Proofs.YtaheoifjihkipaaW.PrintWords Go.Proofs.YtaheoifjihkipaaW.PrintLast Go.Proofs.YtaheoifjihkipaaW.PrintMore
set_option linter.unusedVariables false
set_option linter.unusedSimpArgs false
/-- The least open chunk, from i on; n: none. -/
def openF (S : Nat → U) : Nat → Nat → Nat
  | 0, i => i
  | f + 1, i => if (S i).1 = 0 then i else openF S f (i + 1)
theorem openF_spec (S : Nat → U) : ∀ f i, i ≤ openF S f i ∧ openF S f i ≤ i + f ∧ (∀ j, i ≤ j → j < openF S f i → (S j).1 ≠ 0) ∧ (openF S f i < i + f → (S (openF S f i)).1 = 0)
  | 0, i => ⟨Nat.le_refl _, Nat.le_refl _, fun j h1 h2 => by unfold openF at h2; omega, fun h => by unfold openF at h; omega⟩
  | f + 1, i => by
    unfold openF
    by_cases h : (S i).1 = 0
    · rw [if_pos h]
      exact ⟨Nat.le_refl _, by omega, fun j h1 h2 => by omega, fun _ => h⟩
    · rw [if_neg h]
      obtain ⟨a, b, c, d⟩ := openF_spec S f (i + 1)
      refine ⟨by omega, by omega, fun j h1 h2 => ?_, fun h2 => d (by omega)⟩
      by_cases e : j = i
      · rw [e]; exact h
      · exact c j (by omega) h2
theorem openF_eq {S : Nat → U} {n i : Nat} (hi : i < n) (h0 : (S i).1 = 0) (hj : ∀ j, j < i → (S j).1 ≠ 0) : openF S n 0 = i := by
  obtain ⟨_, b, c, d⟩ := openF_spec S n 0
  rcases Nat.lt_trichotomy (openF S n 0) i with h | h | h
  · exact absurd (d (by omega)) (hj _ h)
  · exact h
  · exact absurd h0 (c i (by omega) h)
theorem openF_none {S : Nat → U} {n : Nat} (hj : ∀ j, j < n → (S j).1 ≠ 0) : openF S n 0 = n := by
  obtain ⟨_, b, c, d⟩ := openF_spec S n 0
  by_cases h : openF S n 0 < n
  · exact absurd (d (by omega)) (hj _ h)
  · omega
abbrev St := (Nat → U) × (Nat → Int) × (Nat → Nat → Int)
/-- What Next answers, and what stands then. -/
def nextF (now win tm : Int) (n m : Nat) (s : St) : (Int × Int × Bool) × St :=
  let l := lateF now tm s.1 s.2.1 n
  let i := openF l.1 n 0
  let k := bestF l.1 l.2 s.2.2 win n i m
  if i < n ∧ 0 ≤ k then (((i : Int), k, true), (upd l.1 i (1, k, now), l.2, updT s.2.2 i k.toNat (s.2.2 i k.toNat + 1))) else ((0, 0, false), (l.1, l.2, s.2.2))
/-- A plan in memory, its map with it; c: how many calls there were at most. -/
structure PW (w : World) (p gc gd gm cc cd n m : Nat) (win tm : Int) (c : Nat) (s : St) : Prop where
  pl : Pl w p gc gd gm cc cd n m win tm s.1 s.2.1
  mp : Tm w gm c s.2.2
  good : Good n m s.1 s.2.1 (200 * c)
  tb : ∀ i k, 0 ≤ s.2.2 i k ∧ s.2.2 i k ≤ c
  t1 : 1 ≤ tm
  t2 : tm ≤ 1000000
theorem Tm.chg {w w' : World} {a b g cnt : Nat} {T : Nat → Nat → Int} (h : Tm w g cnt T) (hc : Chg a b b w w') (ha : g ≠ a) (hb : g ≠ b) : Tm w' g cnt T := by
  obtain ⟨D, h1, h2⟩ := h
  have hlt := h1.lt
  obtain ⟨es, clock, x, F, hs, hD⟩ := h1
  exact ⟨D, ⟨es, clock, (hc.block g hlt ha hb hb).trans x, F, hs, hD⟩, h2⟩
theorem Tm.more {w : World} {g c c' : Nat} {T : Nat → Nat → Int} (h : Tm w g c T) (hc : c ≤ c') : Tm w g c' T := by
  obtain ⟨D, h1, h2⟩ := h
  obtain ⟨es, clock, x, F, hs, hD⟩ := h1
  exact ⟨D, ⟨es, clock, x, F, by omega, hD⟩, h2⟩
theorem Pl.grown {w w' : World} {p gc gd gm cc cd n m : Nat} {win tm : Int} {S : Nat → U} {D : Nat → Int} (h : Pl w p gc gd gm cc cd n m win tm S D) (hg : w.grownBy w' (some gm)) : Pl w' p gc gd gm cc cd n m win tm S D := by
  have hk : ∀ (k : Nat) (o : Obj), k ≠ gm → w.heap[k]? = some o → w'.heap[k]? = some o := fun k o hk ho => (hg.block k (Array.getElem?_eq_some_iff.1 ho).1 (fun e => hk (by injection e))).trans ho
  obtain ⟨cs, a, b, c⟩ := h.ch
  obtain ⟨ds, a', b', c'⟩ := h.de
  exact ⟨hk _ _ h.e4.symm h.blk, ⟨cs, hk _ _ h.e5.symm a, b, c⟩, ⟨ds, hk _ _ h.e6.symm a', b', c'⟩, h.n1, h.m1, h.e1, h.e2, h.e3, h.e4, h.e5, h.e6⟩
theorem Chg.of_grown {a b c : Nat} {w w' : World} (h : w.grownBy w' (some c)) : Chg a b c w w' := ⟨h.os, h.tape, h.output, h.size, fun k hk _ _ h3 => h.block k hk (fun e => h3 (by injection e))⟩
theorem Chg.wide {a b c : Nat} {w w' : World} (h : Chg a b b w w') : Chg a b c w w' := ⟨h.os, h.tape, h.output, h.size, fun k hk h1 h2 _ => h.block k hk h1 h2 h2⟩
theorem lateF_good {n m : Nat} {S : Nat → U} {D : Nat → Int} {B : Int} (h : Good n m S D B) (now tm : Int) : ∀ i, Good n m (lateF now tm S D i).1 (lateF now tm S D i).2 (B + i)
  | 0 => ⟨h.1, fun k => by have := h.2 k; exact ⟨this.1, by show D k ≤ _; omega⟩⟩
  | i + 1 => by
    have h1 := lateF_good h now tm i
    refine ⟨?_, fun k => lateF_D h now tm (i + 1) k⟩
    unfold lateF
    split
    · intro j hj hs
      by_cases e : j = i
      · subst e
        simp only [upd_same] at hs
        cases hs
      · simp only [upd_other _ _ _ _ e] at hs ⊢
        exact h1.1 j hj hs
    · exact h1.1
theorem wf_i64 {x : Int} (h : -9223372036854775808 ≤ x) (h' : x ≤ 9223372036854775807) : (Lit.int .i64 x).wf = true := by
  simp [Lit.wf, IntKind.min, IntKind.max, IntKind.signed, IntKind.bits]; omega
end Go.Proofs.Ytaheoifjihkipaa.As
