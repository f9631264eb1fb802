/- What calls of Go functions of this seat come to, as the rows need it: under the conditions that each theorem names. -/
import Derived.Test.YtaheoifjihkipaaAsZ
namespace Go.Proofs.Ytaheoifjihkipaa.As
open Go.RowKit Go.Proofs.YtaheoifjihkipaaW.PrintWords Go.Proofs.YtaheoifjihkipaaW.PrintLast Go.Proofs.YtaheoifjihkipaaW.PrintMore
set_option linter.unusedVariables false
set_option linter.unusedSimpArgs false
open Go.Proofs.Ytaheoifjihkipaa.Open (Op4)
section
variable {w w' : World} {p gc gd gm cc cd r : Nat} {L L' : Nat → Nat} {n m c c0 c1 c2 c4 : Nat} {win tm : Int} {s s' : St}
theorem PW.keep (h : PW w p gc gd gm cc cd n m win tm c s) (h1 : w'.heap[p]? = w.heap[p]?) (h2 : w'.heap[gc]? = w.heap[gc]?) (h3 : w'.heap[gd]? = w.heap[gd]?) (h4 : w'.heap[gm]? = w.heap[gm]?) : PW w' p gc gd gm cc cd n m win tm c s := by
  obtain ⟨cs, a, b, c⟩ := h.pl.ch
  obtain ⟨ds, a', b', c'⟩ := h.pl.de
  obtain ⟨D, g1, g2⟩ := h.mp
  obtain ⟨es, clock, x, F, hs, hD⟩ := g1
  exact ⟨⟨h1.trans h.pl.blk, ⟨cs, h2.trans a, b, c⟩, ⟨ds, h3.trans a', b', c'⟩, h.pl.n1, h.pl.m1, h.pl.e1, h.pl.e2, h.pl.e3, h.pl.e4, h.pl.e5, h.pl.e6⟩, ⟨D, ⟨es, clock, h4.trans x, F, hs, hD⟩, g2⟩, h.good, h.tb, h.t1, h.t2⟩
theorem RPl.swap0 {S : Nat → U} {D : Nat → Int} {T : Nat → Nat → Int} (h : RPl w r L 0 m c0 c1 c2 c4 win tm S D T) (h3 : L' 3 = L 3) (hi : ∀ a b, a < 0 + 5 → b < 0 + 5 → L' a = L' b → a = b) (hr : ∀ a, a < 0 + 5 → L' a ≠ r) : RPl w r L' 0 m c0 c1 c2 c4 win tm S D T := by
  refine ⟨?_, hi, hr, fun hh => by omega, fun hh => by omega, fun hh => by omega, ?_, fun hh => by omega, fun i hh => by omega, h.n1, h.m1, h.k0, h.kc⟩
  · have q := h.blk
    unfold slN at q ⊢
    rw [h3]
    exact q
  · rw [h3]
    exact h.ba
/-- What a call of the reference's changes: of the blocks that were there, its own ones. -/
structure ChG (w w' : World) (L : Nat → Nat) (n : Nat) : Prop where
  os : w'.os = w.os
  tape : w'.tape = w.tape
  output : w'.output = w.output
  size : w.heap.size ≤ w'.heap.size
  block : ∀ k, k < w.heap.size → (∀ a, a < n + 5 → (a ≤ 2 ∨ a = 4 → 0 < n) → k ≠ L a) → w'.heap[k]? = w.heap[k]?
theorem lift_ref {f : FuncId} {args : Array Value} {V : Value} (hc : ∀ L, RPs w r L n m c0 c1 c2 c4 win tm s → Calls Try.prog f args w fun e w' => e = .returned V ∧ RPs w' r L n m c0 c1 c2 c4 win tm s' ∧ ChL w w' L (n + 5)) (h : RPs w r L n m c0 c1 c2 c4 win tm s) :
    Calls Try.prog f args w fun e w' => e = .returned V ∧ RPs w' r L n m c0 c1 c2 c4 win tm s' ∧ ChG w w' L n := by
  by_cases hn : n = 0
  · subst hn
    obtain ⟨R, hs, hp⟩ := h
    have h3 := hp.lts.2 3 (by omega) (by omega)
    have hr := hp.lts.1
    have e3 : (fun a => if a = 3 then L 3 else w.heap.size + 1 + a) 3 = L 3 := rfl
    refine (hc (fun a => if a = 3 then L 3 else w.heap.size + 1 + a) ⟨R, hs, hp.swap0 e3 (fun a b ha hb he => ?_) (fun a ha => ?_)⟩).mono ?_
    · try dsimp only at he
      split at he <;> split at he <;> omega
    · try dsimp only
      have := hp.rne 3 (by omega)
      split <;> omega
    · rintro e w' ⟨rfl, ⟨R', hs', hq⟩, hch⟩
      refine ⟨rfl, ⟨R', hs', hq.swap0 e3.symm hp.inj hp.rne⟩, ⟨hch.os, hch.tape, hch.output, hch.size, fun k hk ha => hch.block k hk (fun a h5 => ?_)⟩⟩
      have := ha 3 (by omega) (by omega)
      try dsimp only
      split <;> omega
  · exact (hc L h).mono (fun e w' ⟨a, b, c⟩ => ⟨a, b, ⟨c.os, c.tape, c.output, c.size, fun k hk ha => c.block k hk (fun a h5 => ha a h5 (fun _ => by omega))⟩⟩)
theorem RPs.below (h : RPs w r L n m c0 c1 c2 c4 win tm s) (hb : Below w.heap.size w w') : RPs w' r L n m c0 c1 c2 c4 win tm s := by
  obtain ⟨R, hs, hp⟩ := h
  exact ⟨R, hs, hp.below hb⟩
/-- The plan's blocks are none of the reference's. -/
structure Ap (p gc gd gm r : Nat) (L : Nat → Nat) (n : Nat) : Prop where
  rr : r ≠ p ∧ r ≠ gc ∧ r ≠ gd ∧ r ≠ gm
  ll : ∀ a, a < n + 5 → (a ≤ 2 ∨ a = 4 → 0 < n) → p ≠ L a ∧ gc ≠ L a ∧ gd ≠ L a ∧ gm ≠ L a
theorem RPs.chg (h : RPs w r L n m c0 c1 c2 c4 win tm s) (hc : Chg gc gd gm w w') (ha : Ap p gc gd gm r L n) : RPs w' r L n m c0 c1 c2 c4 win tm s := by
  obtain ⟨R, hs, hp⟩ := h
  have hl := hp.lts
  exact ⟨R, hs, hp.keep (hc.block r hl.1 ha.rr.2.1 ha.rr.2.2.1 ha.rr.2.2.2) (fun a h5 hg => hc.block _ (hl.2 a h5 hg) (ha.ll a h5 hg).2.1.symm (ha.ll a h5 hg).2.2.1.symm (ha.ll a h5 hg).2.2.2.symm)⟩
theorem PW.chG (h : PW w p gc gd gm cc cd n m win tm c s) (hc : ChG w w' L n) (ha : Ap p gc gd gm r L n) : PW w' p gc gd gm cc cd n m win tm c s := by
  have hl := h.lts
  exact h.keep (hc.block p hl.1 (fun a h5 hg => (ha.ll a h5 hg).1)) (hc.block gc hl.2.1 (fun a h5 hg => (ha.ll a h5 hg).2.1)) (hc.block gd hl.2.2.1 (fun a h5 hg => (ha.ll a h5 hg).2.2.1)) (hc.block gm hl.2.2.2 (fun a h5 hg => (ha.ll a h5 hg).2.2.2))
theorem ChG.below {B : Nat} (h : ChG w w' L n) (hb : B ≤ w.heap.size) (ha : ∀ a, a < n + 5 → (a ≤ 2 ∨ a = 4 → 0 < n) → B ≤ L a) : Below B w w' :=
  ⟨h.os, h.tape, h.output, h.size, fun k hk => h.block k (by omega) (fun a h5 hg => by have := ha a h5 hg; omega)⟩
theorem ChG.of_new {w0 : World} (h : ChG w w' L n) (hb : Below w0.heap.size w0 w) (ha : ∀ a, a < n + 5 → (a ≤ 2 ∨ a = 4 → 0 < n) → w0.heap.size ≤ L a) : Below w0.heap.size w0 w' :=
  hb.trans (h.below hb.size ha)
theorem BoxO.chG {b : Nat} {o : Op4} (h : BoxO w b o) (hc : ChG w w' L n) (ha : ∀ a, a < n + 5 → (a ≤ 2 ∨ a = 4 → 0 < n) → b ≠ L a) : BoxO w' b o := (hc.block b h.lt ha).trans h
/-- Another plan's blocks stay. -/
theorem PW.chg {gc' gd' gm' : Nat} (h : PW w p gc gd gm cc cd n m win tm c s) (hc : Chg gc' gd' gm' w w') (hl : ∀ x, x = gc' ∨ x = gd' ∨ x = gm' → p ≠ x ∧ gc ≠ x ∧ gd ≠ x ∧ gm ≠ x) : PW w' p gc gd gm cc cd n m win tm c s := by
  have q := h.lts
  have a1 := hl gc' (Or.inl rfl)
  have a2 := hl gd' (Or.inr (Or.inl rfl))
  have a3 := hl gm' (Or.inr (Or.inr rfl))
  exact h.keep (hc.block _ q.1 a1.1 a2.1 a3.1) (hc.block _ q.2.1 a1.2.1 a2.2.1 a3.2.1) (hc.block _ q.2.2.1 a1.2.2.1 a2.2.2.1 a3.2.2.1) (hc.block _ q.2.2.2 a1.2.2.2 a2.2.2.2 a3.2.2.2)
/-- A plan made later lies apart as well. -/
theorem Ap.fresh (h : RPs w r L n m c0 c1 c2 c4 win tm s) {p' gc' gd' gm' : Nat} (h1 : w.heap.size ≤ p') (h2 : w.heap.size ≤ gc') (h3 : w.heap.size ≤ gd') (h4 : w.heap.size ≤ gm') : Ap p' gc' gd' gm' r L n := by
  obtain ⟨R, hs, hp⟩ := h
  have hl := hp.lts
  refine ⟨by omega, fun a h5 hg => ?_⟩
  have := hl.2 a h5 hg
  omega
theorem rhad_at (i : Int) (w : World) {x : Int} (h : RPs w r L n m c0 c1 c2 c4 win tm s) (hx : hadR n s i = x) (hs : hadS n s i = s') :
    Calls Try.prog 22 #[.pointer (some ⟨r, 0, none⟩), .int .i64 i] w fun e w' => e = .returned (.int .i64 x) ∧ RPs w' r L n m c0 c1 c2 c4 win tm s' ∧ ChG w w' L n := by
  subst hx
  subst hs
  exact lift_ref (fun L h => rhad_calls i w h) h
theorem rbad_at (i k : Int) (w : World) {x : Int} (h : RPs w r L n m c0 c1 c2 c4 win tm s) (hB : ∀ k, 0 ≤ s.2.1 k ∧ s.2.1 k ≤ 1000000000) (hx : badR n m s i k = x) (hs : badS n m s i k = s') :
    Calls Try.prog 23 #[.pointer (some ⟨r, 0, none⟩), .int .i64 i, .int .i64 k] w fun e w' => e = .returned (.int .i64 x) ∧ RPs w' r L n m c0 c1 c2 c4 win tm s' ∧ ChG w w' L n := by
  subst hx
  subst hs
  exact lift_ref (fun L h => rbad_calls i k w h hB) h
theorem rnext_at {B : Int} (now : Int) (w : World) {x : Int × Int × Bool} (h : RPs w r L n m c0 c1 c2 c4 win tm s) (hg : Good n m s.1 s.2.1 B) (hB : B ≤ 1000000000) (hT : ∀ i k, 0 ≤ s.2.2 i k ∧ s.2.2 i k ≤ 4000000) (ht : 1 ≤ tm ∧ tm ≤ 1000000) (hnow : -1152921504606846976 ≤ now ∧ now ≤ 1152921504606846976) (hx : (nextF now win tm n m s).1 = x) (hs : (nextF now win tm n m s).2 = s') :
    Calls Try.prog 21 #[.pointer (some ⟨r, 0, none⟩), .int .i64 now] w fun e w' => e = .returned (.tuple #[.int .i64 x.1, .int .i64 x.2.1, .bool x.2.2]) ∧ RPs w' r L n m c0 c1 c2 c4 win tm s' ∧ ChG w w' L n := by
  subst hx
  subst hs
  exact lift_ref (fun L h => rnext_calls now w h hg hB hT ht hnow) h
theorem looked_at (w : World) (h : PW w p gc gd gm cc cd n m win tm c s) (hr : RPs w r L n m c0 c1 c2 c4 win tm s) :
    Calls Try.prog 25 #[.pointer (some ⟨p, 0, none⟩), .pointer (some ⟨r, 0, none⟩)] w fun e w' => e = .returned (.bool true) ∧ Below w.heap.size w w' := by
  obtain ⟨R, hs, hp⟩ := hr
  exact looked_calls w h.pl hp hs
end
end Go.Proofs.Ytaheoifjihkipaa.As
