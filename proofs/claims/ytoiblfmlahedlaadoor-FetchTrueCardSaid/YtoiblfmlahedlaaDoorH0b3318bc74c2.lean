/- What calls of Go functions of this seat come to, as the rows need it: under the conditions that each theorem names. -/
import Derived.Test.YtoiblfmlahedlaaDoorH3087a32cde9d
import Derived.Test.YtoiblfmlahedlaaDoorH9de385ce2dc3
section
namespace Go.Proofs.YtoiblfmlahedlaaDoor.As
open Go.RowKit Go.Proofs.YtoiblfmlahedlaaDoorW.PrintWords Go.Proofs.YtoiblfmlahedlaaDoorW.PrintLast Go.Proofs.YtoiblfmlahedlaaDoorW.PrintMore
set_option linter.unusedVariables false
set_option linter.unusedSimpArgs false
set_option maxRecDepth 100000
theorem heap_chg {w w' : World} {a b c k : Nat} {o : Obj} (h : w.heap[k]? = some o) (hc : Chg a b c w w') (h1 : k ≠ a) (h2 : k ≠ b) (h3 : k ≠ c) : w'.heap[k]? = some o :=
  (hc.block k (Array.getElem?_eq_some_iff.1 h).1 h1 h2 h3).trans h
theorem Dem.chg {w w' : World} {g m a b c : Nat} {D : Nat → Int} (h : Dem w g m D) (hc : Chg a b c w w') (h1 : g ≠ a) (h2 : g ≠ b) (h3 : g ≠ c) : Dem w' g m D := by
  obtain ⟨cs, a1, a2, a3⟩ := h
  exact ⟨cs, heap_chg a1 hc h1 h2 h3, a2, a3⟩
theorem Dem.lt {w : World} {g m : Nat} {D : Nat → Int} (h : Dem w g m D) : g < w.heap.size := by
  obtain ⟨cs, a1, _⟩ := h
  exact (Array.getElem?_eq_some_iff.1 a1).1
theorem PW.far {w : World} {p gc gd gm cc cd n m c : Nat} {win tm : Int} {s : St} (h : PW w p gc gd gm cc cd n m win tm c s) {g : Nat} (k : Nat) (v : Value) (h1 : g ≠ p) (h2 : g ≠ gc) (h3 : g ≠ gd) (h4 : g ≠ gm) : PW (w.setCell ⟨g, k, none⟩ v) p gc gd gm cc cd n m win tm c s := by
  have hk : ∀ (q : Nat) (o : Obj), q ≠ g → w.heap[q]? = some o → (w.setCell ⟨g, k, none⟩ v).heap[q]? = some o := fun q o hq ho => (Below.heap_setCell w ⟨g, k, none⟩ v q (fun e => hq e)).trans ho
  obtain ⟨cs, a, b, c⟩ := h.pl.ch
  obtain ⟨ds, a', b', c'⟩ := h.pl.de
  obtain ⟨D, g1, g2⟩ := h.mp
  obtain ⟨es, clock, x, F, hs, hD⟩ := g1
  exact ⟨⟨hk _ _ h1.symm h.pl.blk, ⟨cs, hk _ _ h2.symm a, b, c⟩, ⟨ds, hk _ _ h3.symm a', b', c'⟩, h.pl.n1, h.pl.m1, h.pl.e1, h.pl.e2, h.pl.e3, h.pl.e4, h.pl.e5, h.pl.e6⟩, ⟨D, ⟨es, clock, hk _ _ h4.symm x, F, hs, hD⟩, g2⟩, h.good, h.tb, h.t1, h.t2⟩
theorem lateF_had (now tm : Int) (S : Nat → U) (D : Nat → Int) : ∀ i j, ((lateF now tm S D i).1 j).1 = 2 ↔ (S j).1 = 2
  | 0, _ => Iff.rfl
  | i + 1, j => by
    have ih := lateF_had now tm S D i j
    unfold lateF
    split
    · rename_i h
      show (upd _ i _ j).1 = 2 ↔ _
      by_cases e : j = i
      · subst e
        rw [upd_same]
        exact ⟨(fun h2 => by cases h2), fun h2 => by omega⟩
      · rw [upd_other _ _ _ _ e]
        exact ih
    · exact ih
theorem leftF_congr {S S' : Nat → U} : ∀ n, (∀ j, j < n → ((S' j).1 = 2 ↔ (S j).1 = 2)) → leftF S' n = leftF S n
  | 0, _ => rfl
  | n + 1, h => by
    unfold leftF
    rw [leftF_congr n (fun j hj => h j (by omega))]
    have := h n (by omega)
    by_cases e : (S n).1 = 2
    · rw [if_pos e, if_pos (this.2 e)]
    · rw [if_neg e, if_neg (fun h2 => e (this.1 h2))]
end Go.Proofs.YtoiblfmlahedlaaDoor.As
end
section
namespace Go.Proofs.YtoiblfmlahedlaaDoor.As
open Go.RowKit Go.Proofs.YtoiblfmlahedlaaDoorW.PrintWords Go.Proofs.YtoiblfmlahedlaaDoorW.PrintLast Go.Proofs.YtoiblfmlahedlaaDoorW.PrintMore
set_option linter.unusedVariables false
set_option linter.unusedSimpArgs false
set_option maxRecDepth 100000
def Hrel (n : Nat) (s : St) (H : Nat → Int) : Prop := ∀ i, i < n → H i = if (s.1 i).1 = 2 then 1 else 0
theorem Hrel.congr {n : Nat} {s s' : St} {H : Nat → Int} (h : Hrel n s H) (hs : ∀ j, (s'.1 j).1 = 2 ↔ (s.1 j).1 = 2) : Hrel n s' H := fun i hi => by
  rw [h i hi]
  by_cases e : (s.1 i).1 = 2
  · rw [if_pos e, if_pos ((hs i).2 e)]
  · rw [if_neg e, if_neg (fun h2 => e ((hs i).1 h2))]
theorem leftF_start : ∀ n, leftF ks0.1 n = n
  | 0 => rfl
  | n + 1 => by unfold leftF; rw [leftF_start n]; rfl
end Go.Proofs.YtoiblfmlahedlaaDoor.As
end
section
namespace Go.Proofs.YtoiblfmlahedlaaDoor.As
open Go.RowKit Go.Proofs.YtoiblfmlahedlaaDoorW.PrintWords Go.Proofs.YtoiblfmlahedlaaDoorW.PrintLast Go.Proofs.YtoiblfmlahedlaaDoorW.PrintMore
set_option linter.unusedVariables false
set_option linter.unusedSimpArgs false
set_option maxRecDepth 100000
theorem Dem.congr {w : World} {g m : Nat} {D D' : Nat → Int} (h : Dem w g m D) (hd : ∀ k, k < m → D k = D' k) : Dem w g m D' := by
  obtain ⟨cs, a, b, c⟩ := h
  exact ⟨cs, a, b, fun k hk => by rw [← hd k hk]; exact c k hk⟩
end Go.Proofs.YtoiblfmlahedlaaDoor.As
end
section
namespace Go.Proofs.YtoiblfmlahedlaaDoor.As
open Go.RowKit Go.Proofs.YtoiblfmlahedlaaDoorW.PrintWords Go.Proofs.YtoiblfmlahedlaaDoorW.PrintLast Go.Proofs.YtoiblfmlahedlaaDoorW.PrintMore
set_option linter.unusedVariables false
set_option linter.unusedSimpArgs false
set_option maxRecDepth 100000
end Go.Proofs.YtoiblfmlahedlaaDoor.As
end
