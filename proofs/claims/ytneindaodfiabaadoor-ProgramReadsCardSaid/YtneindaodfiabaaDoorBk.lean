/- What calls of Go functions of this seat come to, as the rows need it: under the conditions that each theorem names. -/
import Derived.Test.YtneindaodfiabaaDoorRSame
import Derived.Test.YtneindaodfiabaaDoorRRead
namespace Go.Proofs.YtneindaodfiabaaDoor.Prog6
open Go.RowKit Go.Proofs.YtneindaodfiabaaDoorW.PrintWords Go.Proofs.YtneindaodfiabaaDoorW.PrintLast Go.Proofs.YtneindaodfiabaaDoorW.PrintMore
set_option linter.unusedVariables false
set_option linter.unusedSimpArgs false
/-- A block of bytes, whatever bytes below place i, the row's from there on. -/
def Bk (w : World) (g i : Nat) (l : List Int) : Prop := ∃ cur : Array Value, w.heap[g]? = some (.cells cur 5 (0, 0)) ∧ (∀ j, j < l.length → j < cur.size) ∧ ∀ j, i ≤ j → ∀ x, l[j]? = some x → cur[j]? = some (.int .u8 x)
theorem Bk.set {w : World} {g i : Nat} {l : List Int} (h : Bk w g i l) (y : Int) : Bk (w.setCell ⟨g, i, none⟩ (.int .u8 y)) g (i + 1) l := by
  obtain ⟨cur, h1, h2, h3⟩ := h
  refine ⟨_, blk_set h1 i _, fun j hj => by rw [Array.size_setIfInBounds]; exact h2 j hj, fun j hj x hx => ?_⟩
  rw [Array.getElem?_setIfInBounds_ne (by omega)]
  exact h3 j (by omega) x hx
theorem Bk.cell {w : World} {g i : Nat} {l : List Int} (h : Bk w g i l) (x : Int) (hx : l[i]? = some x) : w.cell? ⟨g, i, none⟩ = some (.int .u8 x) ∧ w.frozen? ⟨g, i, none⟩ = false := by
  obtain ⟨cur, h1, h2, h3⟩ := h
  exact ⟨(cell_of h1).2 (h3 i (Nat.le_refl i) x hx), by simp [World.frozen?, h1]⟩
theorem Bk.below {w w' : World} {g i : Nat} {l : List Int} (h : Bk w g i l) (hb : Below w.heap.size w w') : Bk w' g i l := by
  obtain ⟨cur, h1, h2⟩ := h
  exact ⟨cur, heap_keep h1 hb, h2⟩
theorem Bk.of {w : World} {base : Nat} {ok : Nat → Prop} {A : Option Addr} {n c : Nat} {xs : List Int} (h : Kd.R RBy 5 w base ok (.slice A n c) xs) (hp : 0 < xs.length) : ∃ g, A = some ⟨g, 0, none⟩ ∧ base ≤ g ∧ Bk w g 0 xs := by
  have hC := (Kd.R_reads' h).2.2
  obtain ⟨g, cap, e, hb, _, cells, hc⟩ := Kd.R_form h hp
  injection e with e1 e2 e3
  have hx : ∀ j, ∀ x, xs[j]? = some x → cells[j]? = some (Value.int .u8 x) := fun j x hx => by
    obtain ⟨hj, hjx⟩ := List.getElem?_eq_some_iff.1 hx
    obtain ⟨ad, e, hx⟩ := Go.Proofs.YtneindaodfiabaaDoor.Hand.getB hC j hj
    rw [e1] at e
    injection e with e
    subst e
    rw [show (Addr.mk g 0 none).add j = ⟨g, j, none⟩ by simp [Addr.add_lit], show rd xs (j : Int) = x by unfold rd; rw [Int.toNat_natCast, List.getD_eq_getElem?_getD, List.getElem?_eq_getElem hj, hjx]; rfl] at hx
    exact (cell_of hc).1 hx
  exact ⟨g, e1, hb, cells, hc, fun j hj => (Array.getElem?_eq_some_iff.1 (hx j xs[j] (List.getElem?_eq_getElem hj))).1, fun j _ x h => hx j x h⟩
end Go.Proofs.YtneindaodfiabaaDoor.Prog6
