/- What calls of Go functions of this seat come to, as the rows need it: under the conditions that each theorem names. -/
import Derived.Test.YtllcofllnjgkcaaDoorMkI
namespace Go.Proofs.YtllcofllnjgkcaaDoor.Sha
open Go.RowKit Go.Proofs.YtllcofllnjgkcaaDoorW.PrintWords Go.Proofs.YtllcofllnjgkcaaDoorW.PrintLast Go.Proofs.YtllcofllnjgkcaaDoorW.PrintMore
set_option linter.unusedVariables false
set_option linter.unusedSimpArgs false
/-- A block of bytes, whatever bytes. -/
def Blk (w : World) (g n : Nat) : Prop := ∃ cur : Array Value, w.heap[g]? = some (.cells cur 5 (0, 0)) ∧ ∀ j, j < n → ∃ y : Int, cur[j]? = some (.int .u8 y)
theorem Blk.set {w : World} {g n : Nat} (h : Blk w g n) (j : Nat) (y : Int) : Blk (w.setCell ⟨g, j, none⟩ (.int .u8 y)) g n := by
  obtain ⟨cur, h1, h2⟩ := h
  refine ⟨_, blk_set h1 j _, fun i hi => ?_⟩
  obtain ⟨z, hz⟩ := h2 i hi
  by_cases hij : j = i
  · subst hij
    exact ⟨y, by rw [Array.getElem?_setIfInBounds_self_of_lt (Array.getElem?_eq_some_iff.1 hz).1]⟩
  · exact ⟨z, by rw [Array.getElem?_setIfInBounds_ne hij]; exact hz⟩
theorem Blk.cell {w : World} {g n : Nat} (h : Blk w g n) (j : Nat) (hj : j < n) : ∃ y : Int, w.cell? ⟨g, j, none⟩ = some (.int .u8 y) ∧ w.frozen? ⟨g, j, none⟩ = false := by
  obtain ⟨cur, h1, h2⟩ := h
  obtain ⟨y, hy⟩ := h2 j hj
  exact ⟨y, (cell_of h1).2 hy, by simp [World.frozen?, h1]⟩
theorem Blk.of {w : World} {base : Nat} {ok : Nat → Prop} {v : Value} {xs : List Int} (h : Kd.R B 5 w base ok v xs) (hp : 0 < xs.length) : ∃ g cap, v = .slice (some ⟨g, 0, none⟩) xs.length cap ∧ base ≤ g ∧ Blk w g xs.length := by
  obtain ⟨g, cap, rfl, hb, _, cells, hc⟩ := Kd.R_form h hp
  refine ⟨g, cap, rfl, hb, cells, hc, fun j hj => ?_⟩
  obtain ⟨ad, e, hx⟩ := getB (Kd.R_reads' h).2.2 j hj
  injection e with e
  subst e
  rw [show (Addr.mk g 0 none).add j = ⟨g, j, none⟩ by simp [Addr.add_lit]] at hx
  exact ⟨_, (cell_of hc).1 hx⟩
theorem Blk.below {w w' : World} {g n : Nat} (h : Blk w g n) (hb : Below w.heap.size w w') : Blk w' g n := by
  obtain ⟨cur, h1, h2⟩ := h
  exact ⟨cur, heap_keep h1 hb, h2⟩
/-- A slice of bytes in a block of its own behind base. -/
def PB (w : World) (A : Option Addr) (n base : Nat) : Prop := 0 < n → ∃ b, A = some ⟨b, 0, none⟩ ∧ base ≤ b ∧ Blk w b n
theorem PB.of {w : World} {base : Nat} {ok : Nat → Prop} {A : Option Addr} {n c : Nat} {xs : List Int} (h : Kd.R B 5 w base ok (.slice A n c) xs) : PB w A n base := by
  obtain ⟨rfl, _, hC⟩ := Kd.R_reads' h
  intro hp
  obtain ⟨b, cap, e, hb, hB⟩ := Blk.of h hp
  injection e with e1 e2 e3
  exact ⟨b, e1, hb, hB⟩
theorem PB.below {w w' : World} {A : Option Addr} {n base : Nat} (h : PB w A n base) (hb : Below w.heap.size w w') : PB w' A n base := fun hp => by
  obtain ⟨b, e1, e2, e3⟩ := h hp
  exact ⟨b, e1, e2, e3.below hb⟩
end Go.Proofs.YtllcofllnjgkcaaDoor.Sha
