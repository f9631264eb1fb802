/- What calls of Go functions of this seat come to, as the rows need it: under the conditions that each theorem names. -/
import Derived.Test.YtebjibkgefgalaaDoorHand
namespace Go.Proofs.YtebjibkgefgalaaDoor.Hand
open Go.RowKit Go.Proofs.YtebjibkgefgalaaDoorW.PrintWords Go.Proofs.YtebjibkgefgalaaDoorW.PrintLast Go.Proofs.YtebjibkgefgalaaDoorW.PrintMore
set_option linter.unusedVariables false
set_option linter.unusedSimpArgs false

theorem add_zero3 (g o j : Nat) : (⟨g, o, none⟩ : Addr).add j = ⟨g, o + j, none⟩ := by
  unfold Addr.add
  split <;> simp_all

theorem C_block {w : World} {g off : Nat} {cs : Array Value} {t : TypeId} {fr : Nat × Nat} (k : IntKind) (hg : w.heap[g]? = some (.cells cs t fr)) (xs : List Int) (h : ∀ (j : Nat) (x : Int), xs[j]? = some x → cs[off + j]? = some (.int k x)) (hl : xs.length ≤ 9223372036854775807) :
    (Kd.int k).C w (some ⟨g, off, none⟩) xs.length xs := by
  refine ⟨rfl, hl, fun _ => ⟨_, rfl, fun j p hj => ⟨[.int k p], rfl, rfl, fun i u hu => ?_⟩⟩⟩
  have hi : i = 0 := by
    rcases i with _ | i
    · rfl
    · simp at hu
  subst hi
  have hu' : u = .int k p := by simpa using hu.symm
  subst hu'
  rw [add_zero3, cell_of_row w g _ cs t fr hg]
  show cs[off + (j * 1 + 0)]? = _
  rw [show off + (j * 1 + 0) = off + j by omega]
  exact h j p hj

theorem C_rows_block {w : World} {g : Nat} {cs : Array Value} {t : TypeId} {fr : Nat × Nat} (e : Nat) (hg : w.heap[g]? = some (.cells cs t fr)) (xs : List (List Int)) (h : ∀ (j : Nat) (x : List Int), xs[j]? = some x → ∃ A c, cs[j]? = some (.slice A x.length c) ∧ x.length ≤ c ∧ B.C w A x.length x) (hl : xs.length ≤ 9223372036854775807) :
    Kd.C (Kd.slice e B) w (some ⟨g, 0, none⟩) xs.length xs := by
  refine ⟨rfl, hl, fun _ => ⟨_, rfl, fun j p hj => ?_⟩⟩
  obtain ⟨A, c, h1, h2, h3⟩ := h j p hj
  refine ⟨[.slice A p.length c], rfl, ⟨A, c, rfl, h2, h3⟩, fun i u hu => ?_⟩
  have hi : i = 0 := by
    rcases i with _ | i
    · rfl
    · simp at hu
  subst hi
  have hu' : u = .slice A p.length c := by simpa using hu.symm
  subst hu'
  rw [add_zero3, cell_of_row w g _ cs t fr hg]
  show cs[0 + (j * 1 + 0)]? = _
  rw [show 0 + (j * 1 + 0) = j by omega]
  exact h1

theorem heap_new (w : World) (o : Obj) : (w.alloc o).heap[w.heap.size]? = some o := by
  show (w.heap.push o)[w.heap.size]? = some o
  simp

theorem heap_new' (w : World) (o : Obj) (n : Nat) (h : n = w.heap.size) : (w.alloc o).heap[n]? = some o := by
  subst h
  exact heap_new w o

theorem formL_len (n : Nat) (h : n < 18446744073709551616) : (formL n).length ≤ 9 := by
  have := digs_len n h
  simp [formL]; omega

theorem cells9_get (xs : List Int) (h : xs.length ≤ 9) (j : Nat) (x : Int) (hj : xs[j]? = some x) : (cells9 xs)[9 - xs.length + j]? = some (.int .u8 x) := by
  unfold cells9
  simp only [List.getElem?_toArray]
  rw [List.getElem?_append_right (by simp)]
  simp [hj]

theorem form_reads (w : World) (t : TypeId) (n : Nat) (h : n < 18446744073709551616) : B.C (w.alloc (.cells (cells9 (formL n)) t)) (some ⟨w.heap.size, 8 - (digs n).length, none⟩) (formL n).length (formL n) := by
  have hl := formL_len n h
  have hd := digs_len n h
  refine C_block .u8 (heap_new _ _) _ (fun j x hj => ?_) (by omega)
  have := cells9_get (formL n) hl j x hj
  rwa [show 9 - (formL n).length = 8 - (digs n).length by simp [formL]] at this

end Go.Proofs.YtebjibkgefgalaaDoor.Hand
