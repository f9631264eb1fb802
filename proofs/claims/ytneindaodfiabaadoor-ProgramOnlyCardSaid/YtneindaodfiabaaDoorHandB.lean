/- What calls of Go functions of this seat come to, as the rows need it: under the conditions that each theorem names. -/
import Derived.Test.YtneindaodfiabaaDoorHand
namespace Go.Proofs.YtneindaodfiabaaDoor.Hand
open Go.RowKit Go.Proofs.YtneindaodfiabaaDoorW.PrintWords Go.Proofs.YtneindaodfiabaaDoorW.PrintLast Go.Proofs.YtneindaodfiabaaDoorW.PrintMore
set_option linter.unusedVariables false
set_option linter.unusedSimpArgs false

theorem add_zero3 (g o j : Nat) : (⟨g, o, none⟩ : Addr).add j = ⟨g, o + j, none⟩ := by
  unfold Addr.add
  split <;> simp_all

theorem C_block {w : World} {g off : Nat} {cs : Array Value} {t : TypeId} {fr : Nat × Nat} (k : IntKind) (hg : w.heap[g]? = some (.cells cs t fr)) (xs : List Int) (h : ∀ (j : Nat) (x : Int), xs[j]? = some x → cs[off + j]? = some (.int k x)) (hl : xs.length ≤ 9223372036854775807) :
    (Kd.int k).C w (some ⟨g, off, none⟩) xs.length xs := by
  refine ⟨rfl, hl, fun _ => ⟨_, rfl, fun j p hj => ⟨[.int k p], rfl, rfl, fun i u hu => ?_⟩⟩⟩
  have hi : i = 0 := by
    rcases i with _ | i
    · rfl
    · simp at hu
  subst hi
  have hu' : u = .int k p := by simpa using hu.symm
  subst hu'
  rw [add_zero3, cell_of_row w g _ cs t fr hg]
  show cs[off + (j * 1 + 0)]? = _
  rw [show off + (j * 1 + 0) = off + j by omega]
  exact h j p hj

theorem C_rows_block {w : World} {g : Nat} {cs : Array Value} {t : TypeId} {fr : Nat × Nat} (e : Nat) (hg : w.heap[g]? = some (.cells cs t fr)) (xs : List (List Int)) (h : ∀ (j : Nat) (x : List Int), xs[j]? = some x → ∃ A c, cs[j]? = some (.slice A x.length c) ∧ x.length ≤ c ∧ B.C w A x.length x) (hl : xs.length ≤ 9223372036854775807) :
    Kd.C (Kd.slice e B) w (some ⟨g, 0, none⟩) xs.length xs := by
  refine ⟨rfl, hl, fun _ => ⟨_, rfl, fun j p hj => ?_⟩⟩
  obtain ⟨A, c, h1, h2, h3⟩ := h j p hj
  refine ⟨[.slice A p.length c], rfl, ⟨A, c, rfl, h2, h3⟩, fun i u hu => ?_⟩
  have hi : i = 0 := by
    rcases i with _ | i
    · rfl
    · simp at hu
  subst hi
  have hu' : u = .slice A p.length c := by simpa using hu.symm
  subst hu'
  rw [add_zero3, cell_of_row w g _ cs t fr hg]
  show cs[0 + (j * 1 + 0)]? = _
  rw [show 0 + (j * 1 + 0) = j by omega]
  exact h1

theorem heap_new (w : World) (o : Obj) : (w.alloc o).heap[w.heap.size]? = some o := by
  show (w.heap.push o)[w.heap.size]? = some o
  simp

theorem heap_new' (w : World) (o : Obj) (n : Nat) (h : n = w.heap.size) : (w.alloc o).heap[n]? = some o := by
  subst h
  exact heap_new w o

theorem formL_len (n : Nat) (h : n < 18446744073709551616) : (formL n).length ≤ 9 := by
  have := digs_len n h
  simp [formL]; omega

theorem cells9_get (xs : List Int) (h : xs.length ≤ 9) (j : Nat) (x : Int) (hj : xs[j]? = some x) : (cells9 xs)[9 - xs.length + j]? = some (.int .u8 x) := by
  unfold cells9
  simp only [List.getElem?_toArray]
  rw [List.getElem?_append_right (by simp)]
  simp [hj]

theorem form_reads (w : World) (t : TypeId) (n : Nat) (h : n < 18446744073709551616) : B.C (w.alloc (.cells (cells9 (formL n)) t)) (some ⟨w.heap.size, 8 - (digs n).length, none⟩) (formL n).length (formL n) := by
  have hl := formL_len n h
  have hd := digs_len n h
  refine C_block .u8 (heap_new _ _) _ (fun j x hj => ?_) (by omega)
  have := cells9_get (formL n) hl j x hj
  rwa [show 9 - (formL n).length = 8 - (digs n).length by simp [formL]] at this

/-- A number's form behind bytes. -/
theorem appendUint_calls (A0 : Option Addr) (c0 : Nat) (l0 : List Int) (n : Nat) (w : World) (hr0 : B.C w A0 l0.length l0) (hc0 : l0.length ≤ c0) (hn : n < 18446744073709551616) (hL : l0.length < 140737488355300) :
    Calls Tryd.prog 24 #[.slice A0 l0.length c0, .int .u64 n] w fun e w' => ∃ v0_ : Value, e = .returned v0_ ∧ Kd.R B 5 w' w.heap.size (fun _ => True) v0_ (l0 ++ formL n) ∧ Below w.heap.size w w' := by
  have HR := Aside0.mk hr0
  have hf := formL_len n hn
  clear hr0
  go_enter Tryd.func24, Tryd.ntmps24
  go_wp2_with (go_at_call 34; refine (form_calls n hn _).mono ?_; rintro e w' ⟨rfl, rfl⟩)
  refine (behind_calls (some ⟨_, 0, none⟩) 2 [l0, formL n] _ ?h1 (Nat.le_refl 2) ?h2).mono ?_
  case h1 =>
    refine C_rows_block _ (heap_new' _ _ _ (by simp)) [l0, formL n] (fun j x hj => ?_) (show 2 ≤ 9223372036854775807 by omega)
    rcases j with _ | _ | j
    · obtain rfl : l0 = x := by simpa using hj
      exact ⟨A0, c0, rfl, hc0, Kd.C_alloc (Kd.C_alloc HR.out _) _⟩
    · obtain rfl : formL n = x := by simpa using hj
      exact ⟨_, _, rfl, Nat.le_refl _, Kd.C_alloc (form_reads w _ n hn) _⟩
    · simp at hj
  case h2 => simp [flen]; omega
  rintro e w' ⟨v, rfl, hr, hb⟩
  go_wp2
  go_ret
  refine ⟨v, rfl, ?_, ?_⟩
  · have h9 : w.heap.size ≤ ((w.alloc (.cells (cells9 (formL n)) 64)).alloc (.cells #[.slice A0 l0.length c0, .slice (some ⟨w.heap.size, 8 - (digs n).length, none⟩) (formL n).length (formL n).length] 29)).heap.size := by simp; omega
    have := Kd.R_lower hr h9
    simpa using this
  · exact (((Below.refl w.heap.size w).alloc (Nat.le_refl _) _).alloc (by simp) _).trans (hb.mono (by simp; omega))
end Go.Proofs.YtneindaodfiabaaDoor.Hand
