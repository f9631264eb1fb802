/- What calls of Go functions of this seat come to, as the rows need it: under the conditions that each theorem names. -/
import Derived.Test.YtaheoifjihkipaaAsB
namespace Go.Proofs.Ytaheoifjihkipaa.As
open Go.RowKit Go.Proofs.YtaheoifjihkipaaW.PrintWords Go.Proofs.YtaheoifjihkipaaW.PrintLast Go.Proofs.YtaheoifjihkipaaW.PrintMore
set_option linter.unusedVariables false
set_option linter.unusedSimpArgs false
def upd (S : Nat → U) (k : Nat) (x : U) : Nat → U := fun i => if i = k then x else S i
theorem upd_same (S : Nat → U) (k : Nat) (x : U) : upd S k x k = x := by simp [upd]
theorem upd_other (S : Nat → U) (k : Nat) (x : U) (i : Nat) (h : i ≠ k) : upd S k x i = S i := by simp [upd, h]
def updD (D : Nat → Int) (k : Nat) (x : Int) : Nat → Int := fun i => if i = k then x else D i
theorem updD_same (D : Nat → Int) (k : Nat) (x : Int) : updD D k x k = x := by simp [updD]
theorem updD_other (D : Nat → Int) (k : Nat) (x : Int) (i : Nat) (h : i ≠ k) : updD D k x i = D i := by simp [updD, h]
/-- All blocks but three stay. -/
structure Chg (a b c : Nat) (w w' : World) : Prop where
  os : w'.os = w.os
  tape : w'.tape = w.tape
  output : w'.output = w.output
  size : w.heap.size ≤ w'.heap.size
  block : ∀ k, k < w.heap.size → k ≠ a → k ≠ b → k ≠ c → w'.heap[k]? = w.heap[k]?
theorem Chg.of_below {a b c : Nat} {w w' : World} (h : Below w.heap.size w w') : Chg a b c w w' := ⟨h.os, h.tape, h.output, h.size, fun k hk _ _ _ => h.block k hk⟩
theorem Chg.trans {a b c : Nat} {u v w : World} (h : Chg a b c u v) (k : Chg a b c v w) : Chg a b c u w :=
  ⟨k.os.trans h.os, k.tape.trans h.tape, k.output.trans h.output, Nat.le_trans h.size k.size, fun i hi h1 h2 h3 => (k.block i (Nat.lt_of_lt_of_le hi h.size) h1 h2 h3).trans (h.block i hi h1 h2 h3)⟩
theorem Chg.of_set {a b c : Nat} (m j : Nat) (w : World) (v : Value) (hm : m = a ∨ m = b ∨ m = c) : Chg a b c w (w.setCell ⟨m, j, none⟩ v) :=
  have h : Below m w (w.setCell ⟨m, j, none⟩ v) := (Below.refl m w).setCell (p := ⟨m, j, none⟩) (Nat.le_refl m) v
  ⟨h.os, h.tape, h.output, h.size, fun k _ h1 h2 h3 => Below.heap_setCell w ⟨m, j, none⟩ v k (by intro e; subst e; rcases hm with e | e | e <;> simp_all)⟩
theorem Chg.below {a b c B : Nat} {w w' : World} (h : Chg a b c w w') (ha : B ≤ a) (hb : B ≤ b) (hc : B ≤ c) (hB : B ≤ w.heap.size) : Below B w w' :=
  ⟨h.os, h.tape, h.output, h.size, fun k hk => h.block k (by omega) (by omega) (by omega) (by omega)⟩
theorem Chs.fz {w : World} {g n : Nat} {S : Nat → U} (h : Chs w g n S) (j : Nat) : w.frozen? ⟨g, j, none⟩ = false := by
  obtain ⟨cs, h1, h2⟩ := h
  simp [World.frozen?, h1]
theorem Dem.fz {w : World} {g m : Nat} {D : Nat → Int} (h : Dem w g m D) (j : Nat) : w.frozen? ⟨g, j, none⟩ = false := by
  obtain ⟨cs, h1, h2⟩ := h
  simp [World.frozen?, h1]
/-- A chunk written. -/
def put3 (w : World) (g j : Nat) (x : U) : World := ((w.setCell ⟨g, j * 3, none⟩ (.int .i64 x.1)).setCell ⟨g, j * 3 + 1, none⟩ (.int .i64 x.2.1)).setCell ⟨g, j * 3 + 2, none⟩ (.int .i64 x.2.2)
theorem Chs.put {w : World} {g n : Nat} {S : Nat → U} (h : Chs w g n S) (j : Nat) (hj : j < n) (x : U) : Chs (put3 w g j x) g n (upd S j x) := by
  obtain ⟨cs, h1, h2, h3⟩ := h
  refine ⟨_, blk_set (blk_set (blk_set h1 _ _) _ _) _ _, by simpa using h2, fun i hi => ?_⟩
  obtain ⟨a, b, c⟩ := h3 i hi
  by_cases hij : i = j
  · subst hij
    rw [upd_same]
    refine ⟨?_, ?_, ?_⟩
    · rw [Array.getElem?_setIfInBounds_ne (by omega), Array.getElem?_setIfInBounds_ne (by omega), Array.getElem?_setIfInBounds_self_of_lt (by omega)]
    · rw [Array.getElem?_setIfInBounds_ne (by omega), Array.getElem?_setIfInBounds_self_of_lt (by simp; omega)]
    · rw [Array.getElem?_setIfInBounds_self_of_lt (by simp; omega)]
  · rw [upd_other _ _ _ _ hij]
    refine ⟨?_, ?_, ?_⟩
    · rw [Array.getElem?_setIfInBounds_ne (by omega), Array.getElem?_setIfInBounds_ne (by omega), Array.getElem?_setIfInBounds_ne (by omega)]; exact a
    · rw [Array.getElem?_setIfInBounds_ne (by omega), Array.getElem?_setIfInBounds_ne (by omega), Array.getElem?_setIfInBounds_ne (by omega)]; exact b
    · rw [Array.getElem?_setIfInBounds_ne (by omega), Array.getElem?_setIfInBounds_ne (by omega), Array.getElem?_setIfInBounds_ne (by omega)]; exact c
theorem put3_chg (w : World) (g j : Nat) (x : U) (b c : Nat) : Chg g b c w (put3 w g j x) := ((Chg.of_set g _ w _ (Or.inl rfl)).trans (Chg.of_set g _ _ _ (Or.inl rfl))).trans (Chg.of_set g _ _ _ (Or.inl rfl))
theorem put3_other (w : World) (g j : Nat) (x : U) (k : Nat) (h : k ≠ g) : (put3 w g j x).heap[k]? = w.heap[k]? := by
  unfold put3
  rw [Below.heap_setCell _ ⟨g, j * 3 + 2, none⟩ _ k h, Below.heap_setCell _ ⟨g, j * 3 + 1, none⟩ _ k h, Below.heap_setCell _ ⟨g, j * 3, none⟩ _ k h]
theorem Pl.put {w : World} {p gc gd gm cc cd n m : Nat} {win tm : Int} {S : Nat → U} {D : Nat → Int} (h : Pl w p gc gd gm cc cd n m win tm S D) (j : Nat) (hj : j < n) (x : U) : Pl (put3 w gc j x) p gc gd gm cc cd n m win tm (upd S j x) D := by
  obtain ⟨ds, b1, b2⟩ := h.de
  exact ⟨(put3_other _ _ _ _ _ h.e1).trans h.blk, h.ch.put j hj x, ⟨ds, (put3_other _ _ _ _ _ h.e3.symm).trans b1, b2⟩, h.n1, h.m1, h.e1, h.e2, h.e3, h.e4, h.e5, h.e6⟩
theorem Dem.put {w : World} {g m : Nat} {D : Nat → Int} (h : Dem w g m D) (k : Nat) (hk : k < m) (x : Int) : Dem (w.setCell ⟨g, k, none⟩ (.int .i64 x)) g m (updD D k x) := by
  obtain ⟨cs, h1, h2, h3⟩ := h
  refine ⟨_, blk_set h1 _ _, by simpa using h2, fun i hi => ?_⟩
  by_cases hik : i = k
  · subst hik
    rw [updD_same, Array.getElem?_setIfInBounds_self_of_lt (by omega)]
  · rw [updD_other _ _ _ _ hik, Array.getElem?_setIfInBounds_ne (by omega)]
    exact h3 i hi
theorem Pl.putD {w : World} {p gc gd gm cc cd n m : Nat} {win tm : Int} {S : Nat → U} {D : Nat → Int} (h : Pl w p gc gd gm cc cd n m win tm S D) (k : Nat) (hk : k < m) (x : Int) : Pl (w.setCell ⟨gd, k, none⟩ (.int .i64 x)) p gc gd gm cc cd n m win tm S (updD D k x) := by
  obtain ⟨cs, b1, b2⟩ := h.ch
  exact ⟨(Below.heap_setCell _ ⟨gd, k, none⟩ _ _ h.e2).trans h.blk, ⟨cs, (Below.heap_setCell _ ⟨gd, k, none⟩ _ _ h.e3).trans b1, b2⟩, h.de.put k hk x, h.n1, h.m1, h.e1, h.e2, h.e3, h.e4, h.e5, h.e6⟩
theorem had_ok {p gc gd gm cc cd n m : Nat} {win tm : Int} {S : Nat → U} {D : Nat → Int} (j : Nat) (hj : j < n) (w : World) (h : Pl w p gc gd gm cc cd n m win tm S D) (hs : (S j).1 ≠ 2) :
    Calls Try.prog 13 #[.pointer (some ⟨p, 0, none⟩), .int .i64 (j : Int)] w fun e w' => e = .returned (.int .i64 0) ∧ w' = put3 w gc j (2, 0, 0) := by
  have HP := Aside0.mk h
  have hn := h.n1
  have hc := h.blk.c0
  obtain ⟨hx0, hx1, hx2⟩ := h.ch.cu j hj
  have HH := Aside0.mk (decide_eq_true (p := 0 ≤ (j : Int) ∧ (j : Int) < n) ⟨by omega, by omega⟩)
  have hne : ((S j).1 == 2) = false := by rw [beq_eq_false_iff_ne]; exact hs
  have z0 := h.ch.fz (j * 3)
  have z1 := h.ch.fz (j * 3 + 1)
  have z2 := h.ch.fz (j * 3 + 2)
  clear h hs
  go_enter Try.func13, Try.ntmps13
  go_wp2_with fail
  refine (ready_calls p gc gd gm cc cd n m win tm w HP.out.blk).mono ?_
  rintro e w1 ⟨rfl, hw⟩
  replace hw := hw.symm
  subst hw
  go_wp2_with fail
  refine (has_calls (j : Int) w HP.out).mono ?_
  rw [HH.out]
  rintro e w1 ⟨rfl, hw⟩
  replace hw := hw.symm
  subst hw
  go_wp2
  go_ret
  exact ⟨rfl, rfl⟩
end Go.Proofs.Ytaheoifjihkipaa.As
