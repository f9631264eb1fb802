/- What calls of Go functions of this seat come to, as the rows need it: under the conditions that each theorem names. -/
import Derived.Test.YtaheoifjihkipaaAsT
namespace Go.Proofs.Ytaheoifjihkipaa.As
open Go.RowKit Go.Proofs.YtaheoifjihkipaaW.PrintWords Go.Proofs.YtaheoifjihkipaaW.PrintLast Go.Proofs.YtaheoifjihkipaaW.PrintMore
set_option linter.unusedVariables false
set_option linter.unusedSimpArgs false
def isIn (n : Nat) (i : Int) : Prop := 0 ≤ i ∧ i < n
instance (n : Nat) (i : Int) : Decidable (isIn n i) := by unfold isIn; infer_instance
def hadR (n : Nat) (s : St) (i : Int) : Int := if isIn n i then (if (s.1 i.toNat).1 = 2 then 7 else 0) else 6
def hadS (n : Nat) (s : St) (i : Int) : St := if isIn n i ∧ (s.1 i.toNat).1 ≠ 2 then (upd s.1 i.toNat (2, 0, 0), s.2.1, s.2.2) else s
def badR (n m : Nat) (s : St) (i k : Int) : Int := if isIn n i ∧ isIn m k then (if (s.1 i.toNat).1 = 1 ∧ (s.1 i.toNat).2.1 = k then 0 else 2) else 6
def badS (n m : Nat) (s : St) (i k : Int) : St := if (isIn n i ∧ isIn m k) ∧ (s.1 i.toNat).1 = 1 ∧ (s.1 i.toNat).2.1 = k then (upd s.1 i.toNat (0, 0, 0), updD s.2.1 k.toNat (s.2.1 k.toNat + 1), s.2.2) else s
def askR (n : Nat) (s : St) (i : Int) : Int × Int × Bool := if stOf s.1 n i = 1 then ((s.1 i.toNat).2.1, (s.1 i.toNat).2.2, true) else (0, 0, false)
theorem Good.put {n m : Nat} {S : Nat → U} {D : Nat → Int} {B : Int} (h : Good n m S D B) (i : Nat) (x : U) (hx : x.1 ≠ 1) : Good n m (upd S i x) D B := by
  refine ⟨fun j hj hs => ?_, h.2⟩
  by_cases e : j = i
  · subst e
    rw [upd_same] at hs
    exact absurd hs hx
  · rw [upd_other _ _ _ _ e] at hs ⊢
    exact h.1 j hj hs
theorem Good.putD {n m : Nat} {S : Nat → U} {D : Nat → Int} {B : Int} (h : Good n m S D B) (k : Nat) : Good n m S (updD D k (D k + 1)) (B + 1) := by
  refine ⟨h.1, fun j => ?_⟩
  have h1 := h.2 j
  have h2 := h.2 k
  unfold updD
  split <;> omega
theorem PW.same {w : World} {p gc gd gm cc cd n m c : Nat} {win tm : Int} {s : St} (h : PW w p gc gd gm cc cd n m win tm c s) : PW w p gc gd gm cc cd n m win tm (c + 1) s := by
  obtain ⟨S, D, T⟩ := s
  exact h.next h.pl h.mp h.good (by omega) (by omega) (fun i k => by have := h.tb i k; show 0 ≤ T i k ∧ T i k ≤ _; simp only [] at this; omega)
theorem PW.below {w w' : World} {p gc gd gm cc cd n m c : Nat} {win tm : Int} {s : St} (h : PW w p gc gd gm cc cd n m win tm c s) (hb : Below w.heap.size w w') : PW w' p gc gd gm cc cd n m win tm c s :=
  ⟨h.pl.below hb, h.mp.below hb, h.good, h.tb, h.t1, h.t2⟩
theorem had_calls {p gc gd gm cc cd n m c : Nat} {win tm : Int} {s : St} (i : Int) (w : World) (h : PW w p gc gd gm cc cd n m win tm c s) :
    Calls Try.prog 13 #[.pointer (some ⟨p, 0, none⟩), .int .i64 i] w fun e w' => e = .returned (.int .i64 (hadR n s i)) ∧ PW w' p gc gd gm cc cd n m win tm (c + 1) (hadS n s i) ∧ Chg gc gd gm w w' := by
  obtain ⟨S, D, T⟩ := s
  by_cases hi : isIn n i
  · obtain ⟨j, rfl⟩ := Int.eq_ofNat_of_zero_le hi.1
    have hj : j < n := by have := hi.2; omega
    by_cases hs : (S j).1 = 2
    · refine (had_twice j hj w h.pl hs).mono ?_
      rintro e w' ⟨rfl, hw⟩
      subst hw
      have e1 : hadR n (S, D, T) (j : Int) = 7 := by unfold hadR; rw [if_pos hi]; exact if_pos hs
      have e2 : hadS n (S, D, T) (j : Int) = (S, D, T) := by unfold hadS; exact if_neg (fun h => h.2 hs)
      rw [e1, e2]
      exact ⟨rfl, h.same, Chg.of_below (Below.refl _ _)⟩
    · refine (had_ok j hj w h.pl hs).mono ?_
      rintro e w' ⟨rfl, hw⟩
      subst hw
      have e1 : hadR n (S, D, T) (j : Int) = 0 := by unfold hadR; rw [if_pos hi]; exact if_neg hs
      have e2 : hadS n (S, D, T) (j : Int) = (upd S j (2, 0, 0), D, T) := by unfold hadS; exact if_pos ⟨hi, hs⟩
      rw [e1, e2]
      have hch := put3_chg w gc j (2, 0, 0) gd gd
      exact ⟨rfl, h.next (h.pl.put j hj (2, 0, 0)) (h.mp.chg hch h.pl.e5 h.pl.e6) (h.good.put j (2, 0, 0) (by decide)) (by omega) (by omega) (fun i k => by have := h.tb i k; simp only [] at this; omega), put3_chg w gc j (2, 0, 0) gd gm⟩
  · refine (had_none i w h.pl hi).mono ?_
    rintro e w' ⟨rfl, hw⟩
    subst hw
    have e1 : hadR n (S, D, T) i = 6 := by unfold hadR; exact if_neg hi
    have e2 : hadS n (S, D, T) i = (S, D, T) := by unfold hadS; exact if_neg (fun h => hi h.1)
    rw [e1, e2]
    exact ⟨rfl, h.same, Chg.of_below (Below.refl _ _)⟩
theorem bad_calls {p gc gd gm cc cd n m c : Nat} {win tm : Int} {s : St} (i k : Int) (w : World) (h : PW w p gc gd gm cc cd n m win tm c s) (hc : c ≤ 4000000) :
    Calls Try.prog 14 #[.pointer (some ⟨p, 0, none⟩), .int .i64 i, .int .i64 k] w fun e w' => e = .returned (.int .i64 (badR n m s i k)) ∧ PW w' p gc gd gm cc cd n m win tm (c + 1) (badS n m s i k) ∧ Chg gc gd gm w w' := by
  obtain ⟨S, D, T⟩ := s
  by_cases hi : isIn n i ∧ isIn m k
  · obtain ⟨j, rfl⟩ := Int.eq_ofNat_of_zero_le hi.1.1
    obtain ⟨q, rfl⟩ := Int.eq_ofNat_of_zero_le hi.2.1
    have hj : j < n := by have := hi.1.2; omega
    have hq : q < m := by have := hi.2.2; omega
    by_cases hs : (S j).1 = 1 ∧ (S j).2.1 = (q : Int)
    · have hd := h.good.2 q
      simp only [] at hd
      refine (bad_ok j q hj hq w h.pl hs.1 hs.2 ⟨hd.1, by show D q < _; omega⟩).mono ?_
      rintro e w' ⟨rfl, hw⟩
      subst hw
      have e1 : badR n m (S, D, T) (j : Int) (q : Int) = 0 := by unfold badR; rw [if_pos hi]; exact if_pos hs
      have e2 : badS n m (S, D, T) (j : Int) (q : Int) = (upd S j (0, 0, 0), updD D q (D q + 1), T) := by unfold badS; exact if_pos ⟨hi, hs⟩
      rw [e1, e2]
      have hch : Chg gc gd gd w ((put3 w gc j (0, 0, 0)).setCell ⟨gd, q, none⟩ (.int .i64 (D q + 1))) := (put3_chg w gc j (0, 0, 0) gd gd).trans (Chg.of_set gd q _ _ (Or.inr (Or.inl rfl)))
      exact ⟨rfl, h.next ((h.pl.put j hj (0, 0, 0)).putD q hq (D q + 1)) (h.mp.chg hch h.pl.e5 h.pl.e6) ((h.good.put j (0, 0, 0) (by decide)).putD q) (by have := h.pl.n1; omega) (by omega) (fun i k => by have := h.tb i k; simp only [] at this; omega), hch.wide⟩
    · refine (bad_arg j q hj hq w h.pl hs).mono ?_
      rintro e w' ⟨rfl, hw⟩
      subst hw
      have e1 : badR n m (S, D, T) (j : Int) (q : Int) = 2 := by unfold badR; rw [if_pos hi]; exact if_neg hs
      have e2 : badS n m (S, D, T) (j : Int) (q : Int) = (S, D, T) := by unfold badS; exact if_neg (fun h => hs h.2)
      rw [e1, e2]
      exact ⟨rfl, h.same, Chg.of_below (Below.refl _ _)⟩
  · refine (bad_none i k w h.pl hi).mono ?_
    rintro e w' ⟨rfl, hw⟩
    subst hw
    have e1 : badR n m (S, D, T) i k = 6 := by unfold badR; exact if_neg hi
    have e2 : badS n m (S, D, T) i k = (S, D, T) := by unfold badS; exact if_neg (fun h => hi h.1)
    rw [e1, e2]
    exact ⟨rfl, h.same, Chg.of_below (Below.refl _ _)⟩
theorem asked_calls {p gc gd gm cc cd n m : Nat} {win tm : Int} {S : Nat → U} {D : Nat → Int} (T : Nat → Nat → Int) (i : Int) (w : World) (h : Pl w p gc gd gm cc cd n m win tm S D) :
    Calls Try.prog 18 #[.pointer (some ⟨p, 0, none⟩), .int .i64 i] w fun e w' => e = .returned (.tuple #[.int .i64 (askR n (S, D, T) i).1, .int .i64 (askR n (S, D, T) i).2.1, .bool (askR n (S, D, T) i).2.2]) ∧ Below w.heap.size w w' := by
  by_cases hs : stOf S n i = 1
  · have hi := stOf_pos hs
    obtain ⟨j, rfl⟩ := Int.eq_ofNat_of_zero_le hi.1
    have hj : j < n := by have := hi.2; omega
    have hs' := hs
    rw [stOf_in hj] at hs'
    rw [show askR n (S, D, T) (j : Int) = ((S j).2.1, (S j).2.2, true) from if_pos hs]
    exact asked_yes j hj w h hs'
  · rw [show askR n (S, D, T) i = (0, 0, false) from if_neg hs]
    exact (asked_no i w h hs).mono (fun e w' ⟨h1, h2⟩ => ⟨h1, by rw [h2]; exact Below.refl _ _⟩)
def stuckB (n m : Nat) (s : St) : Bool := decide (leftF s.1 n ≠ 0) && !hasD s.2.1 m
theorem stuckB_calls {p gc gd gm cc cd n m : Nat} {win tm : Int} {S : Nat → U} {D : Nat → Int} (T : Nat → Nat → Int) (w : World) (h : Pl w p gc gd gm cc cd n m win tm S D) :
    Calls Try.prog 15 #[.pointer (some ⟨p, 0, none⟩)] w fun e w' => e = .returned (.bool (stuckB n m (S, D, T))) ∧ Below w.heap.size w w' := by
  by_cases hl : leftF S n = 0
  · rw [show stuckB n m (S, D, T) = false by simp [stuckB, hl]]
    exact stuck_zero w h hl
  · rw [show stuckB n m (S, D, T) = !hasD D m by simp [stuckB, hl]]
    exact stuck_calls w h hl
end Go.Proofs.Ytaheoifjihkipaa.As
