/- What calls of Go functions of this seat come to, as the rows need it: under the conditions that each theorem names. -/
import Derived.Test.YtaheoifjihkipaaAsRC
namespace Go.Proofs.Ytaheoifjihkipaa.As
open Go.RowKit Go.Proofs.YtaheoifjihkipaaW.PrintWords Go.Proofs.YtaheoifjihkipaaW.PrintLast Go.Proofs.YtaheoifjihkipaaW.PrintMore
set_option linter.unusedVariables false
set_option linter.unusedSimpArgs false
/-- The reference's plan stands as the state says. -/
def RPs (w : World) (r : Nat) (L : Nat → Nat) (n m c0 c1 c2 c4 : Nat) (win tm : Int) (s : St) : Prop := ∃ R, Sim n s.1 R ∧ RPl w r L n m c0 c1 c2 c4 win tm R s.2.1 s.2.2
/-- What a call of the reference's changes: its own blocks, but for the first one. -/
structure ChL (w w' : World) (L : Nat → Nat) (N : Nat) : Prop where
  os : w'.os = w.os
  tape : w'.tape = w.tape
  output : w'.output = w.output
  size : w.heap.size ≤ w'.heap.size
  block : ∀ k, k < w.heap.size → (∀ a, a < N → k ≠ L a) → w'.heap[k]? = w.heap[k]?
theorem ChL.refl (w : World) (L : Nat → Nat) (N : Nat) : ChL w w L N := ⟨rfl, rfl, rfl, Nat.le_refl _, fun _ _ _ => rfl⟩
theorem ChL.trans {u v w : World} {L : Nat → Nat} {N : Nat} (h : ChL u v L N) (k : ChL v w L N) : ChL u w L N :=
  ⟨k.os.trans h.os, k.tape.trans h.tape, k.output.trans h.output, Nat.le_trans h.size k.size, fun i hi ha => (k.block i (Nat.lt_of_lt_of_le hi h.size) ha).trans (h.block i hi ha)⟩
theorem ChL.of_below {w w' : World} {L : Nat → Nat} {N : Nat} (h : Below w.heap.size w w') : ChL w w' L N := ⟨h.os, h.tape, h.output, h.size, fun k hk _ => h.block k hk⟩
theorem ChL.set {w : World} {L : Nat → Nat} {N a : Nat} (ha : a < N) (k : Nat) (v : Value) : ChL w (w.setCell ⟨L a, k, none⟩ v) L N :=
  have h : Below (L a) w (w.setCell ⟨L a, k, none⟩ v) := (Below.refl (L a) w).setCell (p := ⟨L a, k, none⟩) (Nat.le_refl _) v
  ⟨h.os, h.tape, h.output, h.size, fun q _ hq => Below.heap_setCell w ⟨L a, k, none⟩ v q (fun e => hq a ha e)⟩
theorem ChL.drewN {w : World} {L : Nat → Nat} {N : Nat} (q : Nat) : ChL w (w.drewN q) L N := ⟨rfl, rfl, rfl, Nat.le_refl _, fun _ _ _ => rfl⟩
theorem Sim.upd_both {n : Nat} {S R : Nat → U} (h : Sim n S R) (i : Nat) (x y : U) (h1 : y.1 = x.1) (h2 : x.1 = 1 → y = x) : Sim n (upd S i x) (upd R i y) := fun j hj => by
  by_cases e : j = i
  · subst e
    rw [upd_same, upd_same]
    exact ⟨h1, h2⟩
  · rw [upd_other _ _ _ _ e, upd_other _ _ _ _ e]
    exact h j hj
set_option maxHeartbeats 3200000 in
theorem rhad_calls {r : Nat} {L : Nat → Nat} {n m c0 c1 c2 c4 : Nat} {win tm : Int} {s : St} (i : Int) (w : World) (h : RPs w r L n m c0 c1 c2 c4 win tm s) :
    Calls Try.prog 22 #[.pointer (some ⟨r, 0, none⟩), .int .i64 i] w fun e w' => e = .returned (.int .i64 (hadR n s i)) ∧ RPs w' r L n m c0 c1 c2 c4 win tm (hadS n s i) ∧ ChL w w' L (n + 5) := by
  obtain ⟨S, D, T⟩ := s
  have h' := h
  obtain ⟨R, hsim, hR⟩ := h'
  simp only [] at hsim hR
  have HH := Aside0.mk h
  have HP := Aside0.mk hR
  have HS := Aside0.mk hsim
  have hn := hR.n1
  have hm := hR.m1
  have hk0 := hR.k0
  obtain ⟨hk00, hk01, hk02, hk04⟩ := hk0
  have hkc := hR.kc
  obtain ⟨hkc0, hkc1, hkc2, hkc4⟩ := hkc
  clear hR hsim h
  have hc := HP.out.f0
  by_cases hi : isIn n i
  case neg =>
    have e6 : hadR n (S, D, T) i = 6 := if_neg hi
    have es : hadS n (S, D, T) i = (S, D, T) := if_neg (fun h => hi h.1)
    rw [e6, es]
    clear e6 es
    unfold slN at hc
    generalize (if n = 0 then none else some (⟨L 0, 0, none⟩ : Addr)) = A at hc
    by_cases h0 : i < 0
    · have e1 : decide (i < 0) = true := decide_eq_true h0
      clear hi h0
      go_enter Try.func22, Try.ntmps22
      go_wp2
      go_ret
      exact ⟨rfl, HH.out, ChL.refl _ _ _⟩
    · have e1 : decide (i < 0) = false := decide_eq_false h0
      have e2 : decide (i ≥ (n : Int)) = true := decide_eq_true (by unfold isIn at hi; omega)
      clear hi h0
      go_enter Try.func22, Try.ntmps22
      go_wp2
      go_ret
      exact ⟨rfl, HH.out, ChL.refl _ _ _⟩
  obtain ⟨j, rfl⟩ := Int.eq_ofNat_of_zero_le hi.1
  have hj : j < n := by have := hi.2; omega
  have e1 : decide ((j : Int) < 0) = false := decide_eq_false (by omega)
  have e2 : decide ((j : Int) ≥ (n : Int)) = false := decide_eq_false (by omega)
  have e3 : decide (n ≤ j) = false := decide_eq_false (by omega)
  rw [slN_pos (by omega)] at hc
  have hSj := HS.out j hj
  have y0 := (HP.out.st (by omega)).cu j hj
  by_cases h2 : (S j).1 = 2
  · have e7 : hadR n (S, D, T) (j : Int) = 7 := by unfold hadR; rw [if_pos hi]; exact if_pos h2
    have es : hadS n (S, D, T) (j : Int) = (S, D, T) := by unfold hadS; exact if_neg (fun h => h.2 h2)
    rw [e7, es]
    rw [hSj.1, h2] at y0
    clear e7 es hi hSj h2
    go_enter Try.func22, Try.ntmps22
    go_wp2
    go_ret
    exact ⟨rfl, HH.out, ChL.refl _ _ _⟩
  · have e7 : hadR n (S, D, T) (j : Int) = 0 := by unfold hadR; rw [if_pos hi]; exact if_neg h2
    have es : hadS n (S, D, T) (j : Int) = (upd S j (2, 0, 0), D, T) := by unfold hadS; exact if_pos ⟨hi, h2⟩
    rw [e7, es]
    have e8 : ((R j).1 == 2) = false := by rw [beq_eq_false_iff_ne, hSj.1]; exact h2
    have z0 := (HP.out.st (by omega)).fz j
    have HN := Aside0.mk (HP.out.setS j hj 2)
    have HC : Aside0 (ChL w (w.setCell ⟨L 0, j, none⟩ (.int .i64 2)) L (n + 5)) := ⟨ChL.set (by omega) j _⟩
    clear e7 es hi hSj h2
    go_enter Try.func22, Try.ntmps22
    go_wp2
    go_ret
    exact ⟨rfl, ⟨_, HS.out.upd_both j (2, 0, 0) (2, (R j).2.1, (R j).2.2) rfl (fun h => by cases h), HN.out⟩, HC.out⟩
set_option maxHeartbeats 6400000 in
theorem rbad_calls {r : Nat} {L : Nat → Nat} {n m c0 c1 c2 c4 : Nat} {win tm : Int} {s : St} (i k : Int) (w : World) (h : RPs w r L n m c0 c1 c2 c4 win tm s) (hB : ∀ k, 0 ≤ s.2.1 k ∧ s.2.1 k ≤ 1000000000) :
    Calls Try.prog 23 #[.pointer (some ⟨r, 0, none⟩), .int .i64 i, .int .i64 k] w fun e w' => e = .returned (.int .i64 (badR n m s i k)) ∧ RPs w' r L n m c0 c1 c2 c4 win tm (badS n m s i k) ∧ ChL w w' L (n + 5) := by
  obtain ⟨S, D, T⟩ := s
  have h' := h
  obtain ⟨R, hsim, hR⟩ := h'
  simp only [] at hsim hR hB
  have HH := Aside0.mk h
  have HP := Aside0.mk hR
  have HS := Aside0.mk hsim
  have hn := hR.n1
  have hm := hR.m1
  have hk0 := hR.k0
  obtain ⟨hk00, hk01, hk02, hk04⟩ := hk0
  have hkc := hR.kc
  obtain ⟨hkc0, hkc1, hkc2, hkc4⟩ := hkc
  clear hR hsim h
  have hc := HP.out.f0
  have hc3 := HP.out.f3
  by_cases hi : isIn n i
  case neg =>
    have e6 : badR n m (S, D, T) i k = 6 := if_neg (fun h => hi h.1)
    have es : badS n m (S, D, T) i k = (S, D, T) := if_neg (fun h => hi h.1.1)
    rw [e6, es]
    clear e6 es
    unfold slN at hc
    generalize (if n = 0 then none else some (⟨L 0, 0, none⟩ : Addr)) = A at hc
    by_cases h0 : i < 0
    · have e1 : decide (i < 0) = true := decide_eq_true h0
      clear hi h0
      go_enter Try.func23, Try.ntmps23
      go_wp2
      go_ret
      exact ⟨rfl, HH.out, ChL.refl _ _ _⟩
    · have e1 : decide (i < 0) = false := decide_eq_false h0
      have e2 : decide (i ≥ (n : Int)) = true := decide_eq_true (by unfold isIn at hi; omega)
      clear hi h0
      go_enter Try.func23, Try.ntmps23
      go_wp2
      go_ret
      exact ⟨rfl, HH.out, ChL.refl _ _ _⟩
  obtain ⟨j, rfl⟩ := Int.eq_ofNat_of_zero_le hi.1
  have hj : j < n := by have := hi.2; omega
  have e1 : decide ((j : Int) < 0) = false := decide_eq_false (by omega)
  have e2 : decide ((j : Int) ≥ (n : Int)) = false := decide_eq_false (by omega)
  have e3 : decide (n ≤ j) = false := decide_eq_false (by omega)
  rw [slN_pos (by omega)] at hc
  by_cases hk : isIn m k
  case neg =>
    have e6 : badR n m (S, D, T) (j : Int) k = 6 := if_neg (fun h => hk h.2)
    have es : badS n m (S, D, T) (j : Int) k = (S, D, T) := if_neg (fun h => hk h.1.2)
    rw [e6, es]
    clear e6 es
    by_cases h0 : k < 0
    · have e4 : decide (k < 0) = true := decide_eq_true h0
      clear hi hk h0
      go_enter Try.func23, Try.ntmps23
      go_wp2
      go_ret
      exact ⟨rfl, HH.out, ChL.refl _ _ _⟩
    · have e4 : decide (k < 0) = false := decide_eq_false h0
      have e5 : decide (k ≥ (m : Int)) = true := decide_eq_true (by unfold isIn at hk; omega)
      clear hi hk h0
      go_enter Try.func23, Try.ntmps23
      go_wp2
      go_ret
      exact ⟨rfl, HH.out, ChL.refl _ _ _⟩
  obtain ⟨q, rfl⟩ := Int.eq_ofNat_of_zero_le hk.1
  have hq : q < m := by have := hk.2; omega
  have e4 : decide ((q : Int) < 0) = false := decide_eq_false (by omega)
  have e5 : decide ((q : Int) ≥ (m : Int)) = false := decide_eq_false (by omega)
  have e6 : decide (m ≤ q) = false := decide_eq_false (by omega)
  have hSj := HS.out j hj
  have y0 := (HP.out.st (by omega)).cu j hj
  have hc1 := HP.out.f1
  rw [slN_pos (by omega)] at hc1
  have y1 := (HP.out.pe (by omega)).cu j hj
  by_cases h1 : (S j).1 = 1
  case neg =>
    have e7 : badR n m (S, D, T) (j : Int) (q : Int) = 2 := by unfold badR; rw [if_pos ⟨hi, hk⟩]; exact if_neg (fun h => h1 h.1)
    have es : badS n m (S, D, T) (j : Int) (q : Int) = (S, D, T) := if_neg (fun h => h1 h.2.1)
    rw [e7, es]
    have e8 : ((R j).1 != 1) = true := by rw [bne_iff_ne, hSj.1]; exact h1
    clear e7 es hi hk hSj h1
    go_enter Try.func23, Try.ntmps23
    go_wp2
    go_ret
    exact ⟨rfl, HH.out, ChL.refl _ _ _⟩
  have hRS := hSj.2 h1
  rw [hSj.1, h1] at y0
  rw [hRS] at y1
  by_cases h2 : (S j).2.1 = (q : Int)
  case neg =>
    have e7 : badR n m (S, D, T) (j : Int) (q : Int) = 2 := by unfold badR; rw [if_pos ⟨hi, hk⟩]; exact if_neg (fun h => h2 h.2)
    have es : badS n m (S, D, T) (j : Int) (q : Int) = (S, D, T) := if_neg (fun h => h2 h.2.2)
    rw [e7, es]
    have e8 : ((S j).2.1 != (q : Int)) = true := by rw [bne_iff_ne]; exact h2
    clear e7 es hi hk hSj h1 h2 hRS
    go_enter Try.func23, Try.ntmps23
    go_wp2
    go_ret
    exact ⟨rfl, HH.out, ChL.refl _ _ _⟩
  have e7 : badR n m (S, D, T) (j : Int) (q : Int) = 0 := by unfold badR; rw [if_pos ⟨hi, hk⟩]; exact if_pos ⟨h1, h2⟩
  have es : badS n m (S, D, T) (j : Int) (q : Int) = (upd S j (0, 0, 0), updD D q (D q + 1), T) := if_pos ⟨⟨hi, hk⟩, h1, h2⟩
  rw [e7, es]
  rw [h2] at y1
  have hbq := hB q
  obtain ⟨hb1, hb2⟩ := hbq
  have z0 := (HP.out.st (by omega)).fz j
  have y3 := HP.out.ba.cu q hq
  have HN := Aside0.mk (HP.out.setS j hj 0)
  have x3 := HN.out.f3
  have x4 := HN.out.ba.cu q hq
  have x5 := HN.out.ba.fz q
  have HN2 := Aside0.mk (HN.out.setD q hq (D q + 1))
  have HC : Aside0 (ChL w ((w.setCell ⟨L 0, j, none⟩ (.int .i64 0)).setCell ⟨L 3, q, none⟩ (.int .i64 (D q + 1))) L (n + 5)) := ⟨(ChL.set (by omega) j _).trans (ChL.set (by omega) q _)⟩
  clear e7 es hi hk hSj h1 h2 hRS hB
  go_enter Try.func23, Try.ntmps23
  go_wp2
  go_ret
  exact ⟨rfl, ⟨_, HS.out.upd_both j (0, 0, 0) (0, (R j).2.1, (R j).2.2) rfl (fun h => by cases h), HN2.out⟩, HC.out⟩
end Go.Proofs.Ytaheoifjihkipaa.As
