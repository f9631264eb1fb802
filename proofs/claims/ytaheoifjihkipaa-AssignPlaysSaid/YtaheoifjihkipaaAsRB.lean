/- What calls of Go functions of this seat come to, as the rows need it: under the conditions that each theorem names. -/
import Derived.Test.YtaheoifjihkipaaAsRA
namespace Go.Proofs.Ytaheoifjihkipaa.As
open Go.RowKit Go.Proofs.YtaheoifjihkipaaW.PrintWords Go.Proofs.YtaheoifjihkipaaW.PrintLast Go.Proofs.YtaheoifjihkipaaW.PrintMore
set_option linter.unusedVariables false
set_option linter.unusedSimpArgs false
set_option maxHeartbeats 3200000 in
theorem rload_calls {r : Nat} {L : Nat → Nat} {n m c0 c1 c2 c4 : Nat} {win tm : Int} {S : Nat → U} {D : Nat → Int} {T : Nat → Nat → Int} (k : Int) (w : World) (h : RPl w r L n m c0 c1 c2 c4 win tm S D T) :
    Calls Try.prog 35 #[.pointer (some ⟨r, 0, none⟩), .int .i64 k] w fun e w' => e = .returned (.int .i64 (loadF S k n : Nat)) ∧ w' = w := by
  have HP := Aside0.mk h
  have hn := h.n1
  have hm := h.m1
  have hk0 := h.k0
  obtain ⟨hk00, hk01, hk02, hk04⟩ := hk0
  have hkc := h.kc
  obtain ⟨hkc0, hkc1, hkc2, hkc4⟩ := hkc
  clear h
  have hc := HP.out.f0
  unfold slN at hc
  generalize hA : (if n = 0 then none else some (⟨L 0, 0, none⟩ : Addr)) = A at hc
  replace hA := Aside0.mk hA
  go_enter Try.func35, Try.ntmps35
  go_wp2
  go_loopw [5, 6] (fun v5 v wr => ∃ i : Nat, i ≤ n ∧ v = .int .i64 (i : Int) ∧ v5 = .int .i64 (loadF S k i : Nat) ∧ wr = w) (fun _ v _ => n - (intOf v).toNat)
  case atStart => exact ⟨0, Nat.zero_le _, rfl, rfl, rfl⟩
  case round =>
    obtain ⟨i, hi, rfl, rfl, hww⟩ := hrel
    replace hww := hww.symm
    subst hww
    by_cases hlt : i < n
    · have hA2 := hA.out
      rw [if_neg (by omega)] at hA2
      subst hA2
      have hc1 := HP.out.f1
      rw [slN_pos (by omega)] at hc1
      have y0 := (HP.out.st (by omega)).cu i hlt
      have y1 := (HP.out.pe (by omega)).cu i hlt
      have hle := loadF_le S k i
      have HS := Aside0.mk (show loadF S k (i + 1) = loadF S k i + (if (S i).1 = 1 ∧ (S i).2.1 = k then 1 else 0) from rfl)
      generalize loadF S k i = lo at hle HS ⊢
      by_cases h1 : (S i).1 = 1
      · by_cases h2 : (S i).2.1 = k
        · rw [h1] at y0
          rw [h2] at y1
          have HS2 := Aside0.mk (show loadF S k (i + 1) = lo + 1 by rw [HS.out, if_pos ⟨h1, h2⟩])
          clear h1 h2
          go_wp2
          go_roundw
          case rel => exact ⟨i + 1, by omega, by first | rfl | go_num, by rw [HS2.out]; first | rfl | go_num, by first | trivial | rfl⟩
          case measure => simp [intOf]; omega
        · have e2 : ((S i).2.1 == k) = false := by rw [beq_eq_false_iff_ne]; exact h2
          have HS2 := Aside0.mk (show loadF S k (i + 1) = lo by rw [HS.out, if_neg (fun h => h2 h.2)]; rfl)
          rw [h1] at y0
          clear h1 h2
          go_wp2
          go_roundw
          case rel => exact ⟨i + 1, by omega, by first | rfl | go_num, by rw [HS2.out], by first | trivial | rfl⟩
          case measure => simp [intOf]; omega
      · have e1 : ((S i).1 == 1) = false := by rw [beq_eq_false_iff_ne]; exact h1
        have HS2 := Aside0.mk (show loadF S k (i + 1) = lo by rw [HS.out, if_neg (fun h => h1 h.1)]; rfl)
        clear h1
        go_wp2
        go_roundw
        case rel => exact ⟨i + 1, by omega, by first | rfl | go_num, by rw [HS2.out], by first | trivial | rfl⟩
        case measure => simp [intOf]; omega
    · obtain rfl : n = i := by omega
      go_wp2
      go_ret
      exact ⟨rfl, rfl⟩
set_option maxHeartbeats 3200000 in
theorem rleft_calls {r : Nat} {L : Nat → Nat} {n m c0 c1 c2 c4 : Nat} {win tm : Int} {S : Nat → U} {D : Nat → Int} {T : Nat → Nat → Int} (w : World) (h : RPl w r L n m c0 c1 c2 c4 win tm S D T) :
    Calls Try.prog 40 #[.pointer (some ⟨r, 0, none⟩)] w fun e w' => e = .returned (.int .i64 (leftF S n : Nat)) ∧ w' = w := by
  have HP := Aside0.mk h
  have hn := h.n1
  have hm := h.m1
  have hk0 := h.k0
  obtain ⟨hk00, hk01, hk02, hk04⟩ := hk0
  have hkc := h.kc
  obtain ⟨hkc0, hkc1, hkc2, hkc4⟩ := hkc
  clear h
  have hc := HP.out.f0
  unfold slN at hc
  generalize hA : (if n = 0 then none else some (⟨L 0, 0, none⟩ : Addr)) = A at hc
  replace hA := Aside0.mk hA
  go_enter Try.func40, Try.ntmps40
  go_wp2
  go_loopw [3, 4] (fun v5 v wr => ∃ i : Nat, i ≤ n ∧ v = .int .i64 (i : Int) ∧ v5 = .int .i64 (leftF S i : Nat) ∧ wr = w) (fun _ v _ => n - (intOf v).toNat)
  case atStart => exact ⟨0, Nat.zero_le _, rfl, rfl, rfl⟩
  case round =>
    obtain ⟨i, hi, rfl, rfl, hww⟩ := hrel
    replace hww := hww.symm
    subst hww
    by_cases hlt : i < n
    · have hA2 := hA.out
      rw [if_neg (by omega)] at hA2
      subst hA2
      have y0 := (HP.out.st (by omega)).cu i hlt
      have hle := leftF_le S i
      have HS := Aside0.mk (show leftF S (i + 1) = leftF S i + (if (S i).1 = 2 then 0 else 1) from rfl)
      generalize leftF S i = lo at hle HS ⊢
      by_cases h1 : (S i).1 = 2
      · rw [h1] at y0
        have HS2 := Aside0.mk (show leftF S (i + 1) = lo by rw [HS.out, if_pos h1]; rfl)
        clear h1
        go_wp2
        go_roundw
        case rel => exact ⟨i + 1, by omega, by first | rfl | go_num, by rw [HS2.out], by first | trivial | rfl⟩
        case measure => simp [intOf]; omega
      · have e1 : ((S i).1 == 2) = false := by rw [beq_eq_false_iff_ne]; exact h1
        have e2 : ((S i).1 != 2) = true := by rw [bne_iff_ne]; exact h1
        have HS2 := Aside0.mk (show leftF S (i + 1) = lo + 1 by rw [HS.out, if_neg h1])
        clear h1
        go_wp2
        go_roundw
        case rel => exact ⟨i + 1, by omega, by first | rfl | go_num, by rw [HS2.out]; first | rfl | go_num, by first | trivial | rfl⟩
        case measure => simp [intOf]; omega
    · obtain rfl : n = i := by omega
      go_wp2
      go_ret
      exact ⟨rfl, rfl⟩
set_option maxHeartbeats 3200000 in
theorem rstuck_calls {r : Nat} {L : Nat → Nat} {n m c0 c1 c2 c4 : Nat} {win tm : Int} {S : Nat → U} {D : Nat → Int} {T : Nat → Nat → Int} (w : World) (h : RPl w r L n m c0 c1 c2 c4 win tm S D T) :
    Calls Try.prog 41 #[.pointer (some ⟨r, 0, none⟩)] w fun e w' => e = .returned (.bool (stuckB n m (S, D, T))) ∧ w' = w := by
  have HP := Aside0.mk h
  have hn := h.n1
  have hm := h.m1
  have hk0 := h.k0
  obtain ⟨hk00, hk01, hk02, hk04⟩ := hk0
  have hkc := h.kc
  obtain ⟨hkc0, hkc1, hkc2, hkc4⟩ := hkc
  clear h
  have hc := HP.out.f3
  go_enter Try.func41, Try.ntmps41
  go_wp2
  go_loopw [3] (fun v wr => ∃ i : Nat, i ≤ m ∧ v = .int .i64 (i : Int) ∧ Aside0 (∀ q, q < i → decide (D q < 3) = false) ∧ wr = w) (fun v _ => m - (intOf v).toNat)
  case atStart => exact ⟨0, Nat.zero_le _, rfl, ⟨fun q h => by omega⟩, rfl⟩
  case round =>
    obtain ⟨i, hi, rfl, HQ, hww⟩ := hrel
    replace hww := hww.symm
    subst hww
    by_cases hlt : i < m
    · have y0 := HP.out.ba.cu i hlt
      by_cases h1 : D i < 3
      · have e1 : decide (D i < 3) = true := decide_eq_true h1
        have HZ := Aside0.mk (show stuckB n m (S, D, T) = false by unfold stuckB; rw [hasD_yes hlt e1]; simp)
        clear h1
        go_wp2
        go_ret
        exact ⟨by rw [HZ.out]; rfl, rfl⟩
      · have e1 : decide (D i < 3) = false := decide_eq_false h1
        have HQ2 := Aside0.mk (show ∀ q, q < i + 1 → decide (D q < 3) = false from fun q hq => by
          by_cases e : q = i
          · rw [e]; exact e1
          · exact HQ.out q (by omega))
        clear h1
        go_wp2
        go_roundw
        case rel => exact ⟨i + 1, by omega, by first | rfl | go_num, HQ2, by first | trivial | rfl⟩
        case measure => simp [intOf]; omega
    · obtain rfl : m = i := by omega
      have HZ := Aside0.mk (show stuckB n m (S, D, T) = decide (leftF S n > 0) by
        unfold stuckB
        rw [hasD_no HQ.out]
        simp only [Bool.not_false, Bool.and_true]
        exact decide_eq_decide.2 (by show leftF S n ≠ 0 ↔ _; omega))
      go_wp2_with fail
      refine (rleft_calls _ HP.out).mono ?_
      rintro e w1 ⟨rfl, hw⟩
      replace hw := hw.symm
      subst hw
      have hle := leftF_le S n
      generalize leftF S n = lf at HZ hle ⊢
      go_wp2
      go_ret
      exact ⟨by rw [HZ.out]; simp, rfl⟩
end Go.Proofs.Ytaheoifjihkipaa.As
