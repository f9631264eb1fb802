/- What calls of Go functions of this seat come to, as the rows need it: under the conditions that each theorem names. -/
import Derived.Test.YtaheoifjihkipaaAsRD
namespace Go.Proofs.Ytaheoifjihkipaa.As
open Go.RowKit Go.Proofs.YtaheoifjihkipaaW.PrintWords Go.Proofs.YtaheoifjihkipaaW.PrintLast Go.Proofs.YtaheoifjihkipaaW.PrintMore
set_option linter.unusedVariables false
set_option linter.unusedSimpArgs false
theorem rbetter_at {r : Nat} {L : Nat → Nat} {n m c0 c1 c2 c4 : Nat} {win tm : Int} {S : Nat → U} {D : Nat → Int} {T : Nat → Nat → Int} {x : Bool} (i k b : Nat) (hi : i < n) (hkm : k < m) (hb : b < k) (w : World) (h : RPl w r L n m c0 c1 c2 c4 win tm S D T) (hx : betB S D T n i k b = x) :
    Calls Try.prog 36 #[.pointer (some ⟨r, 0, none⟩), .int .i64 (i : Int), .int .i64 (k : Int), .int .i64 (b : Int)] w fun e w' => e = .returned (.bool x) ∧ ∃ q, w' = w.drewN q := by
  subst hx
  exact rbetter_calls i k b hi hkm hb w h
theorem RPl.keepDrew {w : World} {r : Nat} {L : Nat → Nat} {n m c0 c1 c2 c4 : Nat} {win tm : Int} {S : Nat → U} {D : Nat → Int} {T : Nat → Nat → Int} (h : RPl w r L n m c0 c1 c2 c4 win tm S D T) : RPl w.drew r L n m c0 c1 c2 c4 win tm S D T := h.keep rfl (fun _ _ _ => rfl)
set_option maxHeartbeats 12800000 in
set_option maxRecDepth 100000 in
theorem rnext_calls {r : Nat} {L : Nat → Nat} {n m c0 c1 c2 c4 : Nat} {win tm B : Int} {s : St} (now : Int) (w : World) (h : RPs w r L n m c0 c1 c2 c4 win tm s) (hg : Good n m s.1 s.2.1 B) (hB : B ≤ 1000000000) (hT : ∀ i k, 0 ≤ s.2.2 i k ∧ s.2.2 i k ≤ 4000000) (ht : 1 ≤ tm ∧ tm ≤ 1000000) (hnow : -1152921504606846976 ≤ now ∧ now ≤ 1152921504606846976) :
    Calls Try.prog 21 #[.pointer (some ⟨r, 0, none⟩), .int .i64 now] w fun e w' => e = .returned (.tuple #[.int .i64 (nextF now win tm n m s).1.1, .int .i64 (nextF now win tm n m s).1.2.1, .bool (nextF now win tm n m s).1.2.2]) ∧
      RPs w' r L n m c0 c1 c2 c4 win tm (nextF now win tm n m s).2 ∧ ChL w w' L (n + 5) := by
  obtain ⟨S, D, T⟩ := s
  obtain ⟨R0, hsim, hR⟩ := h
  simp only [] at hsim hR hg hT
  have HP0 := Aside0.mk hR
  have HS0 := Aside0.mk hsim
  have hn := hR.n1
  have hm := hR.m1
  have hk0 := hR.k0
  obtain ⟨hk00, hk01, hk02, hk04⟩ := hk0
  have hkc := hR.kc
  obtain ⟨hkc0, hkc1, hkc2, hkc4⟩ := hkc
  have HG := Aside0.mk hg
  have HTB := Aside0.mk hT
  have HT := Aside0.mk ht
  have HN := Aside0.mk hnow
  have HBB := Aside0.mk hB
  have HF := Aside0.mk (show nextF now win tm n m (S, D, T) = if openF (lateF now tm S D n).1 n 0 < n ∧ 0 ≤ bestF (lateF now tm S D n).1 (lateF now tm S D n).2 T win n (openF (lateF now tm S D n).1 n 0) m then ((((openF (lateF now tm S D n).1 n 0 : Nat) : Int), bestF (lateF now tm S D n).1 (lateF now tm S D n).2 T win n (openF (lateF now tm S D n).1 n 0) m, true), (upd (lateF now tm S D n).1 (openF (lateF now tm S D n).1 n 0) (1, bestF (lateF now tm S D n).1 (lateF now tm S D n).2 T win n (openF (lateF now tm S D n).1 n 0) m, now), (lateF now tm S D n).2, updT T (openF (lateF now tm S D n).1 n 0) (bestF (lateF now tm S D n).1 (lateF now tm S D n).2 T win n (openF (lateF now tm S D n).1 n 0) m).toNat (T (openF (lateF now tm S D n).1 n 0) (bestF (lateF now tm S D n).1 (lateF now tm S D n).2 T win n (openF (lateF now tm S D n).1 n 0) m).toNat + 1))) else ((0, 0, false), ((lateF now tm S D n).1, (lateF now tm S D n).2, T)) from rfl)
  clear hR hsim hg hT ht hnow hB
  generalize hZ : nextF now win tm n m (S, D, T) = Z at HF ⊢
  replace hZ := Aside0.mk hZ
  have hc := HP0.out.f0
  unfold slN at hc
  generalize hA : (if n = 0 then none else some (⟨L 0, 0, none⟩ : Addr)) = A at hc
  replace hA := Aside0.mk hA
  have HC0 := Aside0.mk (ChL.refl w L (n + 5))
  go_enter Try.func21, Try.ntmps21
  go_wp2
  go_loopw [7] (fun v wr => ∃ (i : Nat) (R : Nat → U), i ≤ n ∧ v = .int .i64 (i : Int) ∧ Aside0 (Sim n (lateF now tm S D i).1 R) ∧ Aside0 (RPl wr r L n m c0 c1 c2 c4 win tm R (lateF now tm S D i).2 T) ∧ Aside0 (ChL w wr L (n + 5))) (fun v _ => n - (intOf v).toNat)
  case atStart => exact ⟨0, R0, Nat.zero_le _, rfl, HS0, HP0, HC0⟩
  case round =>
    clear HS0 HP0 HC0 hc
    obtain ⟨i, R, hi, rfl, HS, HP, HC⟩ := hrel
    by_cases hlt : i < n
    · have hA2 := hA.out
      rw [if_neg (by omega)] at hA2
      subst hA2
      have hc := HP.out.f0
      rw [slN_pos (by omega)] at hc
      have hc1 := HP.out.f1
      rw [slN_pos (by omega)] at hc1
      have hc2 := HP.out.f2
      rw [slN_pos (by omega)] at hc2
      have hc3 := HP.out.f3
      have hc6 := HP.out.f6
      have y0 := (HP.out.st (by omega)).cu i hlt
      have y1 := (HP.out.pe (by omega)).cu i hlt
      have y2 := (HP.out.si (by omega)).cu i hlt
      have HA := Aside0.mk (lateF_at now tm S D i i (Nat.le_refl _))
      have HD := Aside0.mk (lateF_D HG.out now tm i)
      have HNX := Aside0.mk (show lateF now tm S D (i + 1) = if (S i).1 = 1 ∧ (S i).2.2 ≤ now ∧ tm ≤ now - (S i).2.2 then (upd (lateF now tm S D i).1 i (0, 0, 0), updD (lateF now tm S D i).2 (S i).2.1.toNat ((lateF now tm S D i).2 (S i).2.1.toNat + 1)) else lateF now tm S D i from rfl)
      have HGI := Aside0.mk (HG.out.1 i hlt)
      have HSi := Aside0.mk (HS.out i hlt)
      rw [HA.out] at HSi
      generalize S i = x at HA HNX HGI HSi
      have e0 : decide ((i : Int) < (n : Int)) = true := decide_eq_true (by omega)
      go_upto_region 4 with (fail)
      by_cases h1 : x.1 = 1
      case neg =>
        have e1 : ((R i).1 == 1) = false := by rw [beq_eq_false_iff_ne, HSi.out.1]; exact h1
        have HNX2 := Aside0.mk (HNX.out.trans (if_neg (fun h => h1 h.1)))
        clear h1 HNX HGI
        go_quiet (fail)
        have HP2 := Aside0.mk (HP.out.drewN nq)
        have HC2 := Aside0.mk (HC.out.trans (ChL.drewN nq))
        go_wp2
        go_roundw
        case rel => exact ⟨i + 1, R, by omega, by first | rfl | go_num, by rw [HNX2.out]; exact HS, by rw [HNX2.out]; exact HP2, HC2⟩
        case measure => simp [intOf]; omega
      have hRi := HSi.out.2 h1
      rw [hRi] at y0 y1 y2
      rw [h1] at y0
      obtain ⟨hp0, hp1⟩ := (HGI.out h1).1
      obtain ⟨pk, hpk⟩ := Int.eq_ofNat_of_zero_le hp0
      have hpm : pk < m := by omega
      rw [hpk] at y1
      have hwr : Go.RowKit.wrap64 (now - x.2.2) = now - x.2.2 := by
        have h5 := (HGI.out h1).2
        have h6 := HN.out
        unfold Go.RowKit.wrap64
        omega
      by_cases h3 : tm ≤ now - x.2.2
      case neg =>
        have e1 : decide (now - x.2.2 ≥ tm) = false := decide_eq_false h3
        have HNX2 := Aside0.mk (HNX.out.trans (if_neg (fun h => h3 h.2.2)))
        clear h1 h3 HNX HGI hRi hp0 hp1 hpk
        go_quiet (fail)
        have HP2 := Aside0.mk (HP.out.drewN nq)
        have HC2 := Aside0.mk (HC.out.trans (ChL.drewN nq))
        go_wp2
        go_roundw
        case rel => exact ⟨i + 1, R, by omega, by first | rfl | go_num, by rw [HNX2.out]; exact HS, by rw [HNX2.out]; exact HP2, HC2⟩
        case measure => simp [intOf]; omega
      have e1 : decide (now - x.2.2 ≥ tm) = true := decide_eq_true h3
      have HNX2 := Aside0.mk (HNX.out.trans (if_pos ⟨h1, by have := HT.out; omega, h3⟩))
      rw [hpk, Int.toNat_natCast] at HNX2
      have HPK := Aside0.mk (show (R i).2.1 = (pk : Int) by rw [hRi]; exact hpk)
      clear h1 h3 HNX HGI hRi hp0 hp1 hpk
      go_quiet (fail)
      have HP2 := Aside0.mk (HP.out.drewN nq)
      have HC2 := Aside0.mk (HC.out.trans (ChL.drewN nq))
      generalize wr.drewN nq = w2 at HP2 HC2 ⊢
      clear hc hc1 hc2 hc3 hc6 y0 y1 y2 hwr e1 HP HC
      have hc := HP2.out.f0
      rw [slN_pos (by omega)] at hc
      have y0 := (HP2.out.st (by omega)).cu i hlt
      have z0 := (HP2.out.st (by omega)).fz i
      have HP3 := Aside0.mk (HP2.out.setS i hlt 0)
      have HC3 : Aside0 (ChL w (w2.setCell ⟨L 0, i, none⟩ (.int .i64 0)) L (n + 5)) := ⟨HC2.out.trans (ChL.set (by omega) i _)⟩
      have HS3 := Aside0.mk (HS.out.upd_both i (0, 0, 0) (0, (R i).2.1, (R i).2.2) rfl (fun h => by cases h))
      go_upto_region 6 with (fail)
      clear hc y0 z0 HP2 HC2 HS
      generalize w2.setCell ⟨L 0, i, none⟩ (.int .i64 0) = w3 at HP3 HC3 ⊢
      have hdw : Go.RowKit.wrap64 ((lateF now tm S D i).2 pk + 1) = (lateF now tm S D i).2 pk + 1 := by
        have := HD.out pk
        have := HBB.out
        unfold Go.RowKit.wrap64
        omega
      refine Reg.region_tail 15 (by kernel_rfl) (by kernel_rfl) (fun w4 hb4 => ?_)
      simp only [List.take_succ_cons, List.take_zero, List.drop_succ_cons, List.drop_zero]
      have HP4 := Aside0.mk (HP3.out.below hb4)
      have HC4 := Aside0.mk (HC3.out.trans (ChL.of_below hb4))
      have hc1 := HP4.out.f1
      rw [slN_pos (by omega)] at hc1
      have hc3 := HP4.out.f3
      have y1 := (HP4.out.pe (by omega)).cu i hlt
      rw [upd_same, HPK.out] at y1
      have y3 := HP4.out.ba.cu pk hpm
      have z3 := HP4.out.ba.fz pk
      have HP5 := Aside0.mk (HP4.out.setD pk hpm ((lateF now tm S D i).2 pk + 1))
      have HC5 : Aside0 (ChL w (w4.setCell ⟨L 3, pk, none⟩ (.int .i64 ((lateF now tm S D i).2 pk + 1))) L (n + 5)) := ⟨HC4.out.trans (ChL.set (by omega) pk _)⟩
      clear hb4 HP3 HC3 HP4 HC4
      repeat still_step
      refine wpStill_nil ?_
      go_wp2
      go_roundw
      case rel => exact ⟨i + 1, _, by omega, by first | rfl | go_num, by rw [HNX2.out]; exact HS3, by rw [HNX2.out]; exact HP5, HC5⟩
      case measure => simp [intOf]; omega
    · obtain rfl : n = i := by omega
      have HGD := Aside0.mk (lateF_good HG.out now tm n)
      generalize (lateF now tm S D n).1 = S1 at HF HS HGD
      generalize (lateF now tm S D n).2 = D1 at HF HP HGD
      have e0 : decide ((n : Int) < (n : Int)) = false := decide_eq_false (by omega)
      have hc := HP.out.f0
      unfold slN at hc
      rw [hA.out] at hc
      go_wp2
      obtain ⟨wo, hwo⟩ : ∃ wo, wo = wr := ⟨_, rfl⟩
      subst hwo
      go_loopw [8] (fun v wr => ∃ i : Nat, i ≤ n ∧ v = .int .i64 (i : Int) ∧ Aside0 (∀ j, j < i → (S1 j).1 ≠ 0) ∧ Aside0 (RPl wr r L n m c0 c1 c2 c4 win tm R D1 T) ∧ Aside0 (ChL w wr L (n + 5))) (fun v _ => n - (intOf v).toNat)
      case atStart => exact ⟨0, Nat.zero_le _, rfl, ⟨fun j hj => by omega⟩, HP, HC⟩
      case round =>
        clear HP HC hc
        obtain ⟨i, hi, rfl, HNO, HP, HC⟩ := hrel
        by_cases hlt : i < n
        case neg =>
          obtain rfl : n = i := by omega
          have hop := openF_none (S := S1) (n := n) HNO.out
          have HF2 := Aside0.mk (HF.out.trans (if_neg (fun h => by rw [hop] at h; omega)))
          clear hop
          have hc := HP.out.f0
          unfold slN at hc
          rw [hA.out] at hc
          go_wp2
          go_ret3
          rw [HF2.out]
          exact ⟨rfl, ⟨R, HS.out, HP.out⟩, HC.out⟩
        have hA2 := hA.out
        rw [if_neg (by omega)] at hA2
        subst hA2
        have hc := HP.out.f0
        rw [slN_pos (by omega)] at hc
        have y0 := (HP.out.st (by omega)).cu i hlt
        have hSi := (HS.out i hlt).1
        by_cases h0 : (S1 i).1 = 0
        case neg =>
          have e1 : ((R i).1 != 0) = true := by rw [bne_iff_ne, hSi]; exact h0
          have HNO2 : Aside0 (∀ j, j < i + 1 → (S1 j).1 ≠ 0) := ⟨fun j hj => by
            by_cases e : j = i
            · rw [e]; exact h0
            · exact HNO.out j (by omega)⟩
          clear h0 hSi
          go_wp2
          go_roundw
          case rel => exact ⟨i + 1, by omega, by first | rfl | go_num, HNO2, HP, HC⟩
          case measure => simp [intOf]; omega
        rw [hSi, h0] at y0
        have hop := openF_eq hlt h0 HNO.out
        have HF2 := HF.out
        rw [hop, ← bestF_sim HS.out] at HF2
        have HF3 := Aside0.mk HF2
        clear HF2 HF hop hSi HNO
        have hc3 := HP.out.f3
        go_wp2
        obtain ⟨wo, hwo⟩ : ∃ wo, wo = wr := ⟨_, rfl⟩
        subst hwo
        go_loopw [9, 10] (fun v9 v wr => ∃ k : Nat, k ≤ m ∧ v = .int .i64 (k : Int) ∧ v9 = .int .i64 (bestF R D1 T win n i k) ∧ Aside0 (RPl wr r L n m c0 c1 c2 c4 win tm R D1 T) ∧ Aside0 (ChL w wr L (n + 5))) (fun _ v _ => m - (intOf v).toNat)
        case atStart => exact ⟨0, Nat.zero_le _, rfl, rfl, HP, HC⟩
        case round =>
          clear HP HC hc hc3 y0
          obtain ⟨k, hk, rfl, rfl, HP, HC⟩ := hrel
          have HR := Aside0.mk (bestF_rng R D1 T win n i k)
          by_cases hklt : k < m
          · have hc3 := HP.out.f3
            have hc5 := HP.out.f5
            have y0 := HP.out.ba.cu k hklt
            have HSX := Aside0.mk (show bestF R D1 T win n i (k + 1) = if mayF R D1 win n k ∧ (bestF R D1 T win n i k < 0 ∨ cmp3 (ownF R D1 T n i k) (ownF R D1 T n i (bestF R D1 T win n i k).toNat) < 0) then (k : Int) else bestF R D1 T win n i k from rfl)
            generalize bestF R D1 T win n i k = b at HR HSX ⊢
            have hll := loadF_le R (k : Int) n
            generalize hL : loadF R (k : Int) n = lo at hll
            replace hL := Aside0.mk hL
            have e0 : decide ((k : Int) < (m : Int)) = true := decide_eq_true (by omega)
            go_upto_region 15 with (fail)
            by_cases h1 : D1 k < 3
            case neg =>
              have e1 : decide (D1 k < 3) = false := decide_eq_false h1
              replace HSX := Aside0.mk (HSX.out.trans (if_neg (fun h => h1 h.1.1)))
              clear h1
              go_quiet (fail)
              have HP2 := Aside0.mk (HP.out.drewN nq)
              have HC2 := Aside0.mk (HC.out.trans (ChL.drewN nq))
              go_wp2
              go_roundw
              case rel => exact ⟨k + 1, by omega, by first | rfl | go_num, by rw [HSX.out], HP2, HC2⟩
              case measure => simp [intOf]; omega
            have e1 : decide (D1 k < 3) = true := decide_eq_true h1
            by_cases h2 : (lo : Int) < win
            case neg =>
              have e2 : decide ((lo : Int) < win) = false := decide_eq_false h2
              replace HSX := Aside0.mk (HSX.out.trans (if_neg (fun h => h2 (by have := h.1.2; rw [hL.out] at this; exact this))))
              clear h1 h2
              go_quiet ((go_at_call 35; exact Calls.quiet_of_same (rload_at _ _ (HP.out.drewN _) hL.out)))
              have HP2 := Aside0.mk (HP.out.drewN nq)
              have HC2 := Aside0.mk (HC.out.trans (ChL.drewN nq))
              go_wp2
              go_roundw
              case rel => exact ⟨k + 1, by omega, by first | rfl | go_num, by rw [HSX.out], HP2, HC2⟩
              case measure => simp [intOf]; omega
            have e2 : decide ((lo : Int) < win) = true := decide_eq_true h2
            have HMAY : Aside0 (mayF R D1 win n k) := ⟨h1, by rw [hL.out]; exact h2⟩
            clear h1 h2
            by_cases h3 : b < 0
            · have e3 : decide (b < 0) = true := decide_eq_true h3
              replace HSX := Aside0.mk (HSX.out.trans (if_pos ⟨HMAY.out, Or.inl h3⟩))
              clear h3
              go_quiet ((go_at_call 35; exact Calls.quiet_of_same (rload_at _ _ (HP.out.drewN _) hL.out)))
              have HP2 := Aside0.mk (HP.out.drewN nq)
              have HC2 := Aside0.mk (HC.out.trans (ChL.drewN nq))
              go_wp2
              go_roundw
              case rel => exact ⟨k + 1, by omega, by first | rfl | go_num, by rw [HSX.out], HP2, HC2⟩
              case measure => simp [intOf]; omega
            have e3 : decide (b < 0) = false := decide_eq_false h3
            obtain ⟨bq, rfl⟩ := Int.eq_ofNat_of_zero_le (show 0 ≤ b by omega)
            have hbq : bq < k := by have := HR.out; omega
            rw [Int.toNat_natCast] at HSX
            have HBT := Aside0.mk (show betB R D1 T n i k bq = decide (cmp3 (ownF R D1 T n i k) (ownF R D1 T n i bq) < 0) from rfl)
            rcases hbt : betB R D1 T n i k bq with _ | _
            · replace HSX := Aside0.mk (HSX.out.trans (if_neg (fun h => h.2.elim (fun hh => by omega) (fun hh => by
                have := HBT.out
                rw [hbt] at this
                exact absurd hh (of_decide_eq_false this.symm)))))
              have HBX := Aside0.mk hbt
              clear h3 hbt
              go_quiet (first | (go_at_call 35; exact Calls.quiet_of_same (rload_at _ _ (HP.out.drewN _) hL.out)) | (go_at_call 36; exact Calls.quiet_of (rbetter_at i k bq hlt hklt hbq _ (HP.out.drewN _) HBX.out)))
              have HP2 := Aside0.mk (HP.out.drewN nq)
              have HC2 := Aside0.mk (HC.out.trans (ChL.drewN nq))
              go_wp2
              go_roundw
              case rel => exact ⟨k + 1, by omega, by first | rfl | go_num, by rw [HSX.out], HP2, HC2⟩
              case measure => simp [intOf]; omega
            · replace HSX := Aside0.mk (HSX.out.trans (if_pos ⟨HMAY.out, Or.inr (by
                have := HBT.out
                rw [hbt] at this
                exact of_decide_eq_true this.symm)⟩))
              have HBX := Aside0.mk hbt
              clear h3 hbt
              go_quiet (first | (go_at_call 35; exact Calls.quiet_of_same (rload_at _ _ (HP.out.drewN _) hL.out)) | (go_at_call 36; exact Calls.quiet_of (rbetter_at i k bq hlt hklt hbq _ (HP.out.drewN _) HBX.out)))
              have HP2 := Aside0.mk (HP.out.drewN nq)
              have HC2 := Aside0.mk (HC.out.trans (ChL.drewN nq))
              go_wp2
              go_roundw
              case rel => exact ⟨k + 1, by omega, by first | rfl | go_num, by rw [HSX.out], HP2, HC2⟩
              case measure => simp [intOf]; omega
          · obtain rfl : m = k := by omega
            have hc3 := HP.out.f3
            generalize bestF R D1 T win n i m = b at HR HF3 ⊢
            have e0 : decide ((m : Int) < (m : Int)) = false := decide_eq_false (by omega)
            by_cases hb0 : b < 0
            · have e1 : decide (b < 0) = true := decide_eq_true hb0
              have HF2 := Aside0.mk (HF3.out.trans (if_neg (fun h => by omega)))
              clear hb0
              go_wp2
              go_ret3
              rw [HF2.out]
              exact ⟨rfl, ⟨R, HS.out, HP.out⟩, HC.out⟩
            have e1 : decide (b < 0) = false := decide_eq_false hb0
            obtain ⟨q, rfl⟩ := Int.eq_ofNat_of_zero_le (show 0 ≤ b by omega)
            have hq : q < m := by have := HR.out; omega
            have HF2 := Aside0.mk (HF3.out.trans (if_pos ⟨hlt, by omega⟩))
            rw [Int.toNat_natCast] at HF2
            clear hb0 HF3 HR
            go_upto_region 19 with (fail)
            clear hc3
            have htb := HTB.out i q
            have hwr : Go.RowKit.wrap64 (T i q + 1) = T i q + 1 := by
              unfold Go.RowKit.wrap64
              omega
            have hc := HP.out.f0
            rw [slN_pos (by omega)] at hc
            have y0 := (HP.out.st (by omega)).cu i hlt
            have z0 := (HP.out.st (by omega)).fz i
            have HPa := Aside0.mk (HP.out.setS i hlt 1)
            have hc1 := HPa.out.f1
            rw [slN_pos (by omega)] at hc1
            have y1 := (HPa.out.pe (by omega)).cu i hlt
            have z1 := (HPa.out.pe (by omega)).fz i
            have HPb := Aside0.mk (HPa.out.setP i hlt (q : Int))
            have hc2 := HPb.out.f2
            rw [slN_pos (by omega)] at hc2
            have y2 := (HPb.out.si (by omega)).cu i hlt
            have z2 := (HPb.out.si (by omega)).fz i
            have HPc := Aside0.mk (HPb.out.setI i hlt now)
            have hc4 := HPc.out.f4
            rw [slN_pos (by omega)] at hc4
            have y4 := HPc.out.tc i hlt
            have y5 := (HPc.out.tr i hlt).cu q hq
            have z5 := (HPc.out.tr i hlt).fz q
            have HPd := Aside0.mk (HPc.out.setT i q hlt hq (T i q + 1))
            have HCd : Aside0 (ChL w _ L (n + 5)) := ⟨((((HC.out.trans (ChL.set (a := 0) (by omega) i (.int .i64 1))).trans (ChL.set (a := 1) (by omega) i (.int .i64 (q : Int)))).trans (ChL.set (a := 2) (by omega) i (.int .i64 now))).trans (ChL.set (a := 5 + i) (by omega) q (.int .i64 (T i q + 1))))⟩
            have HSd := Aside0.mk (HS.out.upd_both i (1, (q : Int), now) (1, (q : Int), now) rfl (fun _ => rfl))
            have HU := Aside0.mk (show upd (upd (upd R i (1, (R i).2.1, (R i).2.2)) i ((upd R i (1, (R i).2.1, (R i).2.2) i).1, (q : Int), (upd R i (1, (R i).2.1, (R i).2.2) i).2.2)) i ((upd (upd R i (1, (R i).2.1, (R i).2.2)) i ((upd R i (1, (R i).2.1, (R i).2.2) i).1, (q : Int), (upd R i (1, (R i).2.1, (R i).2.2) i).2.2) i).1, (upd (upd R i (1, (R i).2.1, (R i).2.2)) i ((upd R i (1, (R i).2.1, (R i).2.2) i).1, (q : Int), (upd R i (1, (R i).2.1, (R i).2.2) i).2.2) i).2.1, now) = upd R i (1, (q : Int), now) by
              funext j
              unfold upd
              by_cases e : j = i
              · simp [e]
              · simp [e])
            rw [HU.out] at HPd
            clear htb
            go_wp2
            go_ret3
            rw [HF2.out]
            exact ⟨rfl, ⟨_, HSd.out, HPd.out⟩, HCd.out⟩
end Go.Proofs.Ytaheoifjihkipaa.As
