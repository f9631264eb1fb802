/- What calls of Go functions of this seat come to, as the rows need it: under the conditions that each theorem names. -/
import Derived.Test.YtaheoifjihkipaaAsAP
import Derived.Deep.LoopGhost
namespace Go.Proofs.Ytaheoifjihkipaa.As
open Go.RowKit Go.Proofs.YtaheoifjihkipaaW.PrintWords Go.Proofs.YtaheoifjihkipaaW.PrintLast Go.Proofs.YtaheoifjihkipaaW.PrintMore
set_option linter.unusedVariables false
set_option linter.unusedSimpArgs false
theorem good_rng (a : Int) (m : Nat) (h1 : 1 ≤ m) (h6 : m ≤ 6) : ∃ g : Nat, g < m ∧ Go.RowKit.wrap64 ((IntKind.u64.wrap a).tmod (m : Int)) = (g : Int) := by
  have hu : 0 ≤ IntKind.u64.wrap a := by
    simp only [IntKind.wrap, IntKind.bits, IntKind.signed]
    simp
    omega
  rw [Int.tmod_eq_emod_of_nonneg hu]
  have a1 := Int.emod_nonneg (IntKind.u64.wrap a) (show (m : Int) ≠ 0 by omega)
  have a2 := Int.emod_lt_of_pos (IntKind.u64.wrap a) (show (0 : Int) < m by omega)
  generalize IntKind.u64.wrap a % (m : Int) = x at a1 a2 ⊢
  obtain ⟨g, rfl⟩ := Int.eq_ofNat_of_zero_le a1
  exact ⟨g, by omega, by unfold Go.RowKit.wrap64; omega⟩
set_option maxHeartbeats 3200000 in
set_option maxRecDepth 100000 in
theorem all_no (a0 a1 a2 a3 a4 a5 : Int) (w : World) (h : mayB a0 a1 a2 a3 = false) :
    Calls Try.prog 3 #[.int .i64 a0, .int .i64 a1, .int .i64 a2, .int .i64 a3, .int .i64 a4, .int .u64 a5] w fun e w' => e = .returned (.bool true) ∧ Below w.heap.size w w' := by
  have H := Aside0.mk (new_no a0 a1 a2 a3 w h)
  have HB := Aside0.mk (Below.refl w.heap.size w)
  clear h
  go_enter Try.func3, Try.ntmps3
  go_wp2_with fail
  refine H.out.mono ?_
  rintro e w1 ⟨rfl, hw⟩
  replace hw := hw.symm
  subst hw
  go_wp2_with fail
  refine (known_calls _).mono ?_
  rintro e w2 ⟨rfl, hb⟩
  have HB2 := Aside0.mk (below_step HB.out hb)
  clear hb
  go_wp2
  go_ret
  exact ⟨rfl, HB2.out⟩
set_option maxHeartbeats 3200000 in
set_option maxRecDepth 100000 in
theorem all_out (n m : Nat) (win tm a4 a5 : Int) (w : World) (h : mayB n m win tm = true) (ho : ¬ (n ≤ 20 ∧ (1 ≤ m ∧ m ≤ 6) ∧ tm ≤ 10)) :
    Calls Try.prog 3 #[.int .i64 n, .int .i64 m, .int .i64 win, .int .i64 tm, .int .i64 a4, .int .u64 a5] w fun e w' => e = .returned (.bool true) ∧ Below w.heap.size w w' := by
  have H := Aside0.mk (new_at n m win tm w h)
  obtain ⟨x1, h1⟩ : ∃ x, decide ((n : Int) > 20) = x := ⟨_, rfl⟩
  obtain ⟨x2, h2⟩ : ∃ x, decide ((m : Int) > 6) = x := ⟨_, rfl⟩
  obtain ⟨x3, h3⟩ : ∃ x, decide ((m : Int) < 1) = x := ⟨_, rfl⟩
  obtain ⟨x4, h4⟩ : ∃ x, decide (tm > 10) = x := ⟨_, rfl⟩
  have g1 : decide (20 < n) = x1 := by rw [← h1]; exact decide_eq_decide.2 (by omega)
  have g2 : decide (6 < m) = x2 := by rw [← h2]; exact decide_eq_decide.2 (by omega)
  have g3 : decide (m < 1) = x3 := by rw [← h3]; exact decide_eq_decide.2 (by omega)
  have hor : (x1 || x2 || x3 || x4) = true := by
    rw [← h1, ← h2, ← h3, ← h4]
    simp only [Bool.or_eq_true, decide_eq_true_eq]
    omega
  clear h ho
  go_enter Try.func3, Try.ntmps3
  go_wp2_with fail
  refine H.out.mono ?_
  rintro e w1 ⟨p, gc, gd, gm, rfl, hpw, hb, l1, l2, l3, l4⟩
  have HB := Aside0.mk hb
  clear hb hpw l1 l2 l3 l4 H
  rcases x1 with _ | _
  rotate_left
  · clear hor
    go_wp2_with fail
    refine (known_calls _).mono ?_
    rintro e w2 ⟨rfl, hb⟩
    have HB2 := Aside0.mk (below_step HB.out hb)
    clear hb
    go_wp2
    go_ret
    exact ⟨rfl, HB2.out⟩
  rcases x2 with _ | _
  rotate_left
  · clear hor
    go_wp2_with fail
    refine (known_calls _).mono ?_
    rintro e w2 ⟨rfl, hb⟩
    have HB2 := Aside0.mk (below_step HB.out hb)
    clear hb
    go_wp2
    go_ret
    exact ⟨rfl, HB2.out⟩
  rcases x3 with _ | _
  rotate_left
  · clear hor
    go_wp2_with fail
    refine (known_calls _).mono ?_
    rintro e w2 ⟨rfl, hb⟩
    have HB2 := Aside0.mk (below_step HB.out hb)
    clear hb
    go_wp2
    go_ret
    exact ⟨rfl, HB2.out⟩
  rcases x4 with _ | _
  rotate_left
  · clear hor
    go_wp2_with fail
    refine (known_calls _).mono ?_
    rintro e w2 ⟨rfl, hb⟩
    have HB2 := Aside0.mk (below_step HB.out hb)
    clear hb
    go_wp2
    go_ret
    exact ⟨rfl, HB2.out⟩
  exact absurd hor (by decide)
set_option maxHeartbeats 6400000 in
set_option maxRecDepth 100000 in
theorem all_in (n m : Nat) (win tm a4 a5 : Int) (w : World) (h : mayB n m win tm = true) (ho : n ≤ 20 ∧ (1 ≤ m ∧ m ≤ 6) ∧ tm ≤ 10) (k5 : 0 ≤ a5 ∧ a5 < 18446744073709551616) :
    Calls Try.prog 3 #[.int .i64 n, .int .i64 m, .int .i64 win, .int .i64 tm, .int .i64 a4, .int .u64 a5] w fun e w' => e = .returned (.bool true) ∧ Below w.heap.size w w' := by
  have H := Aside0.mk (new_at n m win tm w h)
  have hw1 : 1 ≤ win ∧ 1 ≤ tm := by
    have hh := h
    unfold mayB inB at hh
    simp only [Bool.and_eq_true, decide_eq_true_eq] at hh
    omega
  obtain ⟨hn, ⟨hm1, hm6⟩, ht10⟩ := ho
  obtain ⟨hwin, ht1⟩ := hw1
  have h1 : decide ((n : Int) > 20) = false := decide_eq_false (by omega)
  have h2 : decide ((m : Int) > 6) = false := decide_eq_false (by omega)
  have h3 : decide ((m : Int) < 1) = false := decide_eq_false (by omega)
  have h4 : decide (tm > 10) = false := decide_eq_false (by omega)
  have g1 : decide (20 < n) = false := decide_eq_false (by omega)
  have g2 : decide (6 < m) = false := decide_eq_false (by omega)
  have g3 : decide (m < 1) = false := decide_eq_false (by omega)
  have HK5 := Aside0.mk k5
  clear h k5
  go_enter Try.func3, Try.ntmps3
  go_wp2_with fail
  refine H.out.mono ?_
  rintro e w1 ⟨p, gc, gd, gm, rfl, hpw, hb, l1, l2, l3, l4⟩
  have HP1 := Aside0.mk hpw
  have HB1 := Aside0.mk hb
  have HL := Aside0.mk (And.intro l2 (And.intro l3 l4))
  clear hb hpw l1 l2 l3 l4 H
  go_upto_region 4 with (fail)
  clear h1 h2 h3 h4 g1 g2 g3
  go_upto_region 5 with (fail)
  obtain ⟨g, hg, hge⟩ := good_rng a4 m hm1 hm6
  rw [hge]
  clear hge
  have hP := mul_bd (a := 3 * (n : Int) + 1) (b := m) (x := 61) (y := 6) (by omega) (by omega) (by omega) (by omega)
  obtain ⟨hP1, hP2⟩ := hP
  have hQ := mul_bd (a := (3 * (n : Int) + 1) * m) (b := tm) (x := 366) (y := 10) hP1 (by omega) (by omega) (by omega)
  obtain ⟨hQ1, hQ2⟩ := hQ
  simp only [Int.reduceMul] at hP2 hQ2
  have HMT := Aside0.mk (show (m : Int) * tm ≤ (3 * (n : Int) + 1) * m * tm by
    rw [Int.mul_assoc]
    have : (1 : Int) * (m * tm) ≤ (3 * (n : Int) + 1) * (m * tm) := Int.mul_le_mul_of_nonneg_right (by omega) (Int.mul_nonneg (by omega) (by omega))
    omega)
  go_wp2
  go_loopw [16] (fun v wr => ∃ (nw : Int) (s : St) (c : Nat), v = .int .i64 nw ∧ 0 ≤ nw ∧ nw ≤ (3 * (n : Int) + 1) * m * tm + n + 1 ∧ Aside0 (AInv 0 nw tm n m g s) ∧ Aside0 ((c : Int) ≤ 2 * tsum s.2.2 m n + nw) ∧ Aside0 (PW wr p gc gd gm n m win tm c s) ∧ Aside0 (Below w.heap.size w wr)) (fun v _ => ((3 * (n : Int) + 1) * m * tm + n + 1 - intOf v).toNat)
  case atStart => exact ⟨0, ks0, 0, rfl, Int.le_refl _, by omega, ⟨ainv_start tm n m g⟩, ⟨by have := (tsum_rng (T := ks0.2.2) (m := m) n (fun i _ k _ => ⟨Int.le_refl _, by show (0 : Int) ≤ 1; omega⟩)).1; omega⟩, HP1, HB1⟩
  case round =>
    clear HP1 HB1
    obtain ⟨nw, s, c, rfl, hn0, hnb, HAI, HCC, HP, HB⟩ := hrel
    by_cases hlt : nw < (3 * (n : Int) + 1) * m * tm + n + 1
    case neg =>
      have e0 : decide (nw < (3 * (n : Int) + 1) * m * tm + n + 1) = false := decide_eq_false hlt
      have HLF := Aside0.mk (ainv_done ht1 HAI.out (by have := HMT.out; omega))
      go_wp2_with fail
      refine (left_calls _ HP.out.pl).mono ?_
      rintro e w5 ⟨rfl, hb⟩
      have HP5 := Aside0.mk (HP.out.below hb)
      have HB5 := Aside0.mk (below_step HB.out hb)
      clear hb HP HB
      rw [HLF.out]
      go_wp2_with fail
      refine (stuckB_calls s.2.2 w5 HP5.out.pl).mono ?_
      rintro e w6 ⟨rfl, hb⟩
      have HB6 := Aside0.mk (below_step HB5.out hb)
      clear hb HP5 HB5
      rw [show stuckB n m (s.1, s.2.1, s.2.2) = false by unfold stuckB; rw [show leftF (s.1, s.2.1, s.2.2).1 n = 0 from HLF.out]; rfl]
      go_wp2_with fail
      refine (known_calls _).mono ?_
      rintro e w7 ⟨rfl, hb⟩
      have HB7 := Aside0.mk (below_step HB6.out hb)
      clear hb HB6
      go_wp2
      go_ret
      exact ⟨rfl, HB7.out⟩
    have e0 : decide (nw < (3 * (n : Int) + 1) * m * tm + n + 1) = true := decide_eq_true hlt
    go_wp2_with fail
    by_cases hlf : leftF s.1 n = 0
    · have HLF := Aside0.mk hlf
      refine (left_calls _ HP.out.pl).mono ?_
      rintro e w4 ⟨rfl, hb⟩
      replace HP := Aside0.mk (HP.out.below hb)
      replace HB := Aside0.mk (below_step HB.out hb)
      clear hb hlf
      rw [HLF.out]
      go_wp2_with fail
      refine (left_calls _ HP.out.pl).mono ?_
      rintro e w5 ⟨rfl, hb⟩
      have HP5 := Aside0.mk (HP.out.below hb)
      have HB5 := Aside0.mk (below_step HB.out hb)
      clear hb HP HB
      rw [HLF.out]
      go_wp2_with fail
      refine (stuckB_calls s.2.2 w5 HP5.out.pl).mono ?_
      rintro e w6 ⟨rfl, hb⟩
      have HB6 := Aside0.mk (below_step HB5.out hb)
      clear hb HP5 HB5
      rw [show stuckB n m (s.1, s.2.1, s.2.2) = false by unfold stuckB; rw [show leftF (s.1, s.2.1, s.2.2).1 n = 0 from HLF.out]; rfl]
      go_wp2_with fail
      refine (known_calls _).mono ?_
      rintro e w7 ⟨rfl, hb⟩
      have HB7 := Aside0.mk (below_step HB6.out hb)
      clear hb HB6
      go_wp2
      go_ret
      exact ⟨rfl, HB7.out⟩
    refine (left_calls _ HP.out.pl).mono ?_
    rintro e w4 ⟨rfl, hb⟩
    replace HP := Aside0.mk (HP.out.below hb)
    replace HB := Aside0.mk (below_step HB.out hb)
    have hle := leftF_le s.1 n
    have e1 : decide ((leftF s.1 n : Int) > 0) = true := decide_eq_true (by omega)
    have e2 : decide (0 < leftF s.1 n) = true := decide_eq_true (by omega)
    clear hb hlf
    generalize leftF s.1 n = lf at hle e1 e2 ⊢
    go_wp2
    have HTS := Aside0.mk (tsum_rng (T := s.2.2) (m := m) n HAI.out.1)
    have HNM : Aside0 ((n : Int) * m ≤ 120) := ⟨by have := mul_bd (a := n) (b := m) (x := 20) (y := 6) (by omega) (by omega) (by omega) (by omega); omega⟩
    obtain ⟨wo, hwo⟩ : ∃ wo, wo = w4 := ⟨_, rfl⟩
    subst hwo
    go_loopg [17] ((n : Int) * m - tsum s.2.2 m n).toNat (fun q v17 wr => ∃ (s' : St) (c' : Nat), Aside0 ((q : Int) = (n : Int) * m - tsum s'.2.2 m n) ∧ Aside0 (AInv 0 nw tm n m g s') ∧ Aside0 ((c' : Int) ≤ 2 * tsum s'.2.2 m n + nw) ∧ Aside0 (PW wr p gc gd gm n m win tm c' s') ∧ Aside0 (Below w.heap.size w wr))
    case atStart => exact ⟨s, c, ⟨by have := HTS.out; omega⟩, HAI, HCC, HP, HB⟩
    case round =>
      clear HAI HCC HP HB HTS
      obtain ⟨s', c', HQ, HAI, HCC, HP, HB⟩ := hrel
      have HTS := Aside0.mk (tsum_rng (T := s'.2.2) (m := m) n HAI.out.1)
      have hc4 : c' ≤ 4000 := by
        have := HTS.out
        have := HCC.out
        have := HNM.out
        omega
      go_wp2_with fail
      rcases hok : (nextF nw win tm n m s').1.2.2 with _ | _
      · have HN := Aside0.mk (ainv_none hg hwin HAI.out hok)
        have HNN := Aside0.mk (next_none hok)
        clear hok
        refine (next_at nw _ HP.out (by omega) (by omega) HNN.out rfl).mono ?_
        rintro e w5 ⟨rfl, hp, hc⟩
        have HP5 := Aside0.mk hp
        have HB5 := Aside0.mk (hc.of_new HB.out HL.out.1 HL.out.2.1 HL.out.2.2)
        clear hp hc HP HB HNN
        generalize (nextF nw win tm n m s').2 = s2 at HP5 HN
        go_wp2
        go_roundw
        case rel => exact ⟨nw + 1, s2, c' + 1, by first | rfl | go_num, by omega, by omega, ⟨HN.out.1⟩, ⟨by have := HCC.out; have := HN.out.2; omega⟩, HP5, HB5⟩
        case measure => simp [intOf]; omega
      obtain ⟨i, k, hi, hk, hr, hts, hA, hB, hC⟩ := ainv_some hg hwin ht1 HAI.out hok
      have HNN := Aside0.mk hr
      have HTS2 := Aside0.mk hts
      have HAA := Aside0.mk hA
      have HAB := Aside0.mk hB
      have HAC := Aside0.mk hC
      clear hok hr hts hA hB hC
      refine (next_at nw _ HP.out (by omega) (by omega) HNN.out rfl).mono ?_
      rintro e w5 ⟨rfl, hp, hc⟩
      have HP5 := Aside0.mk hp
      have HB5 := Aside0.mk (hc.of_new HB.out HL.out.1 HL.out.2.1 HL.out.2.2)
      clear hp hc HP HB HNN HAI
      generalize (nextF nw win tm n m s').2 = s2 at HP5 HTS2 HAA HAB HAC
      by_cases hkg : k = g
      · subst hkg
        have HA2 := Aside0.mk (HAA.out rfl)
        have eg : ((k : Int) == (k : Int)) = true := by simp
        clear HAA HAB HAC
        go_wp2_with fail
        refine (had_at (i : Int) w5 HP5.out HA2.out.1 rfl).mono ?_
        rintro e w6 ⟨rfl, hp, hc⟩
        have HP6 := Aside0.mk hp
        have HB6 := Aside0.mk (hc.of_new HB5.out HL.out.1 HL.out.2.1 HL.out.2.2)
        have HT6 := Aside0.mk (show tsum (hadS n s2 (i : Int)).2.2 m n = tsum s'.2.2 m n + 1 by rw [HA2.out.2.2]; exact HTS2.out)
        have HA6 := Aside0.mk HA2.out.2.1
        clear hp hc HP5 HB5 HA2 HTS2
        generalize hadS n s2 (i : Int) = s3 at HP6 HT6 HA6
        go_wp2
        go_roundg (gk - 1)
        case measure => have := HQ.out; have := HTS.out; have := HT6.out; have := (tsum_rng (T := s3.2.2) (m := m) n HA6.out.1).2; omega
        case rel => exact ⟨s3, c' + 1 + 1, ⟨by have := HQ.out; have := HT6.out; have := (tsum_rng (T := s3.2.2) (m := m) n HA6.out.1).2; omega⟩, HA6, ⟨by have := HCC.out; have := HT6.out; omega⟩, HP6, HB6⟩
      have eg : ((k : Int) == (g : Int)) = false := by rw [beq_eq_false_iff_ne]; omega
      have eg2 : (k == g) = false := by rw [beq_eq_false_iff_ne]; exact hkg
      have HB2 := Aside0.mk (HAB.out hkg)
      have HC2 := Aside0.mk (HAC.out hkg)
      clear HAA HAB HAC hkg
      go_wp2_with fail
      · refine (bad_at (i : Int) (k : Int) w5 HP5.out (by omega) HC2.out.1 rfl).mono ?_
        rintro e w6 ⟨rfl, hp, hc⟩
        have HP6 := Aside0.mk hp
        have HB6 := Aside0.mk (hc.of_new HB5.out HL.out.1 HL.out.2.1 HL.out.2.2)
        have HT6 := Aside0.mk (show tsum (badS n m s2 (i : Int) (k : Int)).2.2 m n = tsum s'.2.2 m n + 1 by rw [HC2.out.2.2]; exact HTS2.out)
        have HA6 := Aside0.mk HC2.out.2.1
        clear hp hc HP5 HB5 HC2 HTS2 HB2
        generalize badS n m s2 (i : Int) (k : Int) = s3 at HP6 HT6 HA6
        go_wp2
        go_roundg (gk - 1)
        case measure => have := HQ.out; have := HTS.out; have := HT6.out; have := (tsum_rng (T := s3.2.2) (m := m) n HA6.out.1).2; omega
        case rel => exact ⟨s3, c' + 1 + 1, ⟨by have := HQ.out; have := HT6.out; have := (tsum_rng (T := s3.2.2) (m := m) n HA6.out.1).2; omega⟩, HA6, ⟨by have := HCC.out; have := HT6.out; omega⟩, HP6, HB6⟩
      · go_roundg (gk - 1)
        case measure => have := HQ.out; have := HTS.out; have := HTS2.out; have := (tsum_rng (T := s2.2.2) (m := m) n HB2.out.1).2; omega
        case rel => exact ⟨s2, c' + 1, ⟨by have := HQ.out; have := HTS2.out; have := (tsum_rng (T := s2.2.2) (m := m) n HB2.out.1).2; omega⟩, HB2, ⟨by have := HCC.out; have := HTS2.out; omega⟩, HP5, HB5⟩
theorem all_walk (a0 a1 a2 a3 a4 a5 : Int) (w : World) (k0 : (Lit.int .i64 a0).wf = true) (k1 : (Lit.int .i64 a1).wf = true) (k2 : (Lit.int .i64 a2).wf = true) (k3 : (Lit.int .i64 a3).wf = true) (k4 : (Lit.int .i64 a4).wf = true) (k5 : (Lit.int .u64 a5).wf = true) :
    Calls Try.prog 3 #[.int .i64 a0, .int .i64 a1, .int .i64 a2, .int .i64 a3, .int .i64 a4, .int .u64 a5] w fun e w' => e = .returned (.bool true) ∧ Below w.heap.size w w' := by
  rcases hm : mayB a0 a1 a2 a3 with _ | _
  · exact all_no a0 a1 a2 a3 a4 a5 w hm
  · have hh := hm
    unfold mayB inB at hh
    simp only [Bool.and_eq_true, decide_eq_true_eq] at hh
    obtain ⟨n, rfl⟩ := Int.eq_ofNat_of_zero_le (show 0 ≤ a0 by omega)
    obtain ⟨m, rfl⟩ := Int.eq_ofNat_of_zero_le (show 0 ≤ a1 by omega)
    by_cases ho : n ≤ 20 ∧ (1 ≤ m ∧ m ≤ 6) ∧ a3 ≤ 10
    · exact all_in n m a2 a3 a4 a5 w hm ho (by have := bounds_u64 k5; omega)
    · exact all_out n m a2 a3 a4 a5 w hm ho
end Go.Proofs.Ytaheoifjihkipaa.As
