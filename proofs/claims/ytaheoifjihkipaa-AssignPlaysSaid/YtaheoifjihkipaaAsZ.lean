/- What calls of Go functions of this seat come to, as the rows need it: under the conditions that each theorem names. -/
import Derived.Test.YtaheoifjihkipaaAsY
import Derived.Test.YtaheoifjihkipaaAsRE
import Derived.Test.YtaheoifjihkipaaAsRH
import Derived.Deep.QuietTactic
import Derived.BigQuiet
namespace Go.Proofs.Ytaheoifjihkipaa.As
open Go.RowKit Go.Proofs.YtaheoifjihkipaaW.PrintWords Go.Proofs.YtaheoifjihkipaaW.PrintLast Go.Proofs.YtaheoifjihkipaaW.PrintMore
set_option linter.unusedVariables false
set_option linter.unusedSimpArgs false
set_option maxHeartbeats 3200000 in
theorem rmay_calls (a b c d : Int) (w : World) : Calls Try.prog 19 #[.int .i64 a, .int .i64 b, .int .i64 c, .int .i64 d] w fun e w' => e = .returned (.bool (mayB a b c d)) ∧ w' = w := by
  have hd : mayB a b c d = (decide (0 ≤ a) && decide (a ≤ 100) && decide (0 ≤ b) && decide (b ≤ 64) && decide (1 ≤ c) && decide (c ≤ 100) && decide (1 ≤ d) && decide (d ≤ 1000000)) := by
    unfold mayB inB
    simp only [Bool.decide_and, Bool.and_assoc]
  rw [hd]
  clear hd
  have g1 : decide (a ≥ 0) = decide (0 ≤ a) := rfl
  have g3 : decide (b ≥ 0) = decide (0 ≤ b) := rfl
  have g5 : decide (c ≥ 1) = decide (1 ≤ c) := rfl
  have g7 : decide (d ≥ 1) = decide (1 ≤ d) := rfl
  obtain ⟨x1, h1⟩ : ∃ x, decide (0 ≤ a) = x := ⟨_, rfl⟩
  obtain ⟨x2, h2⟩ : ∃ x, decide (a ≤ 100) = x := ⟨_, rfl⟩
  obtain ⟨x3, h3⟩ : ∃ x, decide (0 ≤ b) = x := ⟨_, rfl⟩
  obtain ⟨x4, h4⟩ : ∃ x, decide (b ≤ 64) = x := ⟨_, rfl⟩
  obtain ⟨x5, h5⟩ : ∃ x, decide (1 ≤ c) = x := ⟨_, rfl⟩
  obtain ⟨x6, h6⟩ : ∃ x, decide (c ≤ 100) = x := ⟨_, rfl⟩
  obtain ⟨x7, h7⟩ : ∃ x, decide (1 ≤ d) = x := ⟨_, rfl⟩
  obtain ⟨x8, h8⟩ : ∃ x, decide (d ≤ 1000000) = x := ⟨_, rfl⟩
  rw [h1] at g1
  rw [h3] at g3
  rw [h5] at g5
  rw [h7] at g7
  rw [h1, h2, h3, h4, h5, h6, h7, h8]
  rcases x1 with _ | _
  · simp only [Bool.false_and]
    go_enter Try.func19, Try.ntmps19
    go_wp2
    go_ret
    exact ⟨rfl, rfl⟩
  rcases x2 with _ | _
  · simp only [Bool.false_and, Bool.and_false]
    go_enter Try.func19, Try.ntmps19
    go_wp2
    go_ret
    exact ⟨rfl, rfl⟩
  rcases x3 with _ | _
  · simp only [Bool.false_and, Bool.and_false]
    go_enter Try.func19, Try.ntmps19
    go_wp2
    go_ret
    exact ⟨rfl, rfl⟩
  rcases x4 with _ | _
  · simp only [Bool.false_and, Bool.and_false]
    go_enter Try.func19, Try.ntmps19
    go_wp2
    go_ret
    exact ⟨rfl, rfl⟩
  rcases x5 with _ | _
  · simp only [Bool.false_and, Bool.and_false]
    go_enter Try.func19, Try.ntmps19
    go_wp2
    go_ret
    exact ⟨rfl, rfl⟩
  rcases x6 with _ | _
  · simp only [Bool.false_and, Bool.and_false]
    go_enter Try.func19, Try.ntmps19
    go_wp2
    go_ret
    exact ⟨rfl, rfl⟩
  rcases x7 with _ | _
  · simp only [Bool.false_and, Bool.and_false]
    go_enter Try.func19, Try.ntmps19
    go_wp2
    go_ret
    exact ⟨rfl, rfl⟩
  rcases x8 with _ | _
  · simp only [Bool.false_and, Bool.and_false]
    go_enter Try.func19, Try.ntmps19
    go_wp2
    go_ret
    exact ⟨rfl, rfl⟩
  simp only [Bool.and_true]
  go_enter Try.func19, Try.ntmps19
  go_wp2
  go_ret
  exact ⟨rfl, rfl⟩
theorem state_at' {p gc gd gm cc cd n m : Nat} {win tm : Int} {S : Nat → U} {D : Nat → Int} {x : Int} (i : Int) (w : World) (h : Pl w p gc gd gm cc cd n m win tm S D) (hx : stOf S n i = x) :
    Calls Try.prog 16 #[.pointer (some ⟨p, 0, none⟩), .int .i64 i] w fun e w' => e = .returned (.int .i64 x) ∧ w' = w := by
  subst hx
  exact state_calls i w h
theorem asked_at {p gc gd gm cc cd n m : Nat} {win tm : Int} {S : Nat → U} {D : Nat → Int} {x y : Int} {z : Bool} (T : Nat → Nat → Int) (i : Int) (w : World) (h : Pl w p gc gd gm cc cd n m win tm S D) (hx : askR n (S, D, T) i = (x, y, z)) :
    Calls Try.prog 18 #[.pointer (some ⟨p, 0, none⟩), .int .i64 i] w fun e w' => e = .returned (.tuple #[.int .i64 x, .int .i64 y, .bool z]) ∧ Below w.heap.size w w' := by
  have q := asked_calls T i w h
  rw [hx] at q
  exact q
theorem stuckB_sim {n m : Nat} {S R : Nat → U} {D : Nat → Int} {T : Nat → Nat → Int} (h : Sim n S R) : stuckB n m (R, D, T) = stuckB n m (S, D, T) := by
  unfold stuckB
  rw [show leftF (R, D, T).1 n = leftF (S, D, T).1 n from leftF_sim n h]
set_option maxHeartbeats 6400000 in
set_option maxRecDepth 100000 in
theorem looked_calls {p gc gd gm cc cd r : Nat} {L : Nat → Nat} {n m c0 c1 c2 c4 : Nat} {win tm : Int} {S R : Nat → U} {D : Nat → Int} {T : Nat → Nat → Int} (w : World) (h : Pl w p gc gd gm cc cd n m win tm S D) (hr : RPl w r L n m c0 c1 c2 c4 win tm R D T) (hs : Sim n S R) :
    Calls Try.prog 25 #[.pointer (some ⟨p, 0, none⟩), .pointer (some ⟨r, 0, none⟩)] w fun e w' => e = .returned (.bool true) ∧ Below w.heap.size w w' := by
  have HP := Aside0.mk h
  have HR := Aside0.mk hr
  have HS := Aside0.mk hs
  have hn := h.n1
  have hm := h.m1
  clear h hr hs
  have hc0 := Aside0.mk (fun w' (hb : Below w.heap.size w w') => (HR.out.below hb).f0)
  unfold slN at hc0
  generalize hA : (if n = 0 then none else some (⟨L 0, 0, none⟩ : Addr)) = A at hc0
  replace hA := Aside0.mk hA
  go_enter Try.func25, Try.ntmps25
  go_wp2
  go_loopw [5] (fun v wr => ∃ x : Int, -1 ≤ x ∧ x ≤ n + 1 ∧ v = .int .i64 x ∧ Aside0 (Below w.heap.size w wr)) (fun v _ => ((n : Int) + 1 - intOf v).toNat)
  case atStart => exact ⟨-1, by omega, by omega, rfl, ⟨Below.refl _ _⟩⟩
  case round =>
    obtain ⟨x, hx1, hx2, rfl, HB⟩ := hrel
    by_cases hlt : x ≤ n
    · have e0 : decide (x ≤ (n : Int)) = true := decide_eq_true hlt
      have hwx : Go.RowKit.wrap64 (x + 1) = x + 1 := by unfold Go.RowKit.wrap64; omega
      have hcx := hc0.out _ HB.out
      by_cases hin : 0 ≤ x ∧ x < n
      · obtain ⟨q, rfl⟩ := Int.eq_ofNat_of_zero_le hin.1
        have hq : q < n := by omega
        have HBQ := HB
        have e1 : decide ((q : Int) ≥ 0) = true := decide_eq_true (by omega)
        have e2 : decide ((q : Int) < (n : Int)) = true := decide_eq_true (by omega)
        have e3 : decide (q < n) = true := decide_eq_true hq
        obtain ⟨hs1, hs2⟩ := HS.out q hq
        have HST : Aside0 (stOf S n (q : Int) = (S q).1) := ⟨stOf_in hq⟩
        by_cases ha : (S q).1 = 1
        · have hrs := hs2 ha
          rw [ha] at HST
          have HAS : Aside0 (askR n (S, D, T) (q : Int) = ((S q).2.1, (S q).2.2, true)) := ⟨by unfold askR; rw [if_pos HST.out, Int.toNat_natCast]⟩
          have HC := Aside0.mk (fun w' (hb : Below w.heap.size w w') => (And.intro (((HR.out.below hb).st (by omega)).cu q hq) (And.intro (((HR.out.below hb).pe (by omega)).cu q hq) (((HR.out.below hb).si (by omega)).cu q hq))))
          rw [hrs, ha] at HC
          clear hs1 hs2 hrs
          generalize (S q).2.1 = y1 at HAS HC
          generalize (S q).2.2 = y2 at HAS HC
          clear ha hlt hin hx1 hx2
          go_wp2_with fail
          refine (asked_at T (q : Int) _ (HP.out.below HB.out) HAS.out).mono ?_
          rintro e w1 ⟨rfl, hb⟩
          have HB1 := Aside0.mk (below_step HB.out hb)
          clear hb HB hcx
          obtain ⟨k0, k1, k2⟩ := HC.out _ HB1.out
          have f0 := (HR.out.below HB1.out).f0
          have f1 := (HR.out.below HB1.out).f1
          have f2 := (HR.out.below HB1.out).f2
          rw [slN_pos (by omega)] at f0 f1 f2
          go_upto_region 9 with (fail)
          have HPJ := Aside0.mk (HP.out.below HB1.out)
          go_quiet ((go_at_call 16; exact Calls.quiet_of_same (state_at' _ _ (HPJ.out.below (pw_below_drewN (Below.refl _ _) _)) HST.out)))
          have HBN := Aside0.mk (pw_below_drewN HB1.out nq)
          go_wp2
          go_roundw
          case rel => exact ⟨(q : Int) + 1, by omega, by omega, by first | rfl | go_num, HBN⟩
          case measure => simp [intOf]; omega
        · have HAS : Aside0 (askR n (S, D, T) (q : Int) = (0, 0, false)) := ⟨by unfold askR; rw [if_neg (by rw [HST.out]; exact ha)]⟩
          have HC := Aside0.mk (fun w' (hb : Below w.heap.size w w') => ((HR.out.below hb).st (by omega)).cu q hq)
          rw [hs1] at HC
          have ha1 : ((S q).1 == 1) = false := by rw [beq_eq_false_iff_ne]; exact ha
          clear hs1 hs2 ha
          generalize (S q).1 = y0 at HST HC ha1
          clear hlt hin hx1 hx2
          go_wp2_with fail
          refine (asked_at T (q : Int) _ (HP.out.below HB.out) HAS.out).mono ?_
          rintro e w1 ⟨rfl, hb⟩
          have HB1 := Aside0.mk (below_step HB.out hb)
          clear hb HB hcx
          have k0 := HC.out _ HB1.out
          have f0 := (HR.out.below HB1.out).f0
          rw [slN_pos (by omega)] at f0
          go_upto_region 9 with (fail)
          have HPJ := Aside0.mk (HP.out.below HB1.out)
          go_quiet ((go_at_call 16; exact Calls.quiet_of_same (state_at' _ _ (HPJ.out.below (pw_below_drewN (Below.refl _ _) _)) HST.out)))
          have HBN := Aside0.mk (pw_below_drewN HB1.out nq)
          go_wp2
          go_roundw
          case rel => exact ⟨(q : Int) + 1, by omega, by omega, by first | rfl | go_num, HBN⟩
          case measure => simp [intOf]; omega
      · have HST : Aside0 (stOf S n x = 0) := ⟨by unfold stOf; rw [if_neg hin]⟩
        have HAS : Aside0 (askR n (S, D, T) x = (0, 0, false)) := ⟨by unfold askR; rw [if_neg (by rw [HST.out]; decide)]⟩
        by_cases h0 : 0 ≤ x
        · have e1 : decide (x ≥ 0) = true := decide_eq_true h0
          have e1' : decide (0 ≤ x) = true := decide_eq_true h0
          have e2 : decide (x < (n : Int)) = false := decide_eq_false (by omega)
          clear h0 hin
          go_wp2_with fail
          refine (asked_at T x _ (HP.out.below HB.out) HAS.out).mono ?_
          rintro e w1 ⟨rfl, hb⟩
          have HB1 := Aside0.mk (below_step HB.out hb)
          clear hb HB hcx
          go_wp2_with fail
          refine (state_at' x _ (HP.out.below HB1.out) HST.out).mono ?_
          rintro e w2 ⟨rfl, hw⟩
          replace hw := hw.symm
          subst hw
          go_wp2
          go_roundw
          case rel => exact ⟨x + 1, by omega, by omega, by first | rfl | go_num, HB1⟩
          case measure => simp [intOf]; omega
        · have e1 : decide (x ≥ 0) = false := decide_eq_false h0
          have e1' : decide (0 ≤ x) = false := decide_eq_false h0
          clear h0 hin
          go_wp2_with fail
          refine (asked_at T x _ (HP.out.below HB.out) HAS.out).mono ?_
          rintro e w1 ⟨rfl, hb⟩
          have HB1 := Aside0.mk (below_step HB.out hb)
          clear hb HB hcx
          go_wp2_with fail
          refine (state_at' x _ (HP.out.below HB1.out) HST.out).mono ?_
          rintro e w2 ⟨rfl, hw⟩
          replace hw := hw.symm
          subst hw
          go_wp2
          go_roundw
          case rel => exact ⟨x + 1, by omega, by omega, by first | rfl | go_num, HB1⟩
          case measure => simp [intOf]; omega
    · have e0 : decide (x ≤ (n : Int)) = false := decide_eq_false hlt
      have hcx := hc0.out _ HB.out
      clear hlt
      go_wp2
      obtain ⟨wo, hwo⟩ : ∃ wo, wo = wr := ⟨_, rfl⟩
      subst hwo
      clear hcx e0
      go_loopw [10] (fun v wr => ∃ x : Int, -1 ≤ x ∧ x ≤ m + 1 ∧ v = .int .i64 x ∧ Aside0 (Below w.heap.size w wr)) (fun v _ => ((m : Int) + 1 - intOf v).toNat)
      case atStart => exact ⟨-1, by omega, by omega, rfl, HB⟩
      case round =>
        obtain ⟨z, hz1, hz2, rfl, HB⟩ := hrel
        have f3 := (HR.out.below HB.out).f3
        by_cases hlt : z ≤ m
        · have e0 : decide (z ≤ (m : Int)) = true := decide_eq_true hlt
          have hwx : Go.RowKit.wrap64 (z + 1) = z + 1 := by unfold Go.RowKit.wrap64; omega
          by_cases hin : 0 ≤ z ∧ z < m
          · obtain ⟨q, rfl⟩ := Int.eq_ofNat_of_zero_le hin.1
            have hq : q < m := by omega
            have e1 : decide ((q : Int) ≥ 0) = true := decide_eq_true (by omega)
            have e2 : decide ((q : Int) < (m : Int)) = true := decide_eq_true (by omega)
            have e3 : decide (q < m) = true := decide_eq_true hq
            have HDE : Aside0 (deOf D m (q : Int) = D q) := ⟨by unfold deOf; rw [if_pos hin, Int.toNat_natCast]⟩
            have k0 := ((HR.out.below HB.out).ba).cu q hq
            clear hin hlt hz1 hz2
            generalize D q = y at HDE k0
            go_wp2_with fail
            refine (dem_at (q : Int) _ (HP.out.below HB.out) HDE.out).mono ?_
            rintro e w2 ⟨rfl, hw⟩
            replace hw := hw.symm
            subst hw
            go_wp2
            go_roundw
            case rel => exact ⟨(q : Int) + 1, by omega, by omega, by first | rfl | go_num, HB⟩
            case measure => simp [intOf]; omega
          · have HDE : Aside0 (deOf D m z = 0) := ⟨by unfold deOf; rw [if_neg hin]⟩
            by_cases h0 : 0 ≤ z
            · have e1 : decide (z ≥ 0) = true := decide_eq_true h0
              have e1' : decide (0 ≤ z) = true := decide_eq_true h0
              have e2 : decide (z < (m : Int)) = false := decide_eq_false (by omega)
              clear h0 hin
              go_wp2_with fail
              refine (dem_at z _ (HP.out.below HB.out) HDE.out).mono ?_
              rintro e w2 ⟨rfl, hw⟩
              replace hw := hw.symm
              subst hw
              go_wp2
              go_roundw
              case rel => exact ⟨z + 1, by omega, by omega, by first | rfl | go_num, HB⟩
              case measure => simp [intOf]; omega
            · have e1 : decide (z ≥ 0) = false := decide_eq_false h0
              have e1' : decide (0 ≤ z) = false := decide_eq_false h0
              clear h0 hin
              go_wp2_with fail
              refine (dem_at z _ (HP.out.below HB.out) HDE.out).mono ?_
              rintro e w2 ⟨rfl, hw⟩
              replace hw := hw.symm
              subst hw
              go_wp2
              go_roundw
              case rel => exact ⟨z + 1, by omega, by omega, by first | rfl | go_num, HB⟩
              case measure => simp [intOf]; omega
        · have e0 : decide (z ≤ (m : Int)) = false := decide_eq_false hlt
          clear hlt
          go_wp2_with fail
          refine (left_calls _ (HP.out.below HB.out)).mono ?_
          rintro e w3 ⟨rfl, hb⟩
          have HB3 := Aside0.mk (below_step HB.out hb)
          clear hb HB f3
          go_wp2_with fail
          refine (rleft_calls _ (HR.out.below HB3.out)).mono ?_
          rintro e w4 ⟨rfl, hw⟩
          replace hw := hw.symm
          subst hw
          rw [leftF_sim n HS.out]
          generalize leftF S n = lf
          go_wp2_with fail
          refine (stuckB_calls T _ (HP.out.below HB3.out)).mono ?_
          rintro e w5 ⟨rfl, hb⟩
          have HB5 := Aside0.mk (below_step HB3.out hb)
          clear hb HB3
          go_wp2_with fail
          refine (rstuck_calls _ (HR.out.below HB5.out)).mono ?_
          rintro e w6 ⟨rfl, hw⟩
          replace hw := hw.symm
          subst hw
          rw [stuckB_sim HS.out]
          generalize stuckB n m (S, D, T) = sb
          go_wp2
          go_ret
          exact ⟨rfl, HB5.out⟩
end Go.Proofs.Ytaheoifjihkipaa.As
