/- What calls of Go functions of this seat come to, as the rows need it: under the conditions that each theorem names. -/
import Derived.Test.YtaheoifjihkipaaOpOpen
import Derived.Test.YtaheoifjihkipaaAsLP
namespace Go.Proofs.Ytaheoifjihkipaa.As
open Go.RowKit Go.Proofs.YtaheoifjihkipaaW.PrintWords Go.Proofs.YtaheoifjihkipaaW.PrintLast Go.Proofs.YtaheoifjihkipaaW.PrintMore
set_option linter.unusedVariables false
set_option linter.unusedSimpArgs false
set_option maxHeartbeats 6400000 in
set_option maxRecDepth 100000 in
theorem late_out (a b c : Int) (w : World) (h : ¬ ((1 ≤ a ∧ a ≤ 64) ∧ (1 ≤ b ∧ b ≤ 1000) ∧ 0 ≤ c ∧ c ≤ 1000)) :
    Calls Try.prog 5 #[.int .i64 a, .int .i64 b, .int .i64 c] w fun e w' => e = .returned (.bool true) ∧ Below w.heap.size w w' := by
  have hb : ∀ p q : Prop, [Decidable p] → [Decidable q] → (p ↔ ¬ q) → decide p = !decide q := fun p q _ _ h => by by_cases q <;> simp_all
  obtain ⟨x1, h1⟩ : ∃ x, decide (a < 1) = x := ⟨_, rfl⟩
  obtain ⟨x2, h2⟩ : ∃ x, decide (a > 64) = x := ⟨_, rfl⟩
  obtain ⟨x3, h3⟩ : ∃ x, decide (b < 1) = x := ⟨_, rfl⟩
  obtain ⟨x4, h4⟩ : ∃ x, decide (b > 1000) = x := ⟨_, rfl⟩
  obtain ⟨x5, h5⟩ : ∃ x, decide (c < 0) = x := ⟨_, rfl⟩
  obtain ⟨x6, h6⟩ : ∃ x, decide (c > 1000) = x := ⟨_, rfl⟩
  have hor : (x1 || x2 || x3 || x4 || x5 || x6) = true := by
    rw [← h1, ← h2, ← h3, ← h4, ← h5, ← h6]
    simp only [Bool.or_eq_true, decide_eq_true_eq]
    omega
  clear h hb
  rcases x1 with _ | _
  rotate_left
  · clear hor
    go_enter Try.func5, Try.ntmps5
    go_wp2_with fail
    refine (known_calls _).mono ?_
    rintro e w2 ⟨rfl, hb⟩
    have HB2 := Aside0.mk hb
    clear hb
    go_wp2
    go_ret
    exact ⟨rfl, HB2.out⟩
  rcases x2 with _ | _
  rotate_left
  · clear hor
    go_enter Try.func5, Try.ntmps5
    go_wp2_with fail
    refine (known_calls _).mono ?_
    rintro e w2 ⟨rfl, hb⟩
    have HB2 := Aside0.mk hb
    clear hb
    go_wp2
    go_ret
    exact ⟨rfl, HB2.out⟩
  rcases x3 with _ | _
  rotate_left
  · clear hor
    go_enter Try.func5, Try.ntmps5
    go_wp2_with fail
    refine (known_calls _).mono ?_
    rintro e w2 ⟨rfl, hb⟩
    have HB2 := Aside0.mk hb
    clear hb
    go_wp2
    go_ret
    exact ⟨rfl, HB2.out⟩
  rcases x4 with _ | _
  rotate_left
  · clear hor
    go_enter Try.func5, Try.ntmps5
    go_wp2_with fail
    refine (known_calls _).mono ?_
    rintro e w2 ⟨rfl, hb⟩
    have HB2 := Aside0.mk hb
    clear hb
    go_wp2
    go_ret
    exact ⟨rfl, HB2.out⟩
  rcases x5 with _ | _
  rotate_left
  · clear hor
    go_enter Try.func5, Try.ntmps5
    go_wp2_with fail
    refine (known_calls _).mono ?_
    rintro e w2 ⟨rfl, hb⟩
    have HB2 := Aside0.mk hb
    clear hb
    go_wp2
    go_ret
    exact ⟨rfl, HB2.out⟩
  rcases x6 with _ | _
  rotate_left
  · clear hor
    go_enter Try.func5, Try.ntmps5
    go_wp2_with fail
    refine (known_calls _).mono ?_
    rintro e w2 ⟨rfl, hb⟩
    have HB2 := Aside0.mk hb
    clear hb
    go_wp2
    go_ret
    exact ⟨rfl, HB2.out⟩
  exact absurd hor (by decide)
theorem mul_bd {a b x y : Int} (h1 : 0 ≤ a) (h2 : a ≤ x) (h3 : 0 ≤ b) (h4 : b ≤ y) : 0 ≤ a * b ∧ a * b ≤ x * y :=
  ⟨Int.mul_nonneg h1 h3, Int.mul_le_mul h2 h4 h3 (by omega)⟩
theorem new_at (n m : Nat) (win tm : Int) (w : World) (h : mayB n m win tm = true) : Calls Try.prog 9 #[.int .i64 (n : Int), .int .i64 (m : Int), .int .i64 win, .int .i64 tm] w fun e w' => ∃ p gc gd gm, e = .returned (.tuple #[.pointer (some ⟨p, 0, none⟩), .int .i64 0]) ∧
    PW w' p gc gd gm n m win tm 0 ks0 ∧ Below w.heap.size w w' ∧ w.heap.size ≤ p ∧ w.heap.size ≤ gc ∧ w.heap.size ≤ gd ∧ w.heap.size ≤ gm := new_yes n m win tm w h
/-- What was changed was made. -/
theorem Chg.of_new {a b c : Nat} {w w1 w2 : World} (h : Chg a b c w1 w2) (hb : Below w.heap.size w w1) (ha : w.heap.size ≤ a) (hbb : w.heap.size ≤ b) (hc : w.heap.size ≤ c) : Below w.heap.size w w2 :=
  hb.trans (h.below ha hbb hc hb.size)
theorem dem_at {p gc gd gm n m : Nat} {win tm : Int} {S : Nat → U} {D : Nat → Int} {x : Int} (i : Int) (w : World) (h : Pl w p gc gd gm n m win tm S D) (hx : deOf D m i = x) :
    Calls Try.prog 17 #[.pointer (some ⟨p, 0, none⟩), .int .i64 i] w fun e w' => e = .returned (.int .i64 x) ∧ w' = w := by
  subst hx
  exact demerits_calls i w h
set_option maxHeartbeats 6400000 in
set_option maxRecDepth 100000 in
theorem late_in (m : Nat) (tm at_ : Int) (w : World) (hm : 1 ≤ m ∧ m ≤ 64) (ht : 1 ≤ tm ∧ tm ≤ 1000) (ha : 0 ≤ at_ ∧ at_ ≤ 1000) :
    Calls Try.prog 5 #[.int .i64 (m : Int), .int .i64 tm, .int .i64 at_] w fun e w' => e = .returned (.bool true) ∧ Below w.heap.size w w' := by
  have HMAY := Aside0.mk (show mayB (1 : Nat) m 1 tm = true by
    unfold mayB inB
    rw [decide_eq_true (by omega), decide_eq_true (by omega), decide_eq_true (by omega), decide_eq_true (by omega)]
    rfl)
  obtain ⟨hm1, hm2⟩ := hm
  obtain ⟨ht1, ht2⟩ := ht
  obtain ⟨ha1, ha2⟩ := ha
  have f1 : decide ((m : Int) < 1) = false := decide_eq_false (by omega)
  have f2 : decide ((m : Int) > 64) = false := decide_eq_false (by omega)
  have f3 : decide (tm < 1) = false := decide_eq_false (by omega)
  have f4 : decide (tm > 1000) = false := decide_eq_false (by omega)
  have f5 : decide (at_ < 0) = false := decide_eq_false (by omega)
  have f6 : decide (at_ > 1000) = false := decide_eq_false (by omega)
  have g1 : decide (m < 1) = false := decide_eq_false (by omega)
  have g2 : decide (64 < m) = false := decide_eq_false (by omega)
  go_enter Try.func5, Try.ntmps5
  go_wp2_with fail
  refine (new_at 1 m 1 tm w HMAY.out).mono ?_
  rintro e w1 ⟨p, gc, gd, gm, rfl, hpw, hb, l1, l2, l3, l4⟩
  have HP1 := Aside0.mk hpw
  have HB := Aside0.mk hb
  have HL := Aside0.mk (And.intro l2 (And.intro l3 l4))
  clear hpw hb l1 l2 l3 l4
  clear f1 f2 f3 f4 f5 f6 g1 g2
  go_wp2
  go_loopw [56] (fun v wr => ∃ r : Nat, r ≤ 3 * m ∧ v = .int .i64 (r : Int) ∧ ∃ s, Aside0 (PW wr p gc gd gm 1 m 1 tm (2 * r) s) ∧ Aside0 (LInv m tm at_ r s) ∧ Aside0 (Chg gc gd gm w1 wr)) (fun v _ => 3 * m - (intOf v).toNat)
  case atStart => exact ⟨0, by omega, rfl, ks0, HP1, ⟨linv_zero m tm at_⟩, ⟨Chg.of_below (Below.refl _ _)⟩⟩
  case round =>
    obtain ⟨r, hr, rfl, s, HPW, HLI, HC⟩ := hrel
    by_cases hlt : r < 3 * m
    · have e0 : decide ((r : Int) < 3 * (m : Int)) = true := decide_eq_true (by omega)
      have hp := mul_bd (a := r) (b := tm) (x := 192) (y := 1000) (by omega) (by omega) (by omega) (by omega)
      obtain ⟨hp1, hp2⟩ := hp
      simp only [Int.reduceMul] at hp2
      go_wp2_with fail
      have HLN := Aside0.mk (linv_next (by omega) hlt ht1 HLI.out)
      refine (next_at (at_ + r * tm) wr HPW.out (by omega) (by omega) HLN.out.1 rfl).mono ?_
      rintro e w2 ⟨rfl, hp, hc⟩
      have HP2 := Aside0.mk hp
      have HC2 := Aside0.mk (HC.out.trans hc)
      have HL2 := Aside0.mk HLN.out.2
      clear hp hc HLN HPW HC
      generalize (nextF (at_ + r * tm) 1 tm 1 m s).2 = s2 at HP2 HL2
      have hmd := Nat.mod_lt r (show 0 < m by omega)
      have hdv : r / m < 3 := Nat.div_lt_of_lt_mul (by rw [Nat.mul_comm]; exact hlt)
      go_upto_region 12 with (fail)
      go_wp2_with fail
      have HLS := Aside0.mk (linv_stay (by omega) HL2.out)
      refine (next_at (at_ + r * tm + tm - 1) w2 HP2.out (by omega) (by omega) HLS.out.1 rfl).mono ?_
      rintro e w3 ⟨rfl, hp, hc⟩
      have HP3 := Aside0.mk hp
      have HC3 := Aside0.mk (HC2.out.trans hc)
      have HL3 := Aside0.mk HLS.out.2.1
      have HD3 := Aside0.mk HLS.out.2.2
      clear hp hc HLS HP2 HC2 HL2
      generalize (nextF (at_ + r * tm + tm - 1) 1 tm 1 m s2).2 = s3 at HP3 HL3 HD3
      have HDE := Aside0.mk (show deOf s3.2.1 m ((r : Int) % (m : Int)) = (r : Int) / (m : Int) by
        rw [← Int.natCast_emod, ← Int.natCast_ediv]
        unfold deOf
        rw [if_pos ⟨by omega, by omega⟩, Int.toNat_natCast]
        exact HD3.out)
      go_upto_region 13 with (fail)
      have hdq : Go.RowKit.wrap64 ((r : Int) / (m : Int)) = (r : Int) / (m : Int) := by
        rw [← Int.natCast_ediv]
        have hdv' := hdv
        generalize r / m = q at hdv' ⊢
        unfold Go.RowKit.wrap64
        omega
      go_quiet ((go_at_call 17; exact Calls.quiet_of_same (dem_at _ _ (HP3.out.pl.below (pw_below_drewN (Below.refl _ _) _)) HDE.out)))
      go_wp2
      have HP4 := Aside0.mk (HP3.out.below (pw_below_drewN (Below.refl w3.heap.size w3) nq))
      have HC4 := Aside0.mk (HC3.out.trans (Chg.of_below (pw_below_drewN (Below.refl w3.heap.size w3) nq)))
      go_roundw
      case rel => exact ⟨r + 1, by omega, by first | rfl | go_num, s3, HP4, HL3, HC4⟩
      case measure => simp [intOf]; omega
    · obtain rfl : r = 3 * m := by omega
      have e0 : decide (((3 * m : Nat) : Int) < 3 * (m : Int)) = false := decide_eq_false (by omega)
      have hp := mul_bd (a := (3 * m : Nat)) (b := tm) (x := 192) (y := 1000) (by omega) (by omega) (by omega) (by omega)
      obtain ⟨hp1, hp2⟩ := hp
      simp only [Int.reduceMul] at hp2
      have e1 : ((3 * m : Nat) : Int) = 3 * (m : Int) := by omega
      rw [e1] at hp1 hp2
      have HE1 := Aside0.mk e1
      clear e1
      go_wp2_with fail
      have HLE := Aside0.mk (linv_end (by omega) ht1 HLI.out)
      rw [HE1.out] at HLE
      refine (next_at (at_ + 3 * m * tm) wr HPW.out (by omega) (by omega) HLE.out.1 rfl).mono ?_
      rintro e w2 ⟨rfl, hp, hc⟩
      have HP2 := Aside0.mk hp
      have HC2 := Aside0.mk (HC.out.trans hc)
      have HS2 := Aside0.mk HLE.out.2
      clear hp hc HLE HPW HC
      generalize (nextF (at_ + 3 * m * tm) 1 tm 1 m s).2 = s2 at HP2 HS2
      go_wp2_with fail
      refine (stuckB_calls s2.2.2 w2 HP2.out.pl).mono ?_
      rintro e w3 ⟨rfl, hb⟩
      have HP3 := Aside0.mk (HP2.out.below hb)
      have HC3 := Aside0.mk (HC2.out.trans (Chg.of_below hb))
      clear hb HP2 HC2
      rw [show stuckB 1 m (s2.1, s2.2.1, s2.2.2) = true from HS2.out.1]
      go_wp2_with fail
      refine (left_calls w3 HP3.out.pl).mono ?_
      rintro e w4 ⟨rfl, hb⟩
      have HC4 := Aside0.mk (HC3.out.trans (Chg.of_below hb))
      clear hb HP3 HC3
      rw [HS2.out.2]
      go_wp2_with fail
      refine (known_calls w4).mono ?_
      rintro e w5 ⟨rfl, hb⟩
      have HC5 := Aside0.mk (HC4.out.trans (Chg.of_below hb))
      clear hb HC4
      go_wp2
      go_ret
      exact ⟨rfl, HC5.out.of_new HB.out HL.out.1 HL.out.2.1 HL.out.2.2⟩
theorem late_walk (a0 a1 a2 : Int) (w : World) (k0 : (Lit.int .i64 a0).wf = true) (k1 : (Lit.int .i64 a1).wf = true) (k2 : (Lit.int .i64 a2).wf = true) :
    Calls Try.prog 5 #[.int .i64 a0, .int .i64 a1, .int .i64 a2] w fun e w' => e = .returned (.bool true) ∧ Below w.heap.size w w' := by
  by_cases h : (1 ≤ a0 ∧ a0 ≤ 64) ∧ (1 ≤ a1 ∧ a1 ≤ 1000) ∧ 0 ≤ a2 ∧ a2 ≤ 1000
  · obtain ⟨⟨h1, h2⟩, h3, h4⟩ := h
    obtain ⟨m, rfl⟩ := Int.eq_ofNat_of_zero_le (show 0 ≤ a0 by omega)
    exact late_in m a1 a2 w (by omega) h3 h4
  · exact late_out a0 a1 a2 w h
end Go.Proofs.Ytaheoifjihkipaa.As
