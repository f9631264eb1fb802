/- What calls of Go functions of this seat come to, as the rows need it: under the conditions that each theorem names. -/
import Derived.Test.YtaheoifjihkipaaAsC
namespace Go.Proofs.Ytaheoifjihkipaa.As
open Go.RowKit Go.Proofs.YtaheoifjihkipaaW.PrintWords Go.Proofs.YtaheoifjihkipaaW.PrintLast Go.Proofs.YtaheoifjihkipaaW.PrintMore
set_option linter.unusedVariables false
set_option linter.unusedSimpArgs false
theorem had_none {p gc gd gm cc cd n m : Nat} {win tm : Int} {S : Nat → U} {D : Nat → Int} (i : Int) (w : World) (h : Pl w p gc gd gm cc cd n m win tm S D) (hi : ¬ (0 ≤ i ∧ i < n)) :
    Calls Try.prog 13 #[.pointer (some ⟨p, 0, none⟩), .int .i64 i] w fun e w' => e = .returned (.int .i64 6) ∧ w' = w := by
  have HP := Aside0.mk h
  have HH := Aside0.mk (decide_eq_false (p := 0 ≤ i ∧ i < (n : Int)) hi)
  clear h hi
  go_enter Try.func13, Try.ntmps13
  go_wp2_with fail
  refine (ready_calls p gc gd gm cc cd n m win tm w HP.out.blk).mono ?_
  rintro e w1 ⟨rfl, hw⟩
  replace hw := hw.symm
  subst hw
  go_wp2_with fail
  refine (has_calls i w HP.out).mono ?_
  rw [HH.out]
  rintro e w1 ⟨rfl, hw⟩
  replace hw := hw.symm
  subst hw
  go_wp2
  go_ret
  exact ⟨rfl, rfl⟩
theorem had_twice {p gc gd gm cc cd n m : Nat} {win tm : Int} {S : Nat → U} {D : Nat → Int} (j : Nat) (hj : j < n) (w : World) (h : Pl w p gc gd gm cc cd n m win tm S D) (hs : (S j).1 = 2) :
    Calls Try.prog 13 #[.pointer (some ⟨p, 0, none⟩), .int .i64 (j : Int)] w fun e w' => e = .returned (.int .i64 7) ∧ w' = w := by
  have HP := Aside0.mk h
  have hn := h.n1
  have hc := h.blk.c0
  obtain ⟨hx0, -, -⟩ := h.ch.cu j hj
  have HH := Aside0.mk (decide_eq_true (p := 0 ≤ (j : Int) ∧ (j : Int) < n) ⟨by omega, by omega⟩)
  rw [hs] at hx0
  clear h hs
  go_enter Try.func13, Try.ntmps13
  go_wp2_with fail
  refine (ready_calls p gc gd gm cc cd n m win tm w HP.out.blk).mono ?_
  rintro e w1 ⟨rfl, hw⟩
  replace hw := hw.symm
  subst hw
  go_wp2_with fail
  refine (has_calls (j : Int) w HP.out).mono ?_
  rw [HH.out]
  rintro e w1 ⟨rfl, hw⟩
  replace hw := hw.symm
  subst hw
  go_wp2
  go_ret
  exact ⟨rfl, rfl⟩
theorem bad_none {p gc gd gm cc cd n m : Nat} {win tm : Int} {S : Nat → U} {D : Nat → Int} (i k : Int) (w : World) (h : Pl w p gc gd gm cc cd n m win tm S D) (hi : ¬ ((0 ≤ i ∧ i < n) ∧ 0 ≤ k ∧ k < m)) :
    Calls Try.prog 14 #[.pointer (some ⟨p, 0, none⟩), .int .i64 i, .int .i64 k] w fun e w' => e = .returned (.int .i64 6) ∧ w' = w := by
  have HP := Aside0.mk h
  have hc := h.blk.c1
  clear h
  by_cases h1 : 0 ≤ i ∧ i < (n : Int)
  · have HH := Aside0.mk (decide_eq_true h1)
    have HI := Aside0.mk (show ¬ (0 ≤ k ∧ k < (m : Int)) from fun h => hi ⟨h1, h⟩)
    clear h1 hi
    by_cases h2 : 0 ≤ k
    · have e1 : decide (k < 0) = false := decide_eq_false (by omega)
      have e2 : decide (k ≥ (m : Int)) = true := decide_eq_true (by have := HI.out; omega)
      have e3 : decide ((m : Int) ≤ k) = true := decide_eq_true (by have := HI.out; omega)
      clear h2
      go_enter Try.func14, Try.ntmps14
      go_wp2_with fail
      refine (ready_calls p gc gd gm cc cd n m win tm w HP.out.blk).mono ?_
      rintro e w1 ⟨rfl, hw⟩
      replace hw := hw.symm
      subst hw
      go_wp2_with fail
      refine (has_calls i w HP.out).mono ?_
      rw [HH.out]
      rintro e w1 ⟨rfl, hw⟩
      replace hw := hw.symm
      subst hw
      go_wp2
      go_ret
      exact ⟨rfl, rfl⟩
    · have e1 : decide (k < 0) = true := decide_eq_true (by omega)
      clear h2
      go_enter Try.func14, Try.ntmps14
      go_wp2_with fail
      refine (ready_calls p gc gd gm cc cd n m win tm w HP.out.blk).mono ?_
      rintro e w1 ⟨rfl, hw⟩
      replace hw := hw.symm
      subst hw
      go_wp2_with fail
      refine (has_calls i w HP.out).mono ?_
      rw [HH.out]
      rintro e w1 ⟨rfl, hw⟩
      replace hw := hw.symm
      subst hw
      go_wp2
      go_ret
      exact ⟨rfl, rfl⟩
  · have HH := Aside0.mk (decide_eq_false h1)
    clear h1 hi
    go_enter Try.func14, Try.ntmps14
    go_wp2_with fail
    refine (ready_calls p gc gd gm cc cd n m win tm w HP.out.blk).mono ?_
    rintro e w1 ⟨rfl, hw⟩
    replace hw := hw.symm
    subst hw
    go_wp2_with fail
    refine (has_calls i w HP.out).mono ?_
    rw [HH.out]
    rintro e w1 ⟨rfl, hw⟩
    replace hw := hw.symm
    subst hw
    go_wp2
    go_ret
    exact ⟨rfl, rfl⟩
theorem bad_arg {p gc gd gm cc cd n m : Nat} {win tm : Int} {S : Nat → U} {D : Nat → Int} (j k : Nat) (hj : j < n) (hk : k < m) (w : World) (h : Pl w p gc gd gm cc cd n m win tm S D) (hs : ¬ ((S j).1 = 1 ∧ (S j).2.1 = k)) :
    Calls Try.prog 14 #[.pointer (some ⟨p, 0, none⟩), .int .i64 (j : Int), .int .i64 (k : Int)] w fun e w' => e = .returned (.int .i64 2) ∧ w' = w := by
  have HP := Aside0.mk h
  have hn := h.n1
  have hm := h.m1
  have hc := h.blk.c0
  have hd := h.blk.c1
  obtain ⟨hx0, hx1, -⟩ := h.ch.cu j hj
  have HH := Aside0.mk (decide_eq_true (p := 0 ≤ (j : Int) ∧ (j : Int) < n) ⟨by omega, by omega⟩)
  have e1 : decide ((k : Int) < 0) = false := decide_eq_false (by omega)
  have e2 : decide ((k : Int) ≥ (m : Int)) = false := decide_eq_false (by omega)
  have e3 : decide (m ≤ k) = false := decide_eq_false (by omega)
  by_cases h1 : (S j).1 = 1
  · rw [h1] at hx0
    have h2 : ((S j).2.1 != (k : Int)) = true := by have : (S j).2.1 ≠ (k : Int) := fun e => hs ⟨h1, e⟩; simp [this]
    have h3 : ((S j).2.1 == (k : Int)) = false := by have : (S j).2.1 ≠ (k : Int) := fun e => hs ⟨h1, e⟩; simp [this]
    clear h hs h1
    go_enter Try.func14, Try.ntmps14
    go_wp2_with fail
    refine (ready_calls p gc gd gm cc cd n m win tm w HP.out.blk).mono ?_
    rintro e w1 ⟨rfl, hw⟩
    replace hw := hw.symm
    subst hw
    go_wp2_with fail
    refine (has_calls (j : Int) w HP.out).mono ?_
    rw [HH.out]
    rintro e w1 ⟨rfl, hw⟩
    replace hw := hw.symm
    subst hw
    go_wp2
    go_ret
    exact ⟨rfl, rfl⟩
  · have h2 : ((S j).1 != 1) = true := by simp [h1]
    have h3 : ((S j).1 == 1) = false := by simp [h1]
    clear h hs h1
    go_enter Try.func14, Try.ntmps14
    go_wp2_with fail
    refine (ready_calls p gc gd gm cc cd n m win tm w HP.out.blk).mono ?_
    rintro e w1 ⟨rfl, hw⟩
    replace hw := hw.symm
    subst hw
    go_wp2_with fail
    refine (has_calls (j : Int) w HP.out).mono ?_
    rw [HH.out]
    rintro e w1 ⟨rfl, hw⟩
    replace hw := hw.symm
    subst hw
    go_wp2
    go_ret
    exact ⟨rfl, rfl⟩
theorem bad_ok {p gc gd gm cc cd n m : Nat} {win tm : Int} {S : Nat → U} {D : Nat → Int} (j k : Nat) (hj : j < n) (hk : k < m) (w : World) (h : Pl w p gc gd gm cc cd n m win tm S D) (hs : (S j).1 = 1) (hs2 : (S j).2.1 = k) (hb : 0 ≤ D k ∧ D k < 4611686018427387904) :
    Calls Try.prog 14 #[.pointer (some ⟨p, 0, none⟩), .int .i64 (j : Int), .int .i64 (k : Int)] w fun e w' => e = .returned (.int .i64 0) ∧ w' = (put3 w gc j (0, 0, 0)).setCell ⟨gd, k, none⟩ (.int .i64 (D k + 1)) := by
  have HP := Aside0.mk h
  have hn := h.n1
  have hm := h.m1
  have hc := h.blk.c0
  have hd := h.blk.c1
  obtain ⟨hx0, hx1, hx2⟩ := h.ch.cu j hj
  have z0 := h.ch.fz (j * 3)
  have z1 := h.ch.fz (j * 3 + 1)
  have z2 := h.ch.fz (j * 3 + 2)
  have HH := Aside0.mk (decide_eq_true (p := 0 ≤ (j : Int) ∧ (j : Int) < n) ⟨by omega, by omega⟩)
  have e1 : decide ((k : Int) < 0) = false := decide_eq_false (by omega)
  have e2 : decide ((k : Int) ≥ (m : Int)) = false := decide_eq_false (by omega)
  have e3 : decide (m ≤ k) = false := decide_eq_false (by omega)
  rw [hs] at hx0
  rw [hs2] at hx1
  have HW := Aside0.mk (show Go.RowKit.wrap64 (D k + 1) = D k + 1 by unfold Go.RowKit.wrap64; omega)
  clear h hs hs2 hb
  go_enter Try.func14, Try.ntmps14
  go_wp2_with fail
  refine (ready_calls p gc gd gm cc cd n m win tm w HP.out.blk).mono ?_
  rintro e w1 ⟨rfl, hw⟩
  replace hw := hw.symm
  subst hw
  go_wp2_with fail
  refine (has_calls (j : Int) w HP.out).mono ?_
  rw [HH.out]
  rintro e w1 ⟨rfl, hw⟩
  replace hw := hw.symm
  subst hw
  go_upto_region 8 with (fail)
  have hp3 := HP.out.put j hj (0, 0, 0)
  obtain ⟨w2, hw2⟩ : ∃ w2, put3 w gc j (0, 0, 0) = w2 := ⟨_, rfl⟩
  have hw3 : ((w.setCell ⟨gc, j * 3, none⟩ (.int .i64 0)).setCell ⟨gc, j * 3 + 1, none⟩ (.int .i64 0)).setCell ⟨gc, j * 3 + 2, none⟩ (.int .i64 0) = w2 := hw2
  rw [hw2] at hp3
  rw [hw3]
  have HW2 := Aside0.mk hw2
  have hwr := HW.out
  have y1 := hp3.blk.c1
  have y2 := hp3.de.cu k hk
  have y3 := hp3.de.fz k
  clear hw2 hw3 hp3 hc hd hx0 hx1 hx2 z0 z1 z2 e1 e2 e3
  go_wp2
  go_ret
  exact ⟨rfl, by rw [HW2.out]⟩
end Go.Proofs.Ytaheoifjihkipaa.As
