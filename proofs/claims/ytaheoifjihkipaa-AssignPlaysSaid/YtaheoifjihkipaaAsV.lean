/- What calls of Go functions of this seat come to, as the rows need it: under the conditions that each theorem names. -/
import Derived.Test.YtaheoifjihkipaaAsU
namespace Go.Proofs.Ytaheoifjihkipaa.As
open Go.RowKit Go.Proofs.YtaheoifjihkipaaW.PrintWords Go.Proofs.YtaheoifjihkipaaW.PrintLast Go.Proofs.YtaheoifjihkipaaW.PrintMore
set_option linter.unusedVariables false
set_option linter.unusedSimpArgs false
def ks0 : St := (fun _ => (0, 0, 0), fun _ => 0, fun _ _ => 0)
def ks1 : St := (nextF 0 1 5 2 2 ks0).2
def ks2 : St := (nextF 0 1 5 2 2 ks1).2
def ks3 : St := (nextF 0 1 5 2 2 ks2).2
def ks4 : St := badS 2 2 ks3 0 0
def ks5 : St := (nextF 1 1 5 2 2 ks4).2
def ks6 : St := hadS 2 ks5 0
def ks7 : St := hadS 2 ks6 0
theorem kn1 : (nextF 0 1 5 2 2 ks0).1 = (0, 0, true) := by kernel_rfl
theorem kn2 : (nextF 0 1 5 2 2 ks1).1 = (1, 1, true) := by kernel_rfl
theorem kn3 : (nextF 0 1 5 2 2 ks2).1 = (0, 0, false) := by kernel_rfl
theorem kn4 : badR 2 2 ks3 0 0 = 0 := by kernel_rfl
theorem kn5 : (nextF 1 1 5 2 2 ks4).1 = (0, 0, true) := by kernel_rfl
theorem kn6 : deOf ks5.2.1 2 0 = 1 := by kernel_rfl
theorem kn7 : hadR 2 ks5 0 = 0 := by kernel_rfl
theorem kn8 : hadR 2 ks6 0 = 7 := by kernel_rfl
theorem kn9 : leftF ks7.1 2 = 1 := by kernel_rfl
theorem mayk : mayB (2 : Nat) (2 : Nat) 1 5 = true := by kernel_rfl
/-- A call of Next, told by what it answers and what stands then. -/
theorem next_at {p gc gd gm cc cd n m c : Nat} {win tm : Int} {s s' : St} {r : Int × Int × Bool} (now : Int) (w : World) (h : PW w p gc gd gm cc cd n m win tm c s) (hc : c ≤ 4000000) (hnow : -1152921504606846976 ≤ now ∧ now ≤ 1152921504606846976) (hr : (nextF now win tm n m s).1 = r) (hs : (nextF now win tm n m s).2 = s') :
    Calls Try.prog 12 #[.pointer (some ⟨p, 0, none⟩), .int .i64 now] w fun e w' => e = .returned (.tuple #[.int .i64 r.1, .int .i64 r.2.1, .bool r.2.2]) ∧
      PW w' p gc gd gm cc cd n m win tm (c + 1) s' ∧ Chg gc gd gm w w' := by
  subst hr
  subst hs
  exact next_calls now w h hc hnow
theorem had_at {p gc gd gm cc cd n m c : Nat} {win tm : Int} {s s' : St} {r : Int} (i : Int) (w : World) (h : PW w p gc gd gm cc cd n m win tm c s) (hr : hadR n s i = r) (hs : hadS n s i = s') :
    Calls Try.prog 13 #[.pointer (some ⟨p, 0, none⟩), .int .i64 i] w fun e w' => e = .returned (.int .i64 r) ∧ PW w' p gc gd gm cc cd n m win tm (c + 1) s' ∧ Chg gc gd gm w w' := by
  subst hr
  subst hs
  exact had_calls i w h
theorem bad_at {p gc gd gm cc cd n m c : Nat} {win tm : Int} {s s' : St} {r : Int} (i k : Int) (w : World) (h : PW w p gc gd gm cc cd n m win tm c s) (hc : c ≤ 4000000) (hr : badR n m s i k = r) (hs : badS n m s i k = s') :
    Calls Try.prog 14 #[.pointer (some ⟨p, 0, none⟩), .int .i64 i, .int .i64 k] w fun e w' => e = .returned (.int .i64 r) ∧ PW w' p gc gd gm cc cd n m win tm (c + 1) s' ∧ Chg gc gd gm w w' := by
  subst hr
  subst hs
  exact bad_calls i k w h hc
set_option maxHeartbeats 3200000 in
set_option maxRecDepth 100000 in
theorem known_calls (w : World) : Calls Try.prog 10 #[] w fun e w' => e = .returned (.bool true) ∧ Below w.heap.size w w' := by
  have HNEW := Aside0.mk (new_yes 2 2 1 5 w mayk)
  go_enter Try.func10, Try.ntmps10
  go_wp2_with fail
  refine HNEW.out.mono ?_
  rintro e w1 ⟨p, gc, gd, gm, cc, cd, rfl, hpw, hb, l1, l2, l3, l4⟩
  have HP1 : Aside0 (PW w1 p gc gd gm cc cd 2 2 1 5 0 ks0) := ⟨hpw⟩
  have HB := Aside0.mk hb
  have HL := Aside0.mk (And.intro l2 (And.intro l3 l4))
  clear hpw hb l1 l2 l3 l4 HNEW
  go_wp2_with fail
  refine (next_at 0 w1 HP1.out (by omega) (by omega) kn1 (s' := ks1) rfl).mono ?_
  rintro e w2 ⟨rfl, hp, hc⟩
  have HP2 := Aside0.mk hp
  have HC2 := Aside0.mk hc
  clear hp hc
  go_wp2_with fail
  refine (next_at 0 w2 HP2.out (by omega) (by omega) kn2 (s' := ks2) rfl).mono ?_
  rintro e w3 ⟨rfl, hp, hc⟩
  have HP3 := Aside0.mk hp
  have HC3 := Aside0.mk (HC2.out.trans hc)
  clear hp hc
  go_wp2_with fail
  refine (next_at 0 w3 HP3.out (by omega) (by omega) kn3 (s' := ks3) rfl).mono ?_
  rintro e w4 ⟨rfl, hp, hc⟩
  have HP4 := Aside0.mk hp
  have HC4 := Aside0.mk (HC3.out.trans hc)
  clear hp hc
  go_wp2_with fail
  refine (bad_at 0 0 w4 HP4.out (by omega) kn4 (s' := ks4) rfl).mono ?_
  rintro e w5 ⟨rfl, hp, hc⟩
  have HP5 := Aside0.mk hp
  have HC5 := Aside0.mk (HC4.out.trans hc)
  clear hp hc
  go_wp2_with fail
  refine (next_at 1 w5 HP5.out (by omega) (by omega) kn5 (s' := ks5) rfl).mono ?_
  rintro e w6 ⟨rfl, hp, hc⟩
  have HP6 := Aside0.mk hp
  have HC6 := Aside0.mk (HC5.out.trans hc)
  clear hp hc
  go_wp2_with fail
  refine (demerits_calls 0 w6 HP6.out.pl).mono ?_
  rintro e w7 ⟨rfl, hw⟩
  replace hw := hw.symm
  subst hw
  rw [kn6]
  go_wp2_with fail
  refine (had_at 0 w6 HP6.out kn7 (s' := ks6) rfl).mono ?_
  rintro e w7 ⟨rfl, hp, hc⟩
  have HP7 := Aside0.mk hp
  have HC7 := Aside0.mk (HC6.out.trans hc)
  clear hp hc
  go_wp2_with fail
  refine (had_at 0 w7 HP7.out kn8 (s' := ks7) rfl).mono ?_
  rintro e w8 ⟨rfl, hp, hc⟩
  have HP8 := Aside0.mk hp
  have HC8 := Aside0.mk (HC7.out.trans hc)
  clear hp hc
  go_wp2_with fail
  refine (left_calls w8 HP8.out.pl).mono ?_
  rintro e w9 ⟨rfl, hb⟩
  have HC9 := Aside0.mk (HC8.out.trans (Chg.of_below hb))
  clear hb
  rw [kn9]
  go_wp2
  go_ret
  refine ⟨rfl, ?_⟩
  have hl := HL.out
  have hb := HB.out
  have h9 := HC9.out
  refine ⟨h9.os.trans hb.os, h9.tape.trans hb.tape, h9.output.trans hb.output, Nat.le_trans hb.size h9.size, fun k hk => (h9.block k (by have := hb.size; omega) (by omega) (by omega) (by omega)).trans (hb.block k hk)⟩
theorem mul_bd {a b x y : Int} (h1 : 0 ≤ a) (h2 : a ≤ x) (h3 : 0 ≤ b) (h4 : b ≤ y) : 0 ≤ a * b ∧ a * b ≤ x * y :=
  ⟨Int.mul_nonneg h1 h3, Int.mul_le_mul h2 h4 h3 (by omega)⟩
theorem new_at (n m : Nat) (win tm : Int) (w : World) (h : mayB n m win tm = true) : Calls Try.prog 9 #[.int .i64 (n : Int), .int .i64 (m : Int), .int .i64 win, .int .i64 tm] w fun e w' => ∃ p gc gd gm cc cd, e = .returned (.tuple #[.pointer (some ⟨p, 0, none⟩), .int .i64 0]) ∧
    PW w' p gc gd gm cc cd n m win tm 0 ks0 ∧ Below w.heap.size w w' ∧ w.heap.size ≤ p ∧ w.heap.size ≤ gc ∧ w.heap.size ≤ gd ∧ w.heap.size ≤ gm := new_yes n m win tm w h
/-- What was changed was made. -/
theorem Chg.of_new {a b c : Nat} {w w1 w2 : World} (h : Chg a b c w1 w2) (hb : Below w.heap.size w w1) (ha : w.heap.size ≤ a) (hbb : w.heap.size ≤ b) (hc : w.heap.size ≤ c) : Below w.heap.size w w2 :=
  hb.trans (h.below ha hbb hc hb.size)
theorem dem_at {p gc gd gm cc cd n m : Nat} {win tm : Int} {S : Nat → U} {D : Nat → Int} {x : Int} (i : Int) (w : World) (h : Pl w p gc gd gm cc cd n m win tm S D) (hx : deOf D m i = x) :
    Calls Try.prog 17 #[.pointer (some ⟨p, 0, none⟩), .int .i64 i] w fun e w' => e = .returned (.int .i64 x) ∧ w' = w := by
  subst hx
  exact demerits_calls i w h
end Go.Proofs.Ytaheoifjihkipaa.As
