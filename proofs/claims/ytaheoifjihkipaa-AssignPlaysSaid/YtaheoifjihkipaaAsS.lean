/- What calls of Go functions of this seat come to, as the rows need it: under the conditions that each theorem names. -/
import Derived.Test.YtaheoifjihkipaaAsR
import Derived.Laws.MakeOwn
namespace Go.Proofs.Ytaheoifjihkipaa.As
open Go.RowKit Go.Proofs.YtaheoifjihkipaaW.PrintWords Go.Proofs.YtaheoifjihkipaaW.PrintLast Go.Proofs.YtaheoifjihkipaaW.PrintMore
set_option linter.unusedVariables false
set_option linter.unusedSimpArgs false
theorem in_yes (n a b : Int) (w : World) (h : a ≤ n ∧ n ≤ b) : Calls Try.prog 26 #[.int .i64 n, .int .i64 a, .int .i64 b] w fun e w' => e = .returned (.bool true) ∧ w' = w := by
  have e1 : decide (n ≥ a) = true := decide_eq_true h.1
  have e2 : decide (n ≤ b) = true := decide_eq_true h.2
  clear h
  go_enter Try.func26, Try.ntmps26
  go_wp2
  go_ret
  exact ⟨rfl, rfl⟩
theorem in_no (n a b : Int) (w : World) (h : ¬ (a ≤ n ∧ n ≤ b)) : Calls Try.prog 26 #[.int .i64 n, .int .i64 a, .int .i64 b] w fun e w' => e = .returned (.bool false) ∧ w' = w := by
  by_cases h1 : a ≤ n
  · have e1 : decide (n ≥ a) = true := decide_eq_true h1
    have e2 : decide (n ≤ b) = false := decide_eq_false (fun h2 => h ⟨h1, h2⟩)
    clear h h1
    go_enter Try.func26, Try.ntmps26
    go_wp2
    go_ret
    exact ⟨rfl, rfl⟩
  · have e1 : decide (n ≥ a) = false := decide_eq_false h1
    clear h h1
    go_enter Try.func26, Try.ntmps26
    go_wp2
    go_ret
    exact ⟨rfl, rfl⟩
def inB (n a b : Int) : Bool := decide (a ≤ n ∧ n ≤ b)
theorem in_calls (n a b : Int) (w : World) : Calls Try.prog 26 #[.int .i64 n, .int .i64 a, .int .i64 b] w fun e w' => e = .returned (.bool (inB n a b)) ∧ w' = w := by
  by_cases h : a ≤ n ∧ n ≤ b
  · rw [show inB n a b = true from decide_eq_true h]; exact in_yes n a b w h
  · rw [show inB n a b = false from decide_eq_false h]; exact in_no n a b w h
def mayB (n m win tm : Int) : Bool := inB n 0 100 && inB m 0 64 && inB win 1 100 && inB tm 1 1000000
set_option maxHeartbeats 3200000 in
theorem new_no (n m win tm : Int) (w : World) (h : mayB n m win tm = false) : Calls Try.prog 9 #[.int .i64 n, .int .i64 m, .int .i64 win, .int .i64 tm] w fun e w' => e = .returned (.tuple #[.pointer none, .int .i64 2]) ∧ w' = w := by
  have H1 := Aside0.mk (in_calls n 0 100)
  have H2 := Aside0.mk (in_calls m 0 64)
  have H3 := Aside0.mk (in_calls win 1 100)
  have H4 := Aside0.mk (in_calls tm 1 1000000)
  unfold mayB at h
  generalize inB n 0 100 = b1 at h H1
  generalize inB m 0 64 = b2 at h H2
  generalize inB win 1 100 = b3 at h H3
  generalize inB tm 1 1000000 = b4 at h H4
  rcases b1 with _ | _
  · clear h
    go_enter Try.func9, Try.ntmps9
    go_wp2_with fail
    refine (H1.out _).mono ?_
    rintro e w1 ⟨rfl, hw⟩
    replace hw := hw.symm
    subst hw
    go_wp2
    go_ret2
    exact ⟨rfl, rfl⟩
  rcases b2 with _ | _
  · clear h
    go_enter Try.func9, Try.ntmps9
    go_wp2_with fail
    refine (H1.out _).mono ?_
    rintro e w1 ⟨rfl, hw⟩
    replace hw := hw.symm
    subst hw
    go_wp2_with fail
    refine (H2.out _).mono ?_
    rintro e w1 ⟨rfl, hw⟩
    replace hw := hw.symm
    subst hw
    go_wp2
    go_ret2
    exact ⟨rfl, rfl⟩
  rcases b3 with _ | _
  · clear h
    go_enter Try.func9, Try.ntmps9
    go_wp2_with fail
    refine (H1.out _).mono ?_
    rintro e w1 ⟨rfl, hw⟩
    replace hw := hw.symm
    subst hw
    go_wp2_with fail
    refine (H2.out _).mono ?_
    rintro e w1 ⟨rfl, hw⟩
    replace hw := hw.symm
    subst hw
    go_wp2_with fail
    refine (H3.out _).mono ?_
    rintro e w1 ⟨rfl, hw⟩
    replace hw := hw.symm
    subst hw
    go_wp2
    go_ret2
    exact ⟨rfl, rfl⟩
  rcases b4 with _ | _
  · clear h
    go_enter Try.func9, Try.ntmps9
    go_wp2_with fail
    refine (H1.out _).mono ?_
    rintro e w1 ⟨rfl, hw⟩
    replace hw := hw.symm
    subst hw
    go_wp2_with fail
    refine (H2.out _).mono ?_
    rintro e w1 ⟨rfl, hw⟩
    replace hw := hw.symm
    subst hw
    go_wp2_with fail
    refine (H3.out _).mono ?_
    rintro e w1 ⟨rfl, hw⟩
    replace hw := hw.symm
    subst hw
    go_wp2_with fail
    refine (H4.out _).mono ?_
    rintro e w1 ⟨rfl, hw⟩
    replace hw := hw.symm
    subst hw
    go_wp2
    go_ret2
    exact ⟨rfl, rfl⟩
  · exact absurd h (by decide)
end Go.Proofs.Ytaheoifjihkipaa.As
