/- What calls of Go functions of this seat come to, as the rows need it: under the conditions that each theorem names. -/
import Derived.Test.YtaheoifjihkipaaAsF
namespace Go.Proofs.Ytaheoifjihkipaa.As
open Go.RowKit Go.Proofs.YtaheoifjihkipaaW.PrintWords Go.Proofs.YtaheoifjihkipaaW.PrintLast Go.Proofs.YtaheoifjihkipaaW.PrintMore
set_option linter.unusedVariables false
set_option linter.unusedSimpArgs false
theorem isNaN_calls (x : Int) (w : World) : Calls Try.prog 47 #[.int .i64 x] w fun e w' => e = .returned (.bool false) ∧ w' = w := by
  go_enter Try.func47, Try.ntmps47
  go_wp2
  go_ret
  exact ⟨rfl, rfl⟩
def cmpI (a b : Int) : Int := if a < b then -1 else if b < a then 1 else 0
theorem cmp_calls (a b : Int) (w : World) : Calls Try.prog 46 #[.int .i64 a, .int .i64 b] w fun e w' => e = .returned (.int .i64 (cmpI a b)) ∧ w' = w := by
  have key : ∀ z : Int, z = cmpI a b → (decide (a < b) = true ∧ z = -1 ∨ decide (a < b) = false ∧ decide (a > b) = true ∧ z = 1 ∨ decide (a < b) = false ∧ decide (a > b) = false ∧ z = 0) := by
    intro z hz
    subst hz
    unfold cmpI
    by_cases h1 : a < b
    · left; exact ⟨decide_eq_true h1, if_pos h1⟩
    · by_cases h2 : b < a
      · right; left; exact ⟨decide_eq_false h1, decide_eq_true h2, by rw [if_neg h1, if_pos h2]⟩
      · right; right; exact ⟨decide_eq_false h1, decide_eq_false h2, by rw [if_neg h1, if_neg h2]⟩
  obtain ⟨z, hz⟩ : ∃ z, z = cmpI a b := ⟨_, rfl⟩
  have hk := key z hz
  rw [← hz]
  clear hz key
  rcases hk with ⟨e1, rfl⟩ | ⟨e1, e2, rfl⟩ | ⟨e1, e2, rfl⟩
  all_goals
    go_enter Try.func46, Try.ntmps46
    go_wp2_with fail
    refine (isNaN_calls a w).mono ?_
    rintro e w1 ⟨rfl, hw⟩
    replace hw := hw.symm
    subst hw
    go_wp2_with fail
    refine (isNaN_calls b w).mono ?_
    rintro e w1 ⟨rfl, hw⟩
    replace hw := hw.symm
    subst hw
    go_wp2
    go_ret
    exact ⟨rfl, rfl⟩
/-- Three numbers in a block. -/
def T3 (w : World) (g : Nat) (x : U) : Prop := w.heap[g]? = some (.cells #[.int .i64 x.1, .int .i64 x.2.1, .int .i64 x.2.2] 71 (0, 0))
def nth (x : U) : Nat → Int
  | 0 => x.1
  | 1 => x.2.1
  | _ => x.2.2
theorem T3.cu {w : World} {g : Nat} {x : U} (h : T3 w g x) (i : Nat) (hi : i < 3) : w.cell? ⟨g, i, none⟩ = some (.int .i64 (nth x i)) := by
  refine (cell_of h).2 ?_
  rcases i with _ | _ | _ | i
  · rfl
  · rfl
  · rfl
  · omega
def cmp3 (x y : U) : Int := if cmpI x.1 y.1 ≠ 0 then cmpI x.1 y.1 else if cmpI x.2.1 y.2.1 ≠ 0 then cmpI x.2.1 y.2.1 else cmpI x.2.2 y.2.2
theorem cmp3_at {x y : U} {i : Nat} (hi : i < 3) (h0 : ∀ q, q < i → cmpI (nth x q) (nth y q) = 0) (h1 : cmpI (nth x i) (nth y i) ≠ 0) : cmp3 x y = cmpI (nth x i) (nth y i) := by
  unfold cmp3
  rcases i with _ | _ | _ | i
  · exact if_pos h1
  · have a0 := h0 0 (by omega)
    rw [if_neg (fun h => h a0)]; exact if_pos h1
  · have a0 := h0 0 (by omega)
    have a1 := h0 1 (by omega)
    rw [if_neg (fun h => h a0), if_neg (fun h => h a1)]; rfl
  · omega
theorem cmp3_eq {x y : U} (h0 : ∀ q, q < 3 → cmpI (nth x q) (nth y q) = 0) : cmp3 x y = 0 := by
  have a0 := h0 0 (by omega)
  have a1 := h0 1 (by omega)
  have a2 := h0 2 (by omega)
  unfold cmp3
  rw [if_neg (fun h => h a0), if_neg (fun h => h a1)]; exact a2
set_option maxHeartbeats 1600000 in
theorem compare_calls (ga gb : Nat) (x y : U) (w : World) (hx : T3 w ga x) (hy : T3 w gb y) :
    Calls Try.prog 43 #[.slice (some ⟨ga, 0, none⟩) 3 3, .slice (some ⟨gb, 0, none⟩) 3 3] w fun e w' => e = .returned (.int .i64 (cmp3 x y)) ∧ w' = w := by
  have HX := Aside0.mk hx
  have HY := Aside0.mk hy
  clear hx hy
  go_enter Try.func43, Try.ntmps43
  go_wp2
  go_loopw [11] (fun v wr => ∃ i : Nat, i ≤ 3 ∧ v = .int .i64 (i : Int) ∧ Aside0 (∀ q, q < i → cmpI (nth x q) (nth y q) = 0) ∧ wr = w) (fun v _ => 3 - (intOf v).toNat)
  case atStart => exact ⟨0, by omega, rfl, ⟨fun q h => by omega⟩, rfl⟩
  case round =>
    obtain ⟨i, hi, rfl, HI, hww⟩ := hrel
    replace hww := hww.symm
    subst hww
    by_cases hlt : i < 3
    · have hx := HX.out.cu i hlt
      have hy := HY.out.cu i hlt
      have e1 : decide ((i : Int) < 3) = true := decide_eq_true (by omega)
      have e2 : decide ((i : Int) ≥ 3) = false := decide_eq_false (by omega)
      have e3 : decide (3 ≤ i) = false := decide_eq_false (by omega)
      go_wp2_with fail
      refine (cmp_calls (nth x i) (nth y i) _).mono ?_
      rintro e w1 ⟨rfl, hw⟩
      replace hw := hw.symm
      subst hw
      by_cases h3 : cmpI (nth x i) (nth y i) = 0
      · have HJ := Aside0.mk (show ∀ q, q < i + 1 → cmpI (nth x q) (nth y q) = 0 from fun q hq => by
          by_cases hqi : q < i
          · exact HI.out q hqi
          · rw [show q = i by omega]; exact h3)
        rw [h3]
        clear h3
        go_wp2
        go_roundw
        case rel => exact ⟨i + 1, by omega, by first | rfl | go_num, HJ, by first | trivial | rfl⟩
        case measure => simp [intOf]; omega
      · have HR := Aside0.mk (cmp3_at hlt HI.out h3)
        have e4 : (cmpI (nth x i) (nth y i) != 0) = true := by simp [h3]
        have e5 : (cmpI (nth x i) (nth y i) == 0) = false := by simp [h3]
        clear h3
        generalize cmpI (nth x i) (nth y i) = z at HR e4 e5 ⊢
        go_wp2
        go_ret
        exact ⟨by rw [HR.out]; rfl, rfl⟩
    · obtain rfl : i = 3 := by omega
      have HR := Aside0.mk (cmp3_eq HI.out)
      go_wp2
      go_ret
      exact ⟨by rw [HR.out]; rfl, rfl⟩
end Go.Proofs.Ytaheoifjihkipaa.As
