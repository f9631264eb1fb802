/- What calls of Go functions of this seat come to, as the rows need it: under the conditions that each theorem names. -/
import Derived.Test.YtekhejpkmlhllaaUint
namespace Go.Proofs.Ytekhejpkmlhllaa.Hand
open Go.RowKit Go.Proofs.YtekhejpkmlhllaaW.PrintWords Go.Proofs.YtekhejpkmlhllaaW.PrintLast Go.Proofs.YtekhejpkmlhllaaW.PrintMore
set_option linter.unusedVariables false
set_option linter.unusedSimpArgs false
theorem cells_lit {w : World} (xs : List Int) (t : TypeId) (h : xs.length ≤ 9223372036854775807) : B.C (w.alloc (.cells (xs.map (Value.int .u8)).toArray t)) (some ⟨w.heap.size, 0, none⟩) xs.length xs :=
  C_block .u8 (heap_new _ _) xs (fun j x hj => by simp [hj]) h
theorem k1 : uintL [2, 0, 5] 0 = (0, 0, 5) := by decide +kernel
theorem k2 : uintL [9] 0 = (0, 0, 5) := by decide +kernel
theorem k3 : uintL [2, 1] 0 = (0, 0, 4) := by decide +kernel
theorem k4 : formL 0 = [0] := by decide +kernel
theorem k5 : formL 5 = [1, 5] := by decide +kernel
theorem k6 : formL 300 = [2, 1, 44] := by decide +kernel
theorem C_nil (w : World) : B.C w none 0 [] := ⟨rfl, by omega, fun h => absurd h (by omega)⟩
set_option maxHeartbeats 1600000 in
set_option maxRecDepth 100000 in
theorem known_calls (w : World) :
    Calls Try.prog 9 #[] w fun e w' => e = .returned (.bool true) ∧ Below w.heap.size w w' := by
  go_enter Try.func9, Try.ntmps9
  go_wp2_with fail
  refine (uint_calls (some ⟨_, 0, none⟩) 3 [2, 0, 5] 0 _ (cells_lit [2, 0, 5] _ (by decide)) (Nat.le_refl 3) (by unfold bytes; decide)).mono ?_
  rintro e w' ⟨rfl, rfl⟩
  rw [k1]
  go_wp2_with fail
  refine (uint_calls (some ⟨_, 0, none⟩) 1 [9] 0 _ (by simpa using cells_lit (w := w.alloc _) [9] 5 (by decide)) (Nat.le_refl 1) (by unfold bytes; decide)).mono ?_
  rintro e w' ⟨rfl, rfl⟩
  rw [k2]
  go_wp2_with fail
  refine (uint_calls (some ⟨_, 0, none⟩) 2 [2, 1] 0 _ (by simpa using cells_lit (w := (w.alloc _).alloc _) [2, 1] 5 (by decide)) (Nat.le_refl 2) (by unfold bytes; decide)).mono ?_
  rintro e w' ⟨rfl, rfl⟩
  rw [k3]
  go_wp2_with fail
  refine (appendUint_calls none 0 [] 0 _ (C_nil _) (Nat.le_refl 0) (by omega) (by simp)).mono ?_
  rintro e w4 ⟨v, rfl, hr, hb⟩
  have HB := Aside0.mk (below_step (w := w) (by repeat (first | exact Below.refl _ _ | apply below_alloc)) hb)
  clear hb
  rw [List.nil_append, k4] at hr
  obtain ⟨A4, c4, hv, hc4, hr4⟩ := Kd.R_reads hr
  subst hv
  have hs4 : (convert 23 9 (.slice A4 1 c4)).run Try.prog w4 = .ok (.string ⟨#[0]⟩) w4 := Kd.C_string Try.underlying23 Try.underlying5 Try.underlying9 hr4
  clear hr hr4
  go_wp2_with fail
  refine (appendUint_calls none 0 [] 5 _ (C_nil _) (Nat.le_refl 0) (by omega) (by simp)).mono ?_
  rintro e w5 ⟨v, rfl, hr, hb⟩
  replace HB := Aside0.mk (below_step HB.out hb)
  clear hb hs4
  rw [List.nil_append, k5] at hr
  obtain ⟨A5, c5, hv, hc5, hr5⟩ := Kd.R_reads hr
  subst hv
  have hs5 : (convert 23 9 (.slice A5 2 c5)).run Try.prog w5 = .ok (.string ⟨#[1, 5]⟩) w5 := Kd.C_string Try.underlying23 Try.underlying5 Try.underlying9 hr5
  clear hr hr5
  go_wp2_with fail
  refine (appendUint_calls none 0 [] 300 _ (C_nil _) (Nat.le_refl 0) (by omega) (by simp)).mono ?_
  rintro e w6 ⟨v, rfl, hr, hb⟩
  replace HB := Aside0.mk (below_step HB.out hb)
  clear hb hs5
  rw [List.nil_append, k6] at hr
  obtain ⟨A6, c6, hv, hc6, hr6⟩ := Kd.R_reads hr
  subst hv
  have hs6 : (convert 23 9 (.slice A6 3 c6)).run Try.prog w6 = .ok (.string ⟨#[2, 1, 44]⟩) w6 := Kd.C_string Try.underlying23 Try.underlying5 Try.underlying9 hr6
  clear hr hr6
  go_wp2_with fail
  go_ret
  exact ⟨rfl, HB.out⟩
end Go.Proofs.Ytekhejpkmlhllaa.Hand
