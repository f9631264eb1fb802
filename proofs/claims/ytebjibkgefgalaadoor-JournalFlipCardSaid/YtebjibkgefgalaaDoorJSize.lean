/- What calls of Go functions of this seat come to, as the rows need it: under the conditions that each theorem names. -/
import Derived.Test.YtebjibkgefgalaaDoorJKnown
namespace Go.Proofs.YtebjibkgefgalaaDoor.Jr
open Go.RowKit Go.Proofs.YtebjibkgefgalaaDoorW.PrintWords Go.Proofs.YtebjibkgefgalaaDoorW.PrintLast Go.Proofs.YtebjibkgefgalaaDoorW.PrintMore
set_option linter.unusedVariables false
set_option linter.unusedSimpArgs false
open Go.Proofs.YtebjibkgefgalaaDoor.Hand (B rowD row_at flen flen_succ flen_all)
set_option maxHeartbeats 1600000 in
set_option maxRecDepth 100000 in
/-- How many bytes records have: below what a machine counts. -/
theorem size_calls (A : Option Addr) (c : Nat) (xs : List (List Int)) (w : World) (hr : Kd.C (Kd.slice 5 B) w A xs.length xs) (hc : xs.length ≤ c) :
    Calls Tryd.prog 15 #[.slice A xs.length c] w fun e w' => ∃ z : Int, e = .returned (.int .i64 z) ∧ z = Go.RowKit.wrap64 (xs.flatten.length : Int) ∧ w' = w := by
  have HR := Aside0.mk hr
  have hl63 : xs.length ≤ 9223372036854775807 := hr.2.1
  clear hr
  go_enter Tryd.func15, Tryd.ntmps15
  go_wp2
  go_loopw [3, 4] (fun v u wr => ∃ k : Nat, k ≤ xs.length ∧ v = .int .i64 (Go.RowKit.wrap64 (flen xs k : Int)) ∧ u = .int .i64 (k : Int) ∧ wr = w) (fun _ u _ => xs.length - (intOf u).toNat)
  case atStart => exact ⟨0, Nat.zero_le _, by have h0 : flen xs 0 = 0 := (by simp [flen]); rw [h0]; exact congrArg _ (by unfold Go.RowKit.wrap64; omega), rfl, rfl⟩
  case round =>
    obtain ⟨k, hk, rfl, rfl, rfl⟩ := hrel
    by_cases hlt : k < xs.length
    · obtain ⟨ad, A0, c0, rfl, hcell, hc0, hC0⟩ := row_at HR.out k hlt
      have HF := Aside0.mk (flen_succ xs k hlt)
      have h63 : (rowD xs k).length ≤ 9223372036854775807 := hC0.2.1
      clear hC0
      generalize rowD xs k = x at hcell hc0 HF h63
      generalize flen xs k = n at HF ⊢
      go_wp2
      go_roundw
      case rel => exact ⟨k + 1, by omega, by rw [HF.out]; congr 1; unfold Go.RowKit.wrap64; omega, by first | rfl | go_num, trivial⟩
      case measure => simp [intOf]; omega
    · obtain rfl : k = xs.length := by omega
      have HV := Aside0.mk (show flen xs xs.length = xs.flatten.length from flen_all xs)
      clear hlt hk
      go_wp2
      go_ret
      exact ⟨_, rfl, by rw [HV.out], by first | rfl | trivial⟩
end Go.Proofs.YtebjibkgefgalaaDoor.Jr
