/- What calls of Go functions of this seat come to, as the rows need it: under the conditions that each theorem names. -/
import Derived.Test.YtneindaodfiabaaDoorROne
import Derived.Test.YtneindaodfiabaaDoorMay
namespace Go.Proofs.YtneindaodfiabaaDoor.Prog6
open Go.RowKit Go.Proofs.YtneindaodfiabaaDoorW.PrintWords Go.Proofs.YtneindaodfiabaaDoorW.PrintLast Go.Proofs.YtneindaodfiabaaDoorW.PrintMore
set_option linter.unusedVariables false
set_option linter.unusedSimpArgs false
theorem rone_callsX (x : Ins) (m : Int) (w : World) (hx : szOk x) :
    Calls Tryd.prog 26 #[.agg #[.int .u8 x.1, .string x.2.1, .string x.2.2.1, .string x.2.2.2.1, .int .i64 x.2.2.2.2.1, .int .i64 x.2.2.2.2.2], .int .i64 m] w fun e w' => e = .returned (.bool (one x m)) ∧ Below w.heap.size w w' := by
  obtain ⟨o, A, B, C, N, M⟩ := x
  exact rone_calls o A B C N M m w hx.1 hx.2.1 hx.2.2
/-- Reference: May a program be? -/
theorem rmay_calls (A : Option Addr) (c : Nat) (xs : List Ins) (w : World) (hr : KP.C w A xs.length xs) (hc : xs.length ≤ c) (hx : ∀ x ∈ xs, szOk x) :
    Calls Tryd.prog 14 #[.slice A xs.length c] w fun e w' => e = .returned (.bool (mayP xs)) ∧ Below w.heap.size w w' := by
  have HR := Aside0.mk hr
  have HSZ := Aside0.mk hx
  have hl63 : xs.length ≤ 9223372036854775807 := hr.2.1
  clear hr hx
  by_cases h30 : xs.length > 30
  · have e1 : decide ((xs.length : Int) > 30) = true := decide_eq_true (by omega)
    have e1' : decide (xs.length > 30) = true := decide_eq_true h30
    have HV := Aside0.mk (show mayP xs = false by unfold mayP; rw [decide_eq_false (by omega)]; rfl)
    clear h30
    go_enter Tryd.func14, Tryd.ntmps14
    go_wp2
    go_ret
    exact ⟨by rw [HV.out]; rfl, Below.refl _ _⟩
  have e1 : decide ((xs.length : Int) > 30) = false := decide_eq_false (by omega)
  have e1' : decide (xs.length > 30) = false := decide_eq_false h30
  have HV := Aside0.mk (show mayP xs = allOne xs xs.length by unfold mayP; rw [decide_eq_true (by omega)]; rfl)
  clear h30
  go_enter Tryd.func14, Tryd.ntmps14
  go_wp2
  go_loopw [3] (fun i wr => ∃ k : Nat, k ≤ xs.length ∧ i = .int .i64 k ∧ Aside0 (Below w.heap.size w wr) ∧ Aside0 (allOne (xs.take k) xs.length = true)) (fun i _ => xs.length - (intOf i).toNat)
  case atStart => exact ⟨0, Nat.zero_le _, rfl, ⟨Below.refl _ _⟩, ⟨rfl⟩⟩
  case round =>
    obtain ⟨k, hk, rfl, HB, HA⟩ := hrel
    clear e1 e1'
    by_cases hlt : k < xs.length
    · obtain ⟨ad, rfl, x0, x1, x2, x3, x4, x5⟩ := row_cp (Kd.C_below HR.out HB.out) k hlt xs[k] (List.getElem?_eq_getElem hlt)
      have HU := Aside0.mk (HSZ.out xs[k] (List.getElem_mem hlt))
      have HMEM := Aside0.mk (List.getElem_mem hlt)
      have HTK := Aside0.mk (List.take_succ_eq_append_getElem hlt)
      generalize xs[k] = x at x0 x1 x2 x3 x4 x5 HU HMEM HTK
      go_wp2_with fail
      refine (rone_callsX x xs.length _ HU.out).mono ?_
      rintro e w1 ⟨rfl, hb⟩
      have HB1 := Aside0.mk (below_step HB.out hb)
      clear hb x0 x1 x2 x3 x4 x5 HB
      cases ho : one x xs.length with
      | true =>
        have HA1 := Aside0.mk (show allOne (xs.take (k + 1)) xs.length = true by rw [HTK.out]; have h := HA.out; unfold allOne at h ⊢; rw [List.all_append, h]; simp [ho])
        clear ho
        go_wp2
        go_roundw
        case rel => exact ⟨k + 1, by omega, by go_num, HB1, HA1⟩
        case measure => simp [intOf]; omega
      | false =>
        have HF := Aside0.mk (show allOne xs xs.length = false by unfold allOne; rw [List.all_eq_false]; exact ⟨x, HMEM.out, by simp [ho]⟩)
        clear ho
        go_wp2
        go_ret
        exact ⟨by rw [HV.out, HF.out]; rfl, HB1.out⟩
    · obtain rfl : k = xs.length := by omega
      have HF := Aside0.mk (show allOne xs xs.length = true by have h := HA.out; rwa [List.take_length] at h)
      clear hlt hk
      go_wp2
      go_ret
      exact ⟨by rw [HV.out, HF.out]; rfl, HB.out⟩
end Go.Proofs.YtneindaodfiabaaDoor.Prog6
