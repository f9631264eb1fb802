/- What calls of Go functions of this seat come to, as the rows need it: under the conditions that each theorem names. -/
import Derived.Test.YtllcofllnjgkcaaDoorMkA
namespace Go.Proofs.YtllcofllnjgkcaaDoor.Sha
open Go.RowKit Go.Proofs.YtllcofllnjgkcaaDoorW.PrintWords Go.Proofs.YtllcofllnjgkcaaDoorW.PrintLast Go.Proofs.YtllcofllnjgkcaaDoorW.PrintMore
set_option linter.unusedVariables false
set_option linter.unusedSimpArgs false
theorem midB (A : Option Addr) (c : Nat) (l : List Int) (a b : Nat) (hab : a ≤ b) (hb : b ≤ l.length) (hc : l.length ≤ c) :
    ∃ (A' : Option Addr) (c' : Nat), (∀ W : World, (Instr.slice 22 (.slice A l.length c) (some (.int .i64 (a : Int))) (some (.int .i64 (b : Int))) none).run Tryd.prog W = .ok (.slice A' ((l.take b).drop a).length c') W) ∧
      (∀ w : World, B.C w A l.length l → B.C w A' ((l.take b).drop a).length ((l.take b).drop a)) ∧ ((l.take b).drop a).length ≤ c' := by
  obtain ⟨i0, hi, _, hsz, _⟩ := info_parts info5
  obtain ⟨A', h1, h2, h3⟩ := print_mid_of (P := Tryd.prog) (Value.int .u8) 0 22 5 .i64 .i64 Tryd.underlying22 hi hsz A c l (a : Int) (b : Int) (by omega) (by omega) (by omega) hc
  simp only [Int.toNat_natCast] at h1 h2 h3
  exact ⟨A', _, h1, fun w h => Kd.C_of_reads (h1 := fun _ => rfl) (h2 w (Kd.reads_of_C h)), h3⟩
/-- A blob's chunk. -/
def chunkL (l : List Int) (i : Nat) : List Int := (l.take (min l.length ((i + 1) * 64))).drop (i * 64)
theorem count_lt {n i : Nat} (h : i < countN n) : i * 64 ≤ n := by unfold countN at h; omega
theorem chunk_len {l : List Int} {i : Nat} (h : i < countN l.length) : (chunkL l i).length = min l.length ((i + 1) * 64) - i * 64 := by unfold chunkL; rw [List.length_drop, List.length_take]; omega
theorem chunk_no (A : Option Addr) (c : Nat) (l : List Int) (i : Int) (w : World) (hc : l.length ≤ 9223372036854775807) (hi : i < 0 ∨ (countN l.length : Int) ≤ i) :
    Calls Tryd.prog 11 #[.slice A l.length c, .int .i64 i] w fun e w' => e = .returned (.tuple #[.slice none 0 0, .int .i64 6]) ∧ w' = w := by
  have HC := Aside0.mk (fun w => count_calls l.length w (by omega))
  by_cases h0 : i < 0
  · have e1 : decide (i < 0) = true := decide_eq_true h0
    clear hi
    go_enter Tryd.func11, Tryd.ntmps11
    go_wp2
    go_ret2
    exact ⟨rfl, rfl⟩
  · have e1 : decide (i < 0) = false := decide_eq_false h0
    have hi2 : (countN l.length : Int) ≤ i := by omega
    have e2 : decide (i ≥ (countN l.length : Int)) = true := decide_eq_true hi2
    have e3 : decide ((countN l.length : Int) ≤ i) = true := decide_eq_true hi2
    generalize countN l.length = N at HC hi2 e2 e3
    clear hi
    go_enter Tryd.func11, Tryd.ntmps11
    go_wp2_with fail
    refine (HC.out _).mono ?_
    rintro e w1 ⟨rfl, rfl⟩
    go_wp2
    go_ret2
    exact ⟨rfl, rfl⟩
theorem chunk_yes (A : Option Addr) (c : Nat) (l : List Int) (i : Nat) (w : World) (hr : B.C w A l.length l) (hc : l.length ≤ c) (hl : l.length < 10000000) (hi : i < countN l.length) :
    Calls Tryd.prog 11 #[.slice A l.length c, .int .i64 (i : Int)] w fun e w' => ∃ v, e = .returned (.tuple #[v, .int .i64 0]) ∧ Kd.R B 5 w' w.heap.size (fun _ => True) v (chunkL l i) ∧ Below w.heap.size w w' := by
  have HR := Aside0.mk hr
  clear hr
  have HC := Aside0.mk (fun w => count_calls l.length w (by omega))
  have e2 : decide ((i : Int) ≥ (countN l.length : Int)) = false := decide_eq_false (by omega)
  have e3 : decide ((countN l.length : Int) ≤ (i : Int)) = false := decide_eq_false (by omega)
  have hi64 := count_lt hi
  obtain ⟨A2, c2, hcut, hcc, hc2⟩ := midB A c l (i * 64) (min l.length ((i + 1) * 64)) (by omega) (by omega) hc
  have HCC := Aside0.mk (hcc w HR.out)
  have hq := chunk_len hi
  have HM := Aside0.mk (show ((min l.length ((i + 1) * 64) : Nat) : Int) = min (l.length : Int) (((i : Int) + 1) * 64) by omega)
  have HQ := Aside0.mk (show chunkL l i = (l.take (min l.length ((i + 1) * 64))).drop (i * 64) from rfl)
  rw [← HQ.out] at hcut hc2 HCC
  have hln : (chunkL l i).length < 10000000 := by omega
  have hz : ((i * 64 : Nat) : Int) = (i : Int) * 64 := by omega
  rw [hz, HM.out] at hcut
  generalize chunkL l i = ch at *
  generalize countN l.length = N at *
  have hi20 : (i : Int) * 64 ≤ 10000000 := by omega
  clear hq hcc HQ HM hz
  by_cases hm : (l.length : Int) ≤ ((i : Int) + 1) * 64
  · rw [Int.min_eq_left hm] at hcut
    have e4 : decide ((l.length : Int) < ((i : Int) + 1) * 64) = decide ((l.length : Int) < ((i : Int) + 1) * 64) := rfl
    have hcut' := Aside0.mk hcut
    go_enter Tryd.func11, Tryd.ntmps11
    go_wp2_with fail
    refine (HC.out _).mono ?_
    rintro e w1 ⟨rfl, rfl⟩
    go_wp2_with fail
    all_goals refine (clone_calls A2 c2 ch _ HCC.out hc2 hln).mono ?_
    all_goals rintro e w2 ⟨v, rfl, ho, hb⟩
    all_goals have HO := Aside0.mk ho
    all_goals have HB := Aside0.mk hb
    all_goals clear ho hb
    all_goals go_wp2
    all_goals go_ret2
    all_goals exact ⟨v, rfl, HO.out, HB.out⟩
  · have hm2 : ((i : Int) + 1) * 64 < (l.length : Int) := by omega
    rw [Int.min_eq_right (by omega)] at hcut
    go_enter Tryd.func11, Tryd.ntmps11
    go_wp2_with fail
    refine (HC.out _).mono ?_
    rintro e w1 ⟨rfl, rfl⟩
    go_wp2_with fail
    all_goals refine (clone_calls A2 c2 ch _ HCC.out hc2 hln).mono ?_
    all_goals rintro e w2 ⟨v, rfl, ho, hb⟩
    all_goals have HO := Aside0.mk ho
    all_goals have HB := Aside0.mk hb
    all_goals clear ho hb
    all_goals go_wp2
    all_goals go_ret2
    all_goals exact ⟨v, rfl, HO.out, HB.out⟩
end Go.Proofs.YtllcofllnjgkcaaDoor.Sha
