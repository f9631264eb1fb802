/- What calls of Go functions of this seat come to, as the rows need it: under the conditions that each theorem names. -/
import Derived.Test.YtoiblfmlahedlaaDoorH20320fc671a4
import Derived.WalkLawsBesides
section
namespace Go.Proofs.YtoiblfmlahedlaaDoor.Sha
open Go.RowKit Go.Proofs.YtoiblfmlahedlaaDoorW.PrintWords Go.Proofs.YtoiblfmlahedlaaDoorW.PrintLast Go.Proofs.YtoiblfmlahedlaaDoorW.PrintMore
set_option linter.unusedVariables false
set_option linter.unusedSimpArgs false
set_option maxRecDepth 100000
def countN (n : Nat) : Nat := max 1 (n / 64 + min 1 (n % 64))
set_option maxHeartbeats 800000 in
theorem count_calls (n : Nat) (w : World) (hn : n < 9223372036854775808) : Calls Tryd.prog 34 #[.int .i64 n] w fun e w' => e = .returned (.int .i64 (countN n)) ∧ w' = w := by
  have h1 : ((n / 64 + min 1 (n % 64) : Nat) : Int) = (n : Int) / 64 + min 1 ((n : Int) % 64) := by omega
  have hn1 : n / 64 + min 1 (n % 64) ≤ 9223372036854775807 := by omega
  have HV := Aside0.mk (show ((countN n : Nat) : Int) = max 1 ((n : Int) / 64 + min 1 ((n : Int) % 64)) by unfold countN; omega)
  rw [HV.out]
  clear h1 hn1 HV
  go_enter Tryd.func34, Tryd.ntmps34
  go_wp2
  all_goals go_ret
  all_goals exact ⟨congrArg Ending.returned (ival (by omega)), rfl⟩
theorem count_neg (n : Int) (w : World) (hn : n < 0) : Calls Tryd.prog 34 #[.int .i64 n] w fun e w' => e = .returned (.int .i64 0) ∧ w' = w := by
  go_enter Tryd.func34, Tryd.ntmps34
  go_wp2
  go_ret
  exact ⟨rfl, rfl⟩
theorem clone_calls (A : Option Addr) (c : Nat) (l : List Int) (w : World) (hr : B.C w A l.length l) (hc : l.length ≤ c) (hl : l.length < 10000000) :
    Calls Tryd.prog 104 #[.slice A l.length c] w fun e w' => ∃ v, e = .returned v ∧ Kd.R B 5 w' w.heap.size (fun _ => True) v l ∧ Below w.heap.size w w' := by
  have HR := Aside0.mk hr
  clear hr
  rcases A with _ | ad
  · have h0 : l = [] := by
      rcases Nat.eq_zero_or_pos l.length with h | h
      · exact List.length_eq_zero_iff.1 h
      · obtain ⟨_, e, _⟩ := getB HR.out 0 h
        cases e
    subst h0
    have he := fun w : World => Lib.run_eql_slice_nil (P := Tryd.prog) w 22 5 none 0 c 0 0 Tryd.underlying22
    go_enter Tryd.func104, Tryd.ntmps104
    go_wp2
    go_ret
    exact ⟨_, rfl, Kd.R_nil _ _ _ _ _, Below.refl _ _⟩
  · have he := fun w : World => Lib.run_eql_slice_nil (P := Tryd.prog) w 22 5 (some ad) l.length c 0 0 Tryd.underlying22
    go_enter Tryd.func104, Tryd.ntmps104
    go_wp2_with (first | ((with_reducible refine gate_dst (N := 5) rfl ?_); refine Kd.R_lit B (w0 := w) w.heap.size 5 ?hg (N := 5) ?hd (xs := ([] : List Int)) (inner := []) (ok := fun _ => True) (okp := fun _ => True) ?hr ?hp (fun _ hk => hk) trivial (Below.refl _ _) (Nat.le_refl _) (by simp) ?_; (case hd => rfl); (case hg => rfl); (case hr => first | (go_simp; done) | (go_simp; rfl)); (case hp => exact Reps.none _ _); intro v1 w2 ho hb1 hg hnew; have HO := Aside0.mk ho; have HB := Aside0.mk hb1; clear ho hb1 hg hnew) | ((with_reducible refine gate_builtin (b := .append) (xs := #[.tmp 5, .tmp 6]) rfl ?_); at_builtin; refine Kd.R_append_rows B (w0 := w) w.heap.size rfl (.tmp 5) (.tmp 6) 22 5 (.int .u8 0) 1 rfl Tryd.underlying22 info5 rfl (by decide) (by omega) _ ([]) (l) _ _ _ (fun _ => True) (fun _ => False) rfl rfl HO.out (Kd.C_below HR.out HB.out) (fun _ _ h => h) (fun _ h => h.elim) (fun _ _ => trivial) HB.out HB.out.size ?aL ?_; (case aL => simp; omega); intro v2 w6 ho hb2 hg hat; rw [List.nil_append] at ho; have HO2 := Aside0.mk ho; have HB2 := Aside0.mk hb2; clear ho hb2 hg hat))
    go_ret
    exact ⟨_, rfl, HO2.out, HB2.out⟩
end Go.Proofs.YtoiblfmlahedlaaDoor.Sha
end
section
namespace Go.Proofs.YtoiblfmlahedlaaDoor.Sha
open Go.RowKit Go.Proofs.YtoiblfmlahedlaaDoorW.PrintWords Go.Proofs.YtoiblfmlahedlaaDoorW.PrintLast Go.Proofs.YtoiblfmlahedlaaDoorW.PrintMore
set_option linter.unusedVariables false
set_option linter.unusedSimpArgs false
set_option maxRecDepth 100000
theorem midB (A : Option Addr) (c : Nat) (l : List Int) (a b : Nat) (hab : a ≤ b) (hb : b ≤ l.length) (hc : l.length ≤ c) :
    ∃ (A' : Option Addr) (c' : Nat), (∀ W : World, (Instr.slice 22 (.slice A l.length c) (some (.int .i64 (a : Int))) (some (.int .i64 (b : Int))) none).run Tryd.prog W = .ok (.slice A' ((l.take b).drop a).length c') W) ∧
      (∀ w : World, B.C w A l.length l → B.C w A' ((l.take b).drop a).length ((l.take b).drop a)) ∧ ((l.take b).drop a).length ≤ c' := by
  obtain ⟨i0, hi, _, hsz, _⟩ := info_parts info5
  obtain ⟨A', h1, h2, h3⟩ := print_mid_of (P := Tryd.prog) (Value.int .u8) 0 22 5 .i64 .i64 Tryd.underlying22 hi hsz A c l (a : Int) (b : Int) (by omega) (by omega) (by omega) hc
  simp only [Int.toNat_natCast] at h1 h2 h3
  exact ⟨A', _, h1, fun w h => Kd.C_of_reads (h1 := fun _ => rfl) (h2 w (Kd.reads_of_C h)), h3⟩
def chunkL (l : List Int) (i : Nat) : List Int := (l.take (min l.length ((i + 1) * 64))).drop (i * 64)
theorem count_lt {n i : Nat} (h : i < countN n) : i * 64 ≤ n := by unfold countN at h; omega
theorem chunk_len {l : List Int} {i : Nat} (h : i < countN l.length) : (chunkL l i).length = min l.length ((i + 1) * 64) - i * 64 := by unfold chunkL; rw [List.length_drop, List.length_take]; omega
theorem chunk_yes (A : Option Addr) (c : Nat) (l : List Int) (i : Nat) (w : World) (hr : B.C w A l.length l) (hc : l.length ≤ c) (hl : l.length < 10000000) (hi : i < countN l.length) :
    Calls Tryd.prog 94 #[.slice A l.length c, .int .i64 (i : Int)] w fun e w' => ∃ v, e = .returned (.tuple #[v, .int .i64 0]) ∧ Kd.R B 5 w' w.heap.size (fun _ => True) v (chunkL l i) ∧ Below w.heap.size w w' := by
  have HR := Aside0.mk hr
  clear hr
  have HC := Aside0.mk (fun w => count_calls l.length w (by omega))
  have e2 : decide ((i : Int) ≥ (countN l.length : Int)) = false := decide_eq_false (by omega)
  have e3 : decide ((countN l.length : Int) ≤ (i : Int)) = false := decide_eq_false (by omega)
  have hi64 := count_lt hi
  obtain ⟨A2, c2, hcut, hcc, hc2⟩ := midB A c l (i * 64) (min l.length ((i + 1) * 64)) (by omega) (by omega) hc
  have HCC := Aside0.mk (hcc w HR.out)
  have hq := chunk_len hi
  have HM := Aside0.mk (show ((min l.length ((i + 1) * 64) : Nat) : Int) = min (l.length : Int) (((i : Int) + 1) * 64) by omega)
  have HQ := Aside0.mk (show chunkL l i = (l.take (min l.length ((i + 1) * 64))).drop (i * 64) from rfl)
  rw [← HQ.out] at hcut hc2 HCC
  have hln : (chunkL l i).length < 10000000 := by omega
  have hz : ((i * 64 : Nat) : Int) = (i : Int) * 64 := by omega
  rw [hz, HM.out] at hcut
  generalize chunkL l i = ch at *
  generalize countN l.length = N at *
  have hi20 : (i : Int) * 64 ≤ 10000000 := by omega
  clear hq hcc HQ HM hz
  by_cases hm : (l.length : Int) ≤ ((i : Int) + 1) * 64
  · rw [Int.min_eq_left hm] at hcut
    have e4 : decide ((l.length : Int) < ((i : Int) + 1) * 64) = decide ((l.length : Int) < ((i : Int) + 1) * 64) := rfl
    have hcut' := Aside0.mk hcut
    go_enter Tryd.func94, Tryd.ntmps94
    go_wp2_with fail
    refine (HC.out _).mono ?_
    rintro e w1 ⟨rfl, rfl⟩
    go_wp2_with fail
    all_goals refine (clone_calls A2 c2 ch _ HCC.out hc2 hln).mono ?_
    all_goals rintro e w2 ⟨v, rfl, ho, hb⟩
    all_goals have HO := Aside0.mk ho
    all_goals have HB := Aside0.mk hb
    all_goals clear ho hb
    all_goals go_wp2
    all_goals go_ret2
    all_goals exact ⟨v, rfl, HO.out, HB.out⟩
  · have hm2 : ((i : Int) + 1) * 64 < (l.length : Int) := by omega
    rw [Int.min_eq_right (by omega)] at hcut
    go_enter Tryd.func94, Tryd.ntmps94
    go_wp2_with fail
    refine (HC.out _).mono ?_
    rintro e w1 ⟨rfl, rfl⟩
    go_wp2_with fail
    all_goals refine (clone_calls A2 c2 ch _ HCC.out hc2 hln).mono ?_
    all_goals rintro e w2 ⟨v, rfl, ho, hb⟩
    all_goals have HO := Aside0.mk ho
    all_goals have HB := Aside0.mk hb
    all_goals clear ho hb
    all_goals go_wp2
    all_goals go_ret2
    all_goals exact ⟨v, rfl, HO.out, HB.out⟩
end Go.Proofs.YtoiblfmlahedlaaDoor.Sha
end
