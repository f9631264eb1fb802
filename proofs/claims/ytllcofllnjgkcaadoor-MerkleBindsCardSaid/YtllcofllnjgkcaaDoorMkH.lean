/- What calls of Go functions of this seat come to, as the rows need it: under the conditions that each theorem names. -/
import Derived.Test.YtllcofllnjgkcaaDoorMkG
import Derived.OpenShut
namespace Go.Proofs.YtllcofllnjgkcaaDoor.Sha
open Go.RowKit Go.Proofs.YtllcofllnjgkcaaDoorW.PrintWords Go.Proofs.YtllcofllnjgkcaaDoorW.PrintLast Go.Proofs.YtllcofllnjgkcaaDoorW.PrintMore
set_option linter.unusedVariables false
set_option linter.unusedSimpArgs false
theorem join_step (l : List Int) (k : Nat) (h : k * 64 ≤ l.length) : l.take (min l.length (k * 64)) ++ chunkL l k = l.take (min l.length ((k + 1) * 64)) := by
  unfold chunkL
  have h1 : l.take (min l.length (k * 64)) = (l.take (min l.length ((k + 1) * 64))).take (k * 64) := by rw [List.take_take]; congr 1; omega
  rw [h1, List.take_append_drop]
set_option maxHeartbeats 1600000 in
set_option maxRecDepth 100000 in
theorem joins_calls (A : Option Addr) (c : Nat) (l : List Int) (w : World) (hr : B.C w A l.length l) (hc : l.length ≤ c) (hT : Tab w) :
    Calls Tryd.prog 3 #[.slice A l.length c] w fun e w' => e = .returned (.bool true) ∧ Below w.heap.size w w' := by
  have HR := Aside0.mk hr
  have HTAB := Aside0.mk hT
  have hl63 : l.length ≤ 9223372036854775807 := hr.2.1
  clear hr hT
  by_cases hbig : 5000 < l.length
  · have e1 : decide ((l.length : Int) > 5000) = true := decide_eq_true (by omega)
    clear hbig
    go_enter Tryd.func3, Tryd.ntmps3
    go_wp2_with fail
    refine (known_calls _ HTAB.out).mono ?_
    rintro e w1 ⟨rfl, hb⟩
    go_wp2
    go_ret
    exact ⟨rfl, hb⟩
  have e1 : decide ((l.length : Int) > 5000) = false := decide_eq_false (by omega)
  have hl5 : l.length ≤ 5000 := by omega
  have HC := Aside0.mk (fun w => count_calls l.length w (by omega))
  have HCP := Aside0.mk (count_pos l.length)
  have HN := Aside0.mk (show ∀ k, k < countN l.length → k * 64 ≤ l.length ∧ (chunkL l k).length ≤ 64 ∧ (k + 1 < countN l.length → (chunkL l k).length = 64) ∧ (1 < countN l.length → 0 < (chunkL l k).length) from fun k hk => by
    have h1 := chunk_len hk
    have h2 := count_lt hk
    refine ⟨h2, by omega, fun h => ?_, fun h => ?_⟩ <;> unfold countN at * <;> omega)
  have HEND := Aside0.mk (show l.take (min l.length (countN l.length * 64)) = l by
    have : min l.length (countN l.length * 64) = l.length := by unfold countN; omega
    rw [this, List.take_length])
  have HNO := Aside0.mk (fun (W : World) => chunk_no A c l ((countN l.length : Nat) : Int) W hl63 (Or.inr (by omega)))
  have HYES := Aside0.mk (fun (k : Nat) (hk : k < countN l.length) (W : World) (h : B.C W A l.length l) => chunk_yes A c l k W h hc (by omega) hk)
  have hN5 : countN l.length ≤ 100 := by unfold countN; omega
  generalize countN l.length = N at *
  clear hbig
  go_enter Tryd.func3, Tryd.ntmps3
  go_wp2_with fail
  refine (HC.out _).mono ?_
  rintro e w1 ⟨rfl, hw⟩
  replace hw := hw.symm
  subst hw
  go_wp2
  go_loopw [4, 20] (fun v i wr => ∃ k : Nat, k ≤ N ∧ i = .int .i64 (k : Int) ∧ Aside0 (Kd.R B 5 wr w.heap.size (fun _ => True) v (l.take (min l.length (k * 64)))) ∧ Aside0 (Below w.heap.size w wr)) (fun _ i _ => N - (intOf i).toNat)
  case atStart => exact ⟨0, Nat.zero_le _, rfl, ⟨by simpa using Kd.R_nil B 5 w w.heap.size (fun _ => True)⟩, ⟨Below.refl _ _⟩⟩
  case round =>
    obtain ⟨k, hk, rfl, HO, HB⟩ := hrel
    by_cases hlt : k < N
    · have hkN : (k : Int) < (N : Int) := by omega
      obtain ⟨hk64, hc64, hcA, hcB⟩ := HN.out k hlt
      have HS := Aside0.mk (join_step l k hk64)
      have htl : (l.take (min l.length (k * 64))).length ≤ 5000 := by rw [List.length_take]; omega
      go_wp2_with fail
      refine (HYES.out k hlt _ (Kd.C_below HR.out HB.out)).mono ?_
      rintro e w2 ⟨v, rfl, ho, hb⟩
      have HB2 := Aside0.mk (below_step HB.out hb)
      replace HO := Aside0.mk (Kd.R_below HO.out hb)
      obtain ⟨A2, c2, rfl, hc2, hr2⟩ := Kd.R_reads ho
      have HR2 := Aside0.mk hr2
      clear hb ho hr2 HB
      generalize l.take (min l.length (k * 64)) = t at HO HS htl
      generalize chunkL l k = ch at *
      have e6 : decide ((ch.length : Int) > 64) = false := decide_eq_false (by omega)
      by_cases hl1 : k + 1 < N
      · have hq := hcA hl1
        have e5 : decide ((k : Int) < (N : Int) - 1) = true := decide_eq_true (by omega)
        have e7 : ((ch.length : Int) == 64) = true := by simp; omega
        have e8 : ((ch.length : Int) != 64) = false := by simp; omega
        have e9 : ((ch.length : Int) == 0) = false := by rw [beq_eq_false_iff_ne]; omega
        have hN1 : 1 < (N : Int) := by omega
        clear hq hcA hcB hk64
        go_wp2_with (first | ((with_reducible refine gate_builtin (b := .append) (xs := #[.tmp 56, .tmp 57]) rfl ?_); at_builtin; refine Kd.R_append_rows B (w0 := w) w.heap.size rfl (.tmp 56) (.tmp 57) 22 5 (.int .u8 0) 1 rfl Tryd.underlying22 info5 rfl (by decide) (by omega) _ (t) (ch) _ _ _ (fun _ => True) (fun _ => False) rfl rfl HO.out (HR2.out) (fun _ _ h => h) (fun _ h => h.elim) (fun _ _ => trivial) HB2.out HB2.out.size ?aL ?_; (case aL => omega); intro v2 w6 ho hb2 hg hat; rw [HS.out] at ho; have HO2 := Aside0.mk ho; have HB3 := Aside0.mk hb2; clear ho hb2 hg hat))
        go_roundw
        case rel => exact ⟨k + 1, by omega, by go_num, HO2, HB3⟩
        case measure => simp [intOf]; omega
      · have e5 : decide ((k : Int) < (N : Int) - 1) = false := decide_eq_false (by omega)
        by_cases hN1 : 1 < N
        · have hq := hcB hN1
          have e9 : ((ch.length : Int) == 0) = false := by rw [beq_eq_false_iff_ne]; omega
          have e10 : decide ((N : Int) > 1) = true := decide_eq_true (by omega)
          clear hq hcA hcB hk64
          go_wp2_with (first | ((with_reducible refine gate_builtin (b := .append) (xs := #[.tmp 56, .tmp 57]) rfl ?_); at_builtin; refine Kd.R_append_rows B (w0 := w) w.heap.size rfl (.tmp 56) (.tmp 57) 22 5 (.int .u8 0) 1 rfl Tryd.underlying22 info5 rfl (by decide) (by omega) _ (t) (ch) _ _ _ (fun _ => True) (fun _ => False) rfl rfl HO.out (HR2.out) (fun _ _ h => h) (fun _ h => h.elim) (fun _ _ => trivial) HB2.out HB2.out.size ?aL ?_; (case aL => omega); intro v2 w6 ho hb2 hg hat; rw [HS.out] at ho; have HO2 := Aside0.mk ho; have HB3 := Aside0.mk hb2; clear ho hb2 hg hat))
          go_roundw
          case rel => exact ⟨k + 1, by omega, by go_num, HO2, HB3⟩
          case measure => simp [intOf]; omega
        · have e10 : decide ((N : Int) > 1) = false := decide_eq_false (by omega)
          clear hcA hcB hk64
          go_wp2_with (first | ((with_reducible refine gate_builtin (b := .append) (xs := #[.tmp 56, .tmp 57]) rfl ?_); at_builtin; refine Kd.R_append_rows B (w0 := w) w.heap.size rfl (.tmp 56) (.tmp 57) 22 5 (.int .u8 0) 1 rfl Tryd.underlying22 info5 rfl (by decide) (by omega) _ (t) (ch) _ _ _ (fun _ => True) (fun _ => False) rfl rfl HO.out (HR2.out) (fun _ _ h => h) (fun _ h => h.elim) (fun _ _ => trivial) HB2.out HB2.out.size ?aL ?_; (case aL => omega); intro v2 w6 ho hb2 hg hat; rw [HS.out] at ho; have HO2 := Aside0.mk ho; have HB3 := Aside0.mk hb2; clear ho hb2 hg hat))
          go_roundw
          case rel => exact ⟨k + 1, by omega, by go_num, HO2, HB3⟩
          case measure => simp [intOf]; omega
    · obtain rfl : k = N := by omega
      rw [HEND.out] at HO
      obtain ⟨A4, c4, rfl, hc4, hr4⟩ := Kd.R_reads HO.out
      have HR4 := Aside0.mk hr4
      clear hlt hk HO hr4
      go_wp2_with fail
      refine (HNO.out _).mono ?_
      rintro e w2 ⟨rfl, rfl⟩
      go_wp2_with fail
      refine (chunk_no A c l (-1) _ hl63 (Or.inl (by omega))).mono ?_
      rintro e w2 ⟨rfl, rfl⟩
      have h4 : (convert 22 9 (.slice A4 l.length c4)).run Tryd.prog w2 = .ok (.string (strOfNums l)) w2 := Kd.C_string Tryd.underlying22 Tryd.underlying5 Tryd.underlying9 HR4.out
      have h0 : (convert 22 9 (.slice A l.length c)).run Tryd.prog w2 = .ok (.string (strOfNums l)) w2 := Kd.C_string Tryd.underlying22 Tryd.underlying5 Tryd.underlying9 (Kd.C_below HR.out HB.out)
      go_wp2_with fail
      refine (known_calls _ (HTAB.out.below HB.out)).mono ?_
      rintro e w3 ⟨rfl, hb⟩
      have HB9 := Aside0.mk (below_step HB.out hb)
      clear hb
      go_wp2
      go_ret
      exact ⟨rfl, HB9.out⟩
theorem bytes_wf {l : List Int} (h : ∀ x ∈ l, (Lit.int .u8 x).wf = true) : bytes l := fun x hx => by
  have := bounds_u8 (h x hx)
  omega
theorem joins_walk (a0 : Option Addr) (c0 : Nat) (x0 : List Int) (w : World) (hT : Tab w) (C0 : B.C w a0 x0.length x0) (l0 : x0.length ≤ c0) (k0 : ∀ x ∈ x0, (Lit.int .u8 x).wf = true) :
    Calls Tryd.prog 3 #[.slice a0 x0.length c0] w fun e w' => e = .returned (.bool true) ∧ Below w.heap.size w w' :=
  joins_calls a0 c0 x0 w C0 l0 hT
end Go.Proofs.YtllcofllnjgkcaaDoor.Sha
