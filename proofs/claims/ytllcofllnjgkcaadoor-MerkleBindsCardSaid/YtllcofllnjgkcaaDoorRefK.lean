/- What calls of Go functions of this seat come to, as the rows need it: under the conditions that each theorem names. -/
import Derived.Test.YtllcofllnjgkcaaDoorRefJ
import Derived.Test.YtllcofllnjgkcaaDoorMkI
namespace Go.Proofs.YtllcofllnjgkcaaDoor.Ref
open Go.RowKit Go.Proofs.YtllcofllnjgkcaaDoorW.PrintWords Go.Proofs.YtllcofllnjgkcaaDoorW.PrintLast Go.Proofs.YtllcofllnjgkcaaDoorW.PrintMore
set_option linter.unusedVariables false
set_option linter.unusedSimpArgs false
open Go.Proofs.YtllcofllnjgkcaaDoor.Sha
theorem rcount_calls (n : Nat) (w : World) (hn : n < 9223372036854775808) : Calls Tryd.prog 13 #[.int .i64 n] w fun e w' => e = .returned (.int .i64 (countN n)) ∧ w' = w := by
  by_cases h0 : n = 0
  · subst h0
    go_enter Tryd.func13, Tryd.ntmps13
    go_wp2
    go_ret
    exact ⟨rfl, rfl⟩
  · have h00 : ((n : Int) == 0) = false := by simp; omega
    have hm : (n : Int) % 64 = ((n % 64 : Nat) : Int) := by omega
    have hd : (n : Int) / 64 = ((n / 64 : Nat) : Int) := by omega
    by_cases h1 : n % 64 = 0
    · have HV := Aside0.mk (show countN n = n / 64 by unfold countN; omega)
      have e1 : ((((n % 64 : Nat)) : Int) == 0) = true := by rw [h1]; rfl
      have hq : n / 64 ≤ n := Nat.div_le_self _ _
      rw [HV.out]
      clear h1 HV
      generalize n % 64 = m at *
      generalize n / 64 = q at *
      go_enter Tryd.func13, Tryd.ntmps13
      go_wp2
      go_ret
      exact ⟨rfl, rfl⟩
    · have HV := Aside0.mk (show countN n = n / 64 + 1 by unfold countN; omega)
      have e1 : ((((n % 64 : Nat)) : Int) == 0) = false := by simp; omega
      have hq : n / 64 ≤ 144115188075855872 := by omega
      rw [HV.out]
      clear h1 HV
      generalize n % 64 = m at *
      generalize n / 64 = q at *
      go_enter Tryd.func13, Tryd.ntmps13
      go_wp2
      go_ret
      exact ⟨rfl, rfl⟩
theorem rcount_neg (n : Int) (w : World) (hn : n < 0) : Calls Tryd.prog 13 #[.int .i64 n] w fun e w' => e = .returned (.int .i64 0) ∧ w' = w := by
  go_enter Tryd.func13, Tryd.ntmps13
  go_wp2
  go_ret
  exact ⟨rfl, rfl⟩
theorem rsize_calls (n i : Nat) (w : World) (hn : n < 4611686018427387904) (hi : 64 * i ≤ n) : Calls Tryd.prog 33 #[.int .i64 n, .int .i64 i] w fun e w' => e = .returned (.int .i64 ((min (n - 64 * i) 64 : Nat) : Int)) ∧ w' = w := by
  obtain ⟨q, hq⟩ : ∃ q, q = 64 * i := ⟨_, rfl⟩
  obtain ⟨d, hd⟩ : ∃ d, d = n - 64 * i := ⟨_, rfl⟩
  rw [← hd]
  have h1 : 64 * (i : Int) = (q : Int) := by omega
  have h2 : (n : Int) - (q : Int) = (d : Int) := by omega
  have hqn : q ≤ n := by omega
  have hdn : d ≤ n := by omega
  clear hq hd hi
  by_cases h : 64 < d
  · have HV := Aside0.mk (show min d 64 = 64 by omega)
    rw [HV.out]
    have hi64 : (d : Int) > 64 := by omega
    clear HV
    go_enter Tryd.func33, Tryd.ntmps33
    go_wp2
    go_ret
    exact ⟨rfl, rfl⟩
  · have HV := Aside0.mk (show min d 64 = d by omega)
    rw [HV.out]
    have hi64 : ¬ (d : Int) > 64 := by omega
    clear HV
    go_enter Tryd.func33, Tryd.ntmps33
    go_wp2
    go_ret
    exact ⟨rfl, rfl⟩
set_option maxHeartbeats 1600000 in
set_option maxRecDepth 100000 in
theorem reight_calls (n : Nat) (w : World) (hn : n < 9223372036854775808) :
    Calls Tryd.prog 44 #[.int .i64 n] w fun e w' => ∃ v, e = .returned v ∧ Kd.R B 5 w' w.heap.size (fun _ => True) v (be8 n) ∧ Below w.heap.size w w' := by
  go_enter Tryd.func44, Tryd.ntmps44
  go_wp2
  go_loopw [3, 4] (fun v i wz => ∃ (q : Nat) (t2 : List Int) (A5 : Option Addr) (c5 : Nat), q ≤ 8 ∧ Aside0 (t2.length = q) ∧ Aside0 (t2 = [] ++ (be8 n).take q) ∧ v = .slice A5 t2.length c5 ∧ i = .int .i64 (7 - (q : Int)) ∧ Aside0 (Kd.R B 5 wz w.heap.size (fun _ => True) (.slice A5 t2.length c5) t2) ∧ Aside0 (Below w.heap.size w wz)) (fun v _ _ => 200 - slLen v)
  case atStart => exact ⟨0, [], none, 0, Nat.zero_le _, ⟨rfl⟩, ⟨rfl⟩, rfl, rfl, ⟨Kd.R_nil _ _ _ _ _⟩, ⟨Below.refl _ _⟩⟩
  case round =>
    obtain ⟨q, t2, A5, c5, hq, htl, HTE, rfl, rfl, HO, HB⟩ := hrel
    have hn64 : t2.length ≤ 8 := by have := htl.out; omega
    by_cases hlt : q < 8
    · obtain rfl | rfl | rfl | rfl | rfl | rfl | rfl | rfl : q = 0 ∨ q = 1 ∨ q = 2 ∨ q = 3 ∨ q = 4 ∨ q = 5 ∨ q = 6 ∨ q = 7 := by omega
      · rw [show (7 - ((0 : Nat) : Int)) = 7 from rfl]
        clear hlt hq
        go_wp2_with (first | ((with_reducible refine gate_builtin (b := .append) (xs := #[.tmp 9, .tmp 17]) rfl ?_); at_builtin; refine Kd.R_append_rows B (w0 := w) w.heap.size rfl (.tmp 9) (.tmp 17) 22 5 (.int .u8 0) 1 rfl Tryd.underlying22 info5 rfl (by decide) (by omega) _ (t2) ([_]) _ _ _ (fun _ => True) (fun _ => False) rfl rfl (by (with_reducible repeat (first | apply Kd.R_alloc | apply Kd.R_drewN | apply Kd.R_drew)); exact HO.out) (C_one wr _ _) (fun _ _ h => h) (fun _ h => h.elim) (fun _ _ => trivial) (HB.out.alloc HB.out.size _) (HB.out.alloc HB.out.size _).size ?aL ?_; (case aL => simp; omega); intro v2 w6 ho hb2 hg hat; have HO2 := Aside0.mk ho; have HB2 := Aside0.mk hb2; clear ho hb2 hg hat))
        have HT2 := Aside0.mk (be8_step HTE.out (show _ = some ((n : Int) / 72057594037927936 : Int) from congrArg some (show ((n / 72057594037927936 % 256 : Nat) : Int) = (n : Int) / 72057594037927936 by omega)))
        have htl2 := Aside0.mk (show (t2 ++ [((n : Int) / 72057594037927936 : Int)]).length = 1 by rw [List.length_append, htl.out]; rfl)
        have hts : (t2 ++ [((n : Int) / 72057594037927936 : Int)]).length = t2.length + 1 := by simp
        generalize t2 ++ [((n : Int) / 72057594037927936 : Int)] = t3 at *
        obtain ⟨A6, c6, rfl, hc6, hr6⟩ := Kd.R_reads HO2.out
        clear hr6
        go_roundw
        case rel => exact ⟨1, t3, A6, c6, by omega, htl2, HT2, rfl, rfl, HO2, HB2⟩
        case measure => simp [slLen]; omega
      · rw [show (7 - ((1 : Nat) : Int)) = 6 from rfl]
        clear hlt hq
        go_wp2_with (first | ((with_reducible refine gate_builtin (b := .append) (xs := #[.tmp 9, .tmp 17]) rfl ?_); at_builtin; refine Kd.R_append_rows B (w0 := w) w.heap.size rfl (.tmp 9) (.tmp 17) 22 5 (.int .u8 0) 1 rfl Tryd.underlying22 info5 rfl (by decide) (by omega) _ (t2) ([_]) _ _ _ (fun _ => True) (fun _ => False) rfl rfl (by (with_reducible repeat (first | apply Kd.R_alloc | apply Kd.R_drewN | apply Kd.R_drew)); exact HO.out) (C_one wr _ _) (fun _ _ h => h) (fun _ h => h.elim) (fun _ _ => trivial) (HB.out.alloc HB.out.size _) (HB.out.alloc HB.out.size _).size ?aL ?_; (case aL => simp; omega); intro v2 w6 ho hb2 hg hat; have HO2 := Aside0.mk ho; have HB2 := Aside0.mk hb2; clear ho hb2 hg hat))
        have HT2 := Aside0.mk (be8_step HTE.out (show _ = some ((n : Int) / 281474976710656 % 256 : Int) from congrArg some (show ((n / 281474976710656 % 256 : Nat) : Int) = (n : Int) / 281474976710656 % 256 by omega)))
        have htl2 := Aside0.mk (show (t2 ++ [((n : Int) / 281474976710656 % 256 : Int)]).length = 2 by rw [List.length_append, htl.out]; rfl)
        have hts : (t2 ++ [((n : Int) / 281474976710656 % 256 : Int)]).length = t2.length + 1 := by simp
        generalize t2 ++ [((n : Int) / 281474976710656 % 256 : Int)] = t3 at *
        obtain ⟨A6, c6, rfl, hc6, hr6⟩ := Kd.R_reads HO2.out
        clear hr6
        go_roundw
        case rel => exact ⟨2, t3, A6, c6, by omega, htl2, HT2, rfl, rfl, HO2, HB2⟩
        case measure => simp [slLen]; omega
      · rw [show (7 - ((2 : Nat) : Int)) = 5 from rfl]
        clear hlt hq
        go_wp2_with (first | ((with_reducible refine gate_builtin (b := .append) (xs := #[.tmp 9, .tmp 17]) rfl ?_); at_builtin; refine Kd.R_append_rows B (w0 := w) w.heap.size rfl (.tmp 9) (.tmp 17) 22 5 (.int .u8 0) 1 rfl Tryd.underlying22 info5 rfl (by decide) (by omega) _ (t2) ([_]) _ _ _ (fun _ => True) (fun _ => False) rfl rfl (by (with_reducible repeat (first | apply Kd.R_alloc | apply Kd.R_drewN | apply Kd.R_drew)); exact HO.out) (C_one wr _ _) (fun _ _ h => h) (fun _ h => h.elim) (fun _ _ => trivial) (HB.out.alloc HB.out.size _) (HB.out.alloc HB.out.size _).size ?aL ?_; (case aL => simp; omega); intro v2 w6 ho hb2 hg hat; have HO2 := Aside0.mk ho; have HB2 := Aside0.mk hb2; clear ho hb2 hg hat))
        have HT2 := Aside0.mk (be8_step HTE.out (show _ = some ((n : Int) / 1099511627776 % 256 : Int) from congrArg some (show ((n / 1099511627776 % 256 : Nat) : Int) = (n : Int) / 1099511627776 % 256 by omega)))
        have htl2 := Aside0.mk (show (t2 ++ [((n : Int) / 1099511627776 % 256 : Int)]).length = 3 by rw [List.length_append, htl.out]; rfl)
        have hts : (t2 ++ [((n : Int) / 1099511627776 % 256 : Int)]).length = t2.length + 1 := by simp
        generalize t2 ++ [((n : Int) / 1099511627776 % 256 : Int)] = t3 at *
        obtain ⟨A6, c6, rfl, hc6, hr6⟩ := Kd.R_reads HO2.out
        clear hr6
        go_roundw
        case rel => exact ⟨3, t3, A6, c6, by omega, htl2, HT2, rfl, rfl, HO2, HB2⟩
        case measure => simp [slLen]; omega
      · rw [show (7 - ((3 : Nat) : Int)) = 4 from rfl]
        clear hlt hq
        go_wp2_with (first | ((with_reducible refine gate_builtin (b := .append) (xs := #[.tmp 9, .tmp 17]) rfl ?_); at_builtin; refine Kd.R_append_rows B (w0 := w) w.heap.size rfl (.tmp 9) (.tmp 17) 22 5 (.int .u8 0) 1 rfl Tryd.underlying22 info5 rfl (by decide) (by omega) _ (t2) ([_]) _ _ _ (fun _ => True) (fun _ => False) rfl rfl (by (with_reducible repeat (first | apply Kd.R_alloc | apply Kd.R_drewN | apply Kd.R_drew)); exact HO.out) (C_one wr _ _) (fun _ _ h => h) (fun _ h => h.elim) (fun _ _ => trivial) (HB.out.alloc HB.out.size _) (HB.out.alloc HB.out.size _).size ?aL ?_; (case aL => simp; omega); intro v2 w6 ho hb2 hg hat; have HO2 := Aside0.mk ho; have HB2 := Aside0.mk hb2; clear ho hb2 hg hat))
        have HT2 := Aside0.mk (be8_step HTE.out (show _ = some ((n : Int) / 4294967296 % 256 : Int) from congrArg some (show ((n / 4294967296 % 256 : Nat) : Int) = (n : Int) / 4294967296 % 256 by omega)))
        have htl2 := Aside0.mk (show (t2 ++ [((n : Int) / 4294967296 % 256 : Int)]).length = 4 by rw [List.length_append, htl.out]; rfl)
        have hts : (t2 ++ [((n : Int) / 4294967296 % 256 : Int)]).length = t2.length + 1 := by simp
        generalize t2 ++ [((n : Int) / 4294967296 % 256 : Int)] = t3 at *
        obtain ⟨A6, c6, rfl, hc6, hr6⟩ := Kd.R_reads HO2.out
        clear hr6
        go_roundw
        case rel => exact ⟨4, t3, A6, c6, by omega, htl2, HT2, rfl, rfl, HO2, HB2⟩
        case measure => simp [slLen]; omega
      · rw [show (7 - ((4 : Nat) : Int)) = 3 from rfl]
        clear hlt hq
        go_wp2_with (first | ((with_reducible refine gate_builtin (b := .append) (xs := #[.tmp 9, .tmp 17]) rfl ?_); at_builtin; refine Kd.R_append_rows B (w0 := w) w.heap.size rfl (.tmp 9) (.tmp 17) 22 5 (.int .u8 0) 1 rfl Tryd.underlying22 info5 rfl (by decide) (by omega) _ (t2) ([_]) _ _ _ (fun _ => True) (fun _ => False) rfl rfl (by (with_reducible repeat (first | apply Kd.R_alloc | apply Kd.R_drewN | apply Kd.R_drew)); exact HO.out) (C_one wr _ _) (fun _ _ h => h) (fun _ h => h.elim) (fun _ _ => trivial) (HB.out.alloc HB.out.size _) (HB.out.alloc HB.out.size _).size ?aL ?_; (case aL => simp; omega); intro v2 w6 ho hb2 hg hat; have HO2 := Aside0.mk ho; have HB2 := Aside0.mk hb2; clear ho hb2 hg hat))
        have HT2 := Aside0.mk (be8_step HTE.out (show _ = some ((n : Int) / 16777216 % 256 : Int) from congrArg some (show ((n / 16777216 % 256 : Nat) : Int) = (n : Int) / 16777216 % 256 by omega)))
        have htl2 := Aside0.mk (show (t2 ++ [((n : Int) / 16777216 % 256 : Int)]).length = 5 by rw [List.length_append, htl.out]; rfl)
        have hts : (t2 ++ [((n : Int) / 16777216 % 256 : Int)]).length = t2.length + 1 := by simp
        generalize t2 ++ [((n : Int) / 16777216 % 256 : Int)] = t3 at *
        obtain ⟨A6, c6, rfl, hc6, hr6⟩ := Kd.R_reads HO2.out
        clear hr6
        go_roundw
        case rel => exact ⟨5, t3, A6, c6, by omega, htl2, HT2, rfl, rfl, HO2, HB2⟩
        case measure => simp [slLen]; omega
      · rw [show (7 - ((5 : Nat) : Int)) = 2 from rfl]
        clear hlt hq
        go_wp2_with (first | ((with_reducible refine gate_builtin (b := .append) (xs := #[.tmp 9, .tmp 17]) rfl ?_); at_builtin; refine Kd.R_append_rows B (w0 := w) w.heap.size rfl (.tmp 9) (.tmp 17) 22 5 (.int .u8 0) 1 rfl Tryd.underlying22 info5 rfl (by decide) (by omega) _ (t2) ([_]) _ _ _ (fun _ => True) (fun _ => False) rfl rfl (by (with_reducible repeat (first | apply Kd.R_alloc | apply Kd.R_drewN | apply Kd.R_drew)); exact HO.out) (C_one wr _ _) (fun _ _ h => h) (fun _ h => h.elim) (fun _ _ => trivial) (HB.out.alloc HB.out.size _) (HB.out.alloc HB.out.size _).size ?aL ?_; (case aL => simp; omega); intro v2 w6 ho hb2 hg hat; have HO2 := Aside0.mk ho; have HB2 := Aside0.mk hb2; clear ho hb2 hg hat))
        have HT2 := Aside0.mk (be8_step HTE.out (show _ = some ((n : Int) / 65536 % 256 : Int) from congrArg some (show ((n / 65536 % 256 : Nat) : Int) = (n : Int) / 65536 % 256 by omega)))
        have htl2 := Aside0.mk (show (t2 ++ [((n : Int) / 65536 % 256 : Int)]).length = 6 by rw [List.length_append, htl.out]; rfl)
        have hts : (t2 ++ [((n : Int) / 65536 % 256 : Int)]).length = t2.length + 1 := by simp
        generalize t2 ++ [((n : Int) / 65536 % 256 : Int)] = t3 at *
        obtain ⟨A6, c6, rfl, hc6, hr6⟩ := Kd.R_reads HO2.out
        clear hr6
        go_roundw
        case rel => exact ⟨6, t3, A6, c6, by omega, htl2, HT2, rfl, rfl, HO2, HB2⟩
        case measure => simp [slLen]; omega
      · rw [show (7 - ((6 : Nat) : Int)) = 1 from rfl]
        clear hlt hq
        go_wp2_with (first | ((with_reducible refine gate_builtin (b := .append) (xs := #[.tmp 9, .tmp 17]) rfl ?_); at_builtin; refine Kd.R_append_rows B (w0 := w) w.heap.size rfl (.tmp 9) (.tmp 17) 22 5 (.int .u8 0) 1 rfl Tryd.underlying22 info5 rfl (by decide) (by omega) _ (t2) ([_]) _ _ _ (fun _ => True) (fun _ => False) rfl rfl (by (with_reducible repeat (first | apply Kd.R_alloc | apply Kd.R_drewN | apply Kd.R_drew)); exact HO.out) (C_one wr _ _) (fun _ _ h => h) (fun _ h => h.elim) (fun _ _ => trivial) (HB.out.alloc HB.out.size _) (HB.out.alloc HB.out.size _).size ?aL ?_; (case aL => simp; omega); intro v2 w6 ho hb2 hg hat; have HO2 := Aside0.mk ho; have HB2 := Aside0.mk hb2; clear ho hb2 hg hat))
        have HT2 := Aside0.mk (be8_step HTE.out (show _ = some ((n : Int) / 256 % 256 : Int) from congrArg some (show ((n / 256 % 256 : Nat) : Int) = (n : Int) / 256 % 256 by omega)))
        have htl2 := Aside0.mk (show (t2 ++ [((n : Int) / 256 % 256 : Int)]).length = 7 by rw [List.length_append, htl.out]; rfl)
        have hts : (t2 ++ [((n : Int) / 256 % 256 : Int)]).length = t2.length + 1 := by simp
        generalize t2 ++ [((n : Int) / 256 % 256 : Int)] = t3 at *
        obtain ⟨A6, c6, rfl, hc6, hr6⟩ := Kd.R_reads HO2.out
        clear hr6
        go_roundw
        case rel => exact ⟨7, t3, A6, c6, by omega, htl2, HT2, rfl, rfl, HO2, HB2⟩
        case measure => simp [slLen]; omega
      · rw [show (7 - ((7 : Nat) : Int)) = 0 from rfl]
        clear hlt hq
        go_wp2_with (first | ((with_reducible refine gate_builtin (b := .append) (xs := #[.tmp 9, .tmp 17]) rfl ?_); at_builtin; refine Kd.R_append_rows B (w0 := w) w.heap.size rfl (.tmp 9) (.tmp 17) 22 5 (.int .u8 0) 1 rfl Tryd.underlying22 info5 rfl (by decide) (by omega) _ (t2) ([_]) _ _ _ (fun _ => True) (fun _ => False) rfl rfl (by (with_reducible repeat (first | apply Kd.R_alloc | apply Kd.R_drewN | apply Kd.R_drew)); exact HO.out) (C_one wr _ _) (fun _ _ h => h) (fun _ h => h.elim) (fun _ _ => trivial) (HB.out.alloc HB.out.size _) (HB.out.alloc HB.out.size _).size ?aL ?_; (case aL => simp; omega); intro v2 w6 ho hb2 hg hat; have HO2 := Aside0.mk ho; have HB2 := Aside0.mk hb2; clear ho hb2 hg hat))
        have HT2 := Aside0.mk (be8_step HTE.out (show _ = some ((n : Int) % 256 : Int) from congrArg some (show ((n % 256 : Nat) : Int) = (n : Int) % 256 by omega)))
        have htl2 := Aside0.mk (show (t2 ++ [((n : Int) % 256 : Int)]).length = 8 by rw [List.length_append, htl.out]; rfl)
        have hts : (t2 ++ [((n : Int) % 256 : Int)]).length = t2.length + 1 := by simp
        generalize t2 ++ [((n : Int) % 256 : Int)] = t3 at *
        obtain ⟨A6, c6, rfl, hc6, hr6⟩ := Kd.R_reads HO2.out
        clear hr6
        go_roundw
        case rel => exact ⟨8, t3, A6, c6, by omega, htl2, HT2, rfl, rfl, HO2, HB2⟩
        case measure => simp [slLen]; omega
    · obtain rfl : q = 8 := by omega
      rw [show (7 - ((8 : Nat) : Int)) = -1 from rfl]
      have HT := Aside0.mk (show t2 = be8 n by rw [HTE.out]; rfl)
      go_wp2
      go_ret
      exact ⟨_, rfl, by rw [← HT.out]; exact HO.out, HB.out⟩
end Go.Proofs.YtllcofllnjgkcaaDoor.Ref
