/- What calls of Go functions of this seat come to, as the rows need it: under the conditions that each theorem names. -/
import Derived.Test.YtllcofllnjgkcaaDoorRefF
namespace Go.Proofs.YtllcofllnjgkcaaDoor.Ref
open Go.RowKit Go.Proofs.YtllcofllnjgkcaaDoorW.PrintWords Go.Proofs.YtllcofllnjgkcaaDoorW.PrintLast Go.Proofs.YtllcofllnjgkcaaDoorW.PrintMore
set_option linter.unusedVariables false
set_option linter.unusedSimpArgs false
open Go.Proofs.YtllcofllnjgkcaaDoor.Sha
set_option maxHeartbeats 800000 in
theorem turn_calls (x : Int) (n : Nat) (h0 : 0 < n) (h1 : n < 32) (w : World) : Calls Tryd.prog 53 #[.int .u32 x, .int .u64 (n : Int)] w fun e w' => e = .returned (.int .u32 (turnI x n)) ∧ w' = w := by
  obtain ⟨m, hm⟩ : ∃ m, m = 32 - n := ⟨_, rfl⟩
  have hmi : 32 - (n : Int) = (m : Int) := by omega
  have hm1 : m ≤ 32 := by omega
  have HM := Aside0.mk hm
  clear hm
  go_enter Tryd.func53, Tryd.ntmps53
  go_wp2
  go_ret
  exact ⟨by unfold turnI; rw [← HM.out]; rfl, rfl⟩
/-- The padded text. -/
def padL (l : List Int) : List Int := l ++ [128] ++ List.replicate (zerosN l.length) 0 ++ be8 (l.length * 8)
theorem padL_bytes {l : List Int} (h : Sha.bytes l) : Sha.bytes (padL l) := by
  unfold padL
  refine bytes_app (bytes_app (bytes_app h ?_) (bytes_rep _)) (be8_bytes _)
  intro x hx
  simp only [List.mem_cons, List.not_mem_nil, or_false] at hx
  omega
theorem padL_len (l : List Int) : (padL l).length = l.length + 1 + zerosN l.length + 8 := by simp [padL, be8]; omega
theorem padL_mod (l : List Int) : (padL l).length % 64 = 0 := by rw [padL_len]; unfold zerosN; omega
set_option maxHeartbeats 1600000 in
set_option maxRecDepth 100000 in
theorem padded_calls (A : Option Addr) (c : Nat) (l : List Int) (w : World) (hr : B.C w A l.length l) (hc : l.length ≤ c) (hl : l.length < 100000000) :
    Calls Tryd.prog 50 #[.slice A l.length c] w fun e w' => ∃ v, e = .returned v ∧ Kd.R B 5 w' w.heap.size (fun _ => True) v (padL l) ∧ Below w.heap.size w w' := by
  have HR := Aside0.mk hr
  clear hr
  go_enter Tryd.func50, Tryd.ntmps50
  go_wp2_with (first | ((with_reducible refine gate_dst (N := 6) rfl ?_); refine Kd.R_lit B (w0 := w) w.heap.size 5 ?hg (N := 6) ?hd (xs := ([] : List Int)) (inner := []) (ok := fun _ => True) (okp := fun _ => True) ?hr ?hp (fun _ hk => hk) trivial (Below.refl _ _) (Nat.le_refl _) (by simp) ?_; (case hd => rfl); (case hg => rfl); (case hr => first | (go_simp; done) | (go_simp; rfl)); (case hp => exact Reps.none _ _); intro v1 w2 ho hb1 hg hnew; have HO := Aside0.mk ho; have HB := Aside0.mk hb1; clear ho hb1 hg hnew) | ((with_reducible refine gate_builtin (b := .append) (xs := #[.tmp 6, .tmp 7]) rfl ?_); at_builtin; refine Kd.R_append_rows B (w0 := w) w.heap.size rfl (.tmp 6) (.tmp 7) 22 5 (.int .u8 0) 1 rfl Tryd.underlying22 info5 rfl (by decide) (by omega) _ ([]) (l) _ _ _ (fun _ => True) (fun _ => False) rfl rfl HO.out (Kd.C_below HR.out HB.out) (fun _ _ h => h) (fun _ h => h.elim) (fun _ _ => trivial) HB.out HB.out.size ?aL ?_; (case aL => simp; omega); intro v2 w3 ho hb2 hg hat; rw [List.nil_append] at ho; obtain ⟨A2, c2, rfl, hc2, hr2⟩ := Kd.R_reads ho; have HO2 := Aside0.mk ho; have HB2 := Aside0.mk hb2; clear ho hb2 hg hat hr2) | ((with_reducible refine gate_builtin (b := .append) (xs := #[.tmp 9, .tmp 10]) rfl ?_); at_builtin; refine Kd.R_append_rows B (w0 := w) w.heap.size rfl (.tmp 9) (.tmp 10) 22 5 (.int .u8 0) 1 rfl Tryd.underlying22 info5 rfl (by decide) (by omega) _ (l) ([128]) _ _ _ (fun _ => True) (fun _ => False) rfl rfl (by (with_reducible repeat (first | apply Kd.R_alloc | apply Kd.R_drewN | apply Kd.R_drew)); exact HO2.out) (C_one w3 128 _) (fun _ _ h => h) (fun _ h => h.elim) (fun _ _ => trivial) (HB2.out.alloc HB2.out.size _) (HB2.out.alloc HB2.out.size _).size ?aL ?_; (case aL => simp; omega); intro v3 w4 ho hb2 hg hat; have HO3 := Aside0.mk ho; have HB3 := Aside0.mk hb2; clear ho hb2 hg hat))
  clear HO HO2 HB HB2
  obtain ⟨A5, c5, rfl, hc5, hr5⟩ := Kd.R_reads HO3.out
  clear hr5
  have HZ := Aside0.mk (show ∀ j, j < zerosN l.length → (l.length + 1 + j) % 64 ≠ 56 by intro j hj; unfold zerosN at hj; omega)
  have HZE := Aside0.mk (show (l.length + 1 + zerosN l.length) % 64 = 56 ∧ zerosN l.length < 64 by unfold zerosN; omega)
  have HP := Aside0.mk (show padL l = l ++ [128] ++ List.replicate (zerosN l.length) 0 ++ be8 (l.length * 8) from rfl)
  generalize zerosN l.length = Z at HZ HZE HP
  have ht0 := Aside0.mk (show (l ++ [128]).length = l.length + 1 by simp)
  generalize l ++ [128] = t0 at *
  go_loopw [3] (fun v wz => ∃ (j : Nat) (t : List Int) (A5 : Option Addr) (c5 : Nat), j ≤ Z ∧ Aside0 (t.length = l.length + 1 + j) ∧ Aside0 (t = t0 ++ List.replicate j 0) ∧ v = .slice A5 t.length c5 ∧ Aside0 (Kd.R B 5 wz w.heap.size (fun _ => True) (.slice A5 t.length c5) t) ∧ Aside0 (Below w.heap.size w wz)) (fun v _ => l.length + 200 - slLen v)
  case atStart => exact ⟨0, t0, A5, c5, Nat.zero_le _, ⟨ht0.out⟩, ⟨by simp⟩, rfl, HO3, HB3⟩
  case round =>
    clear HO3 HB3 ht0
    obtain ⟨j, t, A5, c5, hj, htl, HTE, rfl, HO, HB⟩ := hrel
    have hn63 : t.length ≤ l.length + 100 := by have := htl.out; have := HZE.out.2; omega
    have hl8 : l.length < 100000000 := hl
    by_cases hlt : j < Z
    · have hm := HZ.out j hlt
      rw [← htl.out] at hm
      have e1 : (((t.length : Nat) : Int) % 64 == 56) = false := by simp; omega
      have HT2 := Aside0.mk (show t ++ [0] = t0 ++ List.replicate (j + 1) 0 by rw [HTE.out, List.append_assoc, List.replicate_succ'])
      have htl2 := Aside0.mk (show (t ++ [0]).length = l.length + 1 + (j + 1) by have := htl.out; simp; omega)
      have hts : (t ++ [0]).length = t.length + 1 := by simp
      clear hm
      go_wp2_with (first | ((with_reducible refine gate_builtin (b := .append) (xs := #[.tmp 16, .tmp 17]) rfl ?_); at_builtin; refine Kd.R_append_rows B (w0 := w) w.heap.size rfl (.tmp 16) (.tmp 17) 22 5 (.int .u8 0) 1 rfl Tryd.underlying22 info5 rfl (by decide) (by omega) _ (t) ([0]) _ _ _ (fun _ => True) (fun _ => False) rfl rfl (by (with_reducible repeat (first | apply Kd.R_alloc | apply Kd.R_drewN | apply Kd.R_drew)); exact HO.out) (C_one wr 0 _) (fun _ _ h => h) (fun _ h => h.elim) (fun _ _ => trivial) (HB.out.alloc HB.out.size _) (HB.out.alloc HB.out.size _).size ?aL ?_; (case aL => simp; omega); intro v2 w6 ho hb2 hg hat; have HO2 := Aside0.mk ho; have HB2 := Aside0.mk hb2; clear ho hb2 hg hat))
      generalize t ++ [0] = t2 at *
      obtain ⟨A6, c6, rfl, hc6, hr6⟩ := Kd.R_reads HO2.out
      clear hr6
      go_roundw
      case rel => exact ⟨j + 1, t2, A6, c6, by omega, htl2, HT2, rfl, HO2, HB2⟩
      case measure => simp [slLen]; omega
    · obtain rfl : j = Z := by omega
      have e1 : (((t.length : Nat) : Int) % 64 == 56) = true := by rw [htl.out]; have := HZE.out.1; simp; omega
      have e2 : (((t.length : Nat) : Int) % 64 != 56) = false := by simp only [bne, e1, Bool.not_true]
      replace HP := Aside0.mk (show padL l = t ++ be8 (l.length * 8) by rw [HP.out, HTE.out])
      clear HZ HZE HTE htl hlt hj
      go_wp2
      clear e2
      go_loopw [3, 5] (fun v i wz => ∃ (q : Nat) (t2 : List Int) (A5 : Option Addr) (c5 : Nat), q ≤ 8 ∧ Aside0 (t2.length = t.length + q) ∧ Aside0 (t2 = t ++ (be8 (l.length * 8)).take q) ∧ v = .slice A5 t2.length c5 ∧ i = .int .i64 (7 - (q : Int)) ∧ Aside0 (Kd.R B 5 wz w.heap.size (fun _ => True) (.slice A5 t2.length c5) t2) ∧ Aside0 (Below w.heap.size w wz)) (fun v _ _ => l.length + 200 - slLen v)
      case atStart => exact ⟨0, t, A5, c5, Nat.zero_le _, ⟨rfl⟩, ⟨by simp⟩, rfl, rfl, HO, HB⟩
      case round =>
        clear HO HB e1
        obtain ⟨q, t2, A5, c5, hq, htl, HTE, rfl, rfl, HO, HB⟩ := hrel
        have hn64 : t2.length ≤ l.length + 108 := by have := htl.out; omega
        by_cases hlt : q < 8
        · obtain rfl | rfl | rfl | rfl | rfl | rfl | rfl | rfl : q = 0 ∨ q = 1 ∨ q = 2 ∨ q = 3 ∨ q = 4 ∨ q = 5 ∨ q = 6 ∨ q = 7 := by omega
          · rw [show (7 - ((0 : Nat) : Int)) = 7 from rfl]
            clear hlt hq
            go_wp2_with (first | ((with_reducible refine gate_builtin (b := .append) (xs := #[.tmp 27, .tmp 34]) rfl ?_); at_builtin; refine Kd.R_append_rows B (w0 := w) w.heap.size rfl (.tmp 27) (.tmp 34) 22 5 (.int .u8 0) 1 rfl Tryd.underlying22 info5 rfl (by decide) (by omega) _ (t2) ([_]) _ _ _ (fun _ => True) (fun _ => False) rfl rfl (by (with_reducible repeat (first | apply Kd.R_alloc | apply Kd.R_drewN | apply Kd.R_drew)); exact HO.out) (C_one wr _ _) (fun _ _ h => h) (fun _ h => h.elim) (fun _ _ => trivial) (HB.out.alloc HB.out.size _) (HB.out.alloc HB.out.size _).size ?aL ?_; (case aL => simp; omega); intro v2 w6 ho hb2 hg hat; have HO2 := Aside0.mk ho; have HB2 := Aside0.mk hb2; clear ho hb2 hg hat))
            have HT2 := Aside0.mk (be8_step HTE.out (show _ = some ((l.length : Int) * 8 / 72057594037927936 : Int) from congrArg some (show ((l.length * 8 / 72057594037927936 % 256 : Nat) : Int) = (l.length : Int) * 8 / 72057594037927936 by omega)))
            have htl2 := Aside0.mk (show (t2 ++ [((l.length : Int) * 8 / 72057594037927936 : Int)]).length = t.length + 1 by have := htl.out; simp; omega)
            have hts : (t2 ++ [((l.length : Int) * 8 / 72057594037927936 : Int)]).length = t2.length + 1 := by simp
            generalize t2 ++ [((l.length : Int) * 8 / 72057594037927936 : Int)] = t3 at *
            obtain ⟨A6, c6, rfl, hc6, hr6⟩ := Kd.R_reads HO2.out
            clear hr6
            go_roundw
            case rel => exact ⟨1, t3, A6, c6, by omega, htl2, HT2, rfl, rfl, HO2, HB2⟩
            case measure => simp [slLen]; omega
          · rw [show (7 - ((1 : Nat) : Int)) = 6 from rfl]
            clear hlt hq
            go_wp2_with (first | ((with_reducible refine gate_builtin (b := .append) (xs := #[.tmp 27, .tmp 34]) rfl ?_); at_builtin; refine Kd.R_append_rows B (w0 := w) w.heap.size rfl (.tmp 27) (.tmp 34) 22 5 (.int .u8 0) 1 rfl Tryd.underlying22 info5 rfl (by decide) (by omega) _ (t2) ([_]) _ _ _ (fun _ => True) (fun _ => False) rfl rfl (by (with_reducible repeat (first | apply Kd.R_alloc | apply Kd.R_drewN | apply Kd.R_drew)); exact HO.out) (C_one wr _ _) (fun _ _ h => h) (fun _ h => h.elim) (fun _ _ => trivial) (HB.out.alloc HB.out.size _) (HB.out.alloc HB.out.size _).size ?aL ?_; (case aL => simp; omega); intro v2 w6 ho hb2 hg hat; have HO2 := Aside0.mk ho; have HB2 := Aside0.mk hb2; clear ho hb2 hg hat))
            have HT2 := Aside0.mk (be8_step HTE.out (show _ = some ((l.length : Int) * 8 / 281474976710656 : Int) from congrArg some (show ((l.length * 8 / 281474976710656 % 256 : Nat) : Int) = (l.length : Int) * 8 / 281474976710656 by omega)))
            have htl2 := Aside0.mk (show (t2 ++ [((l.length : Int) * 8 / 281474976710656 : Int)]).length = t.length + 2 by have := htl.out; simp; omega)
            have hts : (t2 ++ [((l.length : Int) * 8 / 281474976710656 : Int)]).length = t2.length + 1 := by simp
            generalize t2 ++ [((l.length : Int) * 8 / 281474976710656 : Int)] = t3 at *
            obtain ⟨A6, c6, rfl, hc6, hr6⟩ := Kd.R_reads HO2.out
            clear hr6
            go_roundw
            case rel => exact ⟨2, t3, A6, c6, by omega, htl2, HT2, rfl, rfl, HO2, HB2⟩
            case measure => simp [slLen]; omega
          · rw [show (7 - ((2 : Nat) : Int)) = 5 from rfl]
            clear hlt hq
            go_wp2_with (first | ((with_reducible refine gate_builtin (b := .append) (xs := #[.tmp 27, .tmp 34]) rfl ?_); at_builtin; refine Kd.R_append_rows B (w0 := w) w.heap.size rfl (.tmp 27) (.tmp 34) 22 5 (.int .u8 0) 1 rfl Tryd.underlying22 info5 rfl (by decide) (by omega) _ (t2) ([_]) _ _ _ (fun _ => True) (fun _ => False) rfl rfl (by (with_reducible repeat (first | apply Kd.R_alloc | apply Kd.R_drewN | apply Kd.R_drew)); exact HO.out) (C_one wr _ _) (fun _ _ h => h) (fun _ h => h.elim) (fun _ _ => trivial) (HB.out.alloc HB.out.size _) (HB.out.alloc HB.out.size _).size ?aL ?_; (case aL => simp; omega); intro v2 w6 ho hb2 hg hat; have HO2 := Aside0.mk ho; have HB2 := Aside0.mk hb2; clear ho hb2 hg hat))
            have HT2 := Aside0.mk (be8_step HTE.out (show _ = some ((l.length : Int) * 8 / 1099511627776 : Int) from congrArg some (show ((l.length * 8 / 1099511627776 % 256 : Nat) : Int) = (l.length : Int) * 8 / 1099511627776 by omega)))
            have htl2 := Aside0.mk (show (t2 ++ [((l.length : Int) * 8 / 1099511627776 : Int)]).length = t.length + 3 by have := htl.out; simp; omega)
            have hts : (t2 ++ [((l.length : Int) * 8 / 1099511627776 : Int)]).length = t2.length + 1 := by simp
            generalize t2 ++ [((l.length : Int) * 8 / 1099511627776 : Int)] = t3 at *
            obtain ⟨A6, c6, rfl, hc6, hr6⟩ := Kd.R_reads HO2.out
            clear hr6
            go_roundw
            case rel => exact ⟨3, t3, A6, c6, by omega, htl2, HT2, rfl, rfl, HO2, HB2⟩
            case measure => simp [slLen]; omega
          · rw [show (7 - ((3 : Nat) : Int)) = 4 from rfl]
            clear hlt hq
            go_wp2_with (first | ((with_reducible refine gate_builtin (b := .append) (xs := #[.tmp 27, .tmp 34]) rfl ?_); at_builtin; refine Kd.R_append_rows B (w0 := w) w.heap.size rfl (.tmp 27) (.tmp 34) 22 5 (.int .u8 0) 1 rfl Tryd.underlying22 info5 rfl (by decide) (by omega) _ (t2) ([_]) _ _ _ (fun _ => True) (fun _ => False) rfl rfl (by (with_reducible repeat (first | apply Kd.R_alloc | apply Kd.R_drewN | apply Kd.R_drew)); exact HO.out) (C_one wr _ _) (fun _ _ h => h) (fun _ h => h.elim) (fun _ _ => trivial) (HB.out.alloc HB.out.size _) (HB.out.alloc HB.out.size _).size ?aL ?_; (case aL => simp; omega); intro v2 w6 ho hb2 hg hat; have HO2 := Aside0.mk ho; have HB2 := Aside0.mk hb2; clear ho hb2 hg hat))
            have HT2 := Aside0.mk (be8_step HTE.out (show _ = some ((l.length : Int) * 8 / 4294967296 : Int) from congrArg some (show ((l.length * 8 / 4294967296 % 256 : Nat) : Int) = (l.length : Int) * 8 / 4294967296 by omega)))
            have htl2 := Aside0.mk (show (t2 ++ [((l.length : Int) * 8 / 4294967296 : Int)]).length = t.length + 4 by have := htl.out; simp; omega)
            have hts : (t2 ++ [((l.length : Int) * 8 / 4294967296 : Int)]).length = t2.length + 1 := by simp
            generalize t2 ++ [((l.length : Int) * 8 / 4294967296 : Int)] = t3 at *
            obtain ⟨A6, c6, rfl, hc6, hr6⟩ := Kd.R_reads HO2.out
            clear hr6
            go_roundw
            case rel => exact ⟨4, t3, A6, c6, by omega, htl2, HT2, rfl, rfl, HO2, HB2⟩
            case measure => simp [slLen]; omega
          · rw [show (7 - ((4 : Nat) : Int)) = 3 from rfl]
            clear hlt hq
            go_wp2_with (first | ((with_reducible refine gate_builtin (b := .append) (xs := #[.tmp 27, .tmp 34]) rfl ?_); at_builtin; refine Kd.R_append_rows B (w0 := w) w.heap.size rfl (.tmp 27) (.tmp 34) 22 5 (.int .u8 0) 1 rfl Tryd.underlying22 info5 rfl (by decide) (by omega) _ (t2) ([_]) _ _ _ (fun _ => True) (fun _ => False) rfl rfl (by (with_reducible repeat (first | apply Kd.R_alloc | apply Kd.R_drewN | apply Kd.R_drew)); exact HO.out) (C_one wr _ _) (fun _ _ h => h) (fun _ h => h.elim) (fun _ _ => trivial) (HB.out.alloc HB.out.size _) (HB.out.alloc HB.out.size _).size ?aL ?_; (case aL => simp; omega); intro v2 w6 ho hb2 hg hat; have HO2 := Aside0.mk ho; have HB2 := Aside0.mk hb2; clear ho hb2 hg hat))
            have HT2 := Aside0.mk (be8_step HTE.out (show _ = some ((l.length : Int) * 8 / 16777216 : Int) from congrArg some (show ((l.length * 8 / 16777216 % 256 : Nat) : Int) = (l.length : Int) * 8 / 16777216 by omega)))
            have htl2 := Aside0.mk (show (t2 ++ [((l.length : Int) * 8 / 16777216 : Int)]).length = t.length + 5 by have := htl.out; simp; omega)
            have hts : (t2 ++ [((l.length : Int) * 8 / 16777216 : Int)]).length = t2.length + 1 := by simp
            generalize t2 ++ [((l.length : Int) * 8 / 16777216 : Int)] = t3 at *
            obtain ⟨A6, c6, rfl, hc6, hr6⟩ := Kd.R_reads HO2.out
            clear hr6
            go_roundw
            case rel => exact ⟨5, t3, A6, c6, by omega, htl2, HT2, rfl, rfl, HO2, HB2⟩
            case measure => simp [slLen]; omega
          · rw [show (7 - ((5 : Nat) : Int)) = 2 from rfl]
            clear hlt hq
            go_wp2_with (first | ((with_reducible refine gate_builtin (b := .append) (xs := #[.tmp 27, .tmp 34]) rfl ?_); at_builtin; refine Kd.R_append_rows B (w0 := w) w.heap.size rfl (.tmp 27) (.tmp 34) 22 5 (.int .u8 0) 1 rfl Tryd.underlying22 info5 rfl (by decide) (by omega) _ (t2) ([_]) _ _ _ (fun _ => True) (fun _ => False) rfl rfl (by (with_reducible repeat (first | apply Kd.R_alloc | apply Kd.R_drewN | apply Kd.R_drew)); exact HO.out) (C_one wr _ _) (fun _ _ h => h) (fun _ h => h.elim) (fun _ _ => trivial) (HB.out.alloc HB.out.size _) (HB.out.alloc HB.out.size _).size ?aL ?_; (case aL => simp; omega); intro v2 w6 ho hb2 hg hat; have HO2 := Aside0.mk ho; have HB2 := Aside0.mk hb2; clear ho hb2 hg hat))
            have HT2 := Aside0.mk (be8_step HTE.out (show _ = some ((l.length : Int) * 8 / 65536 % 256 : Int) from congrArg some (show ((l.length * 8 / 65536 % 256 : Nat) : Int) = (l.length : Int) * 8 / 65536 % 256 by omega)))
            have htl2 := Aside0.mk (show (t2 ++ [((l.length : Int) * 8 / 65536 % 256 : Int)]).length = t.length + 6 by have := htl.out; simp; omega)
            have hts : (t2 ++ [((l.length : Int) * 8 / 65536 % 256 : Int)]).length = t2.length + 1 := by simp
            generalize t2 ++ [((l.length : Int) * 8 / 65536 % 256 : Int)] = t3 at *
            obtain ⟨A6, c6, rfl, hc6, hr6⟩ := Kd.R_reads HO2.out
            clear hr6
            go_roundw
            case rel => exact ⟨6, t3, A6, c6, by omega, htl2, HT2, rfl, rfl, HO2, HB2⟩
            case measure => simp [slLen]; omega
          · rw [show (7 - ((6 : Nat) : Int)) = 1 from rfl]
            clear hlt hq
            go_wp2_with (first | ((with_reducible refine gate_builtin (b := .append) (xs := #[.tmp 27, .tmp 34]) rfl ?_); at_builtin; refine Kd.R_append_rows B (w0 := w) w.heap.size rfl (.tmp 27) (.tmp 34) 22 5 (.int .u8 0) 1 rfl Tryd.underlying22 info5 rfl (by decide) (by omega) _ (t2) ([_]) _ _ _ (fun _ => True) (fun _ => False) rfl rfl (by (with_reducible repeat (first | apply Kd.R_alloc | apply Kd.R_drewN | apply Kd.R_drew)); exact HO.out) (C_one wr _ _) (fun _ _ h => h) (fun _ h => h.elim) (fun _ _ => trivial) (HB.out.alloc HB.out.size _) (HB.out.alloc HB.out.size _).size ?aL ?_; (case aL => simp; omega); intro v2 w6 ho hb2 hg hat; have HO2 := Aside0.mk ho; have HB2 := Aside0.mk hb2; clear ho hb2 hg hat))
            have HT2 := Aside0.mk (be8_step HTE.out (show _ = some ((l.length : Int) * 8 / 256 % 256 : Int) from congrArg some (show ((l.length * 8 / 256 % 256 : Nat) : Int) = (l.length : Int) * 8 / 256 % 256 by omega)))
            have htl2 := Aside0.mk (show (t2 ++ [((l.length : Int) * 8 / 256 % 256 : Int)]).length = t.length + 7 by have := htl.out; simp; omega)
            have hts : (t2 ++ [((l.length : Int) * 8 / 256 % 256 : Int)]).length = t2.length + 1 := by simp
            generalize t2 ++ [((l.length : Int) * 8 / 256 % 256 : Int)] = t3 at *
            obtain ⟨A6, c6, rfl, hc6, hr6⟩ := Kd.R_reads HO2.out
            clear hr6
            go_roundw
            case rel => exact ⟨7, t3, A6, c6, by omega, htl2, HT2, rfl, rfl, HO2, HB2⟩
            case measure => simp [slLen]; omega
          · rw [show (7 - ((7 : Nat) : Int)) = 0 from rfl]
            clear hlt hq
            go_wp2_with (first | ((with_reducible refine gate_builtin (b := .append) (xs := #[.tmp 27, .tmp 34]) rfl ?_); at_builtin; refine Kd.R_append_rows B (w0 := w) w.heap.size rfl (.tmp 27) (.tmp 34) 22 5 (.int .u8 0) 1 rfl Tryd.underlying22 info5 rfl (by decide) (by omega) _ (t2) ([_]) _ _ _ (fun _ => True) (fun _ => False) rfl rfl (by (with_reducible repeat (first | apply Kd.R_alloc | apply Kd.R_drewN | apply Kd.R_drew)); exact HO.out) (C_one wr _ _) (fun _ _ h => h) (fun _ h => h.elim) (fun _ _ => trivial) (HB.out.alloc HB.out.size _) (HB.out.alloc HB.out.size _).size ?aL ?_; (case aL => simp; omega); intro v2 w6 ho hb2 hg hat; have HO2 := Aside0.mk ho; have HB2 := Aside0.mk hb2; clear ho hb2 hg hat))
            have HT2 := Aside0.mk (be8_step HTE.out (show _ = some ((l.length : Int) * 8 % 256 : Int) from congrArg some (show ((l.length * 8 % 256 : Nat) : Int) = (l.length : Int) * 8 % 256 by omega)))
            have htl2 := Aside0.mk (show (t2 ++ [((l.length : Int) * 8 % 256 : Int)]).length = t.length + 8 by have := htl.out; simp; omega)
            have hts : (t2 ++ [((l.length : Int) * 8 % 256 : Int)]).length = t2.length + 1 := by simp
            generalize t2 ++ [((l.length : Int) * 8 % 256 : Int)] = t3 at *
            obtain ⟨A6, c6, rfl, hc6, hr6⟩ := Kd.R_reads HO2.out
            clear hr6
            go_roundw
            case rel => exact ⟨8, t3, A6, c6, by omega, htl2, HT2, rfl, rfl, HO2, HB2⟩
            case measure => simp [slLen]; omega
        · obtain rfl : q = 8 := by omega
          rw [show (7 - ((8 : Nat) : Int)) = -1 from rfl]
          have HT := Aside0.mk (show t2 = padL l by rw [HTE.out, HP.out]; rfl)
          go_wp2
          go_ret
          exact ⟨_, rfl, by rw [← HT.out]; exact HO.out, HB.out⟩
end Go.Proofs.YtllcofllnjgkcaaDoor.Ref
