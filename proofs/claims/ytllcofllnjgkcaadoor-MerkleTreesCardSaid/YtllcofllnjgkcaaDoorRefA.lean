/- What calls of Go functions of this seat come to, as the rows need it: under the conditions that each theorem names. -/
import Derived.Test.YtllcofllnjgkcaaDoorMkI
namespace Go.Proofs.YtllcofllnjgkcaaDoor.Ref
open Go.RowKit Go.Proofs.YtllcofllnjgkcaaDoorW.PrintWords Go.Proofs.YtllcofllnjgkcaaDoorW.PrintLast Go.Proofs.YtllcofllnjgkcaaDoorW.PrintMore
set_option linter.unusedVariables false
set_option linter.unusedSimpArgs false
open Go.Proofs.YtllcofllnjgkcaaDoor.Sha
def isPb (n : Nat) : Bool := decide (1 < n) && !((List.range n).any fun j => decide (2 ≤ j) && decide (j * j ≤ n) && (n % j == 0))
theorem isPb_no {n k : Nat} (hk : 2 ≤ k) (hkk : k * k ≤ n) (h : n % k = 0) : isPb n = false := by
  have hlt : k < n := by
    have : k * 2 ≤ k * k := Nat.mul_le_mul_left k hk
    omega
  have ha : ((List.range n).any fun j => decide (2 ≤ j) && decide (j * j ≤ n) && (n % j == 0)) = true := by
    rw [List.any_eq_true]
    exact ⟨k, List.mem_range.2 hlt, by simp [hk, hkk, h]⟩
  unfold isPb
  rw [ha]
  simp
theorem isPb_yes {n k : Nat} (hkk : n < k * k) (h : ∀ j, 2 ≤ j → j < k → n % j ≠ 0) : isPb n = decide (1 < n) := by
  have ha : ((List.range n).any fun j => decide (2 ≤ j) && decide (j * j ≤ n) && (n % j == 0)) = false := by
    rw [List.any_eq_false]
    intro j _
    simp only [Bool.and_eq_true, decide_eq_true_eq, beq_iff_eq, not_and]
    intro h1 h2
    refine h j h1.1 ?_ h2
    rcases Nat.lt_or_ge j k with h3 | h3
    · exact h3
    · have := Nat.mul_le_mul h3 h3
      omega
  unfold isPb
  rw [ha]
  simp
set_option maxHeartbeats 800000 in
theorem prime_calls (n : Nat) (w : World) (hn : n ≤ 400) : Calls Tryd.prog 46 #[.int .i64 n] w fun e w' => e = .returned (.bool (isPb n)) ∧ w' = w := by
  go_enter Tryd.func46, Tryd.ntmps46
  go_wp2
  go_loop [3] (fun v => ∃ k : Nat, v = .int .i64 (k : Int) ∧ 2 ≤ k ∧ k ≤ 21 ∧ Aside0 (∀ j, 2 ≤ j → j < k → n % j ≠ 0)) (fun v => 22 - (intOf v).toNat)
  case atStart => exact ⟨2, rfl, by omega, by omega, ⟨fun j h1 h2 => by omega⟩⟩
  case round =>
    obtain ⟨k, rfl, hk2, hk21, HJ⟩ := hrel
    obtain ⟨m, hm⟩ : ∃ m, m = k * k := ⟨_, rfl⟩
    have hm2 : (k : Int) * (k : Int) = (m : Int) := by rw [hm]; simp
    have hm3 : m ≤ 441 := by rw [hm]; exact Nat.mul_le_mul hk21 hk21
    have HM := Aside0.mk hm
    clear hm
    have hk0 : ¬ ((k : Int) = 0) := by omega
    by_cases hlt : m ≤ n
    · have hk20 : k ≤ 20 := by
        rcases Nat.lt_or_ge 20 k with h | h
        · have : k = 21 := by omega
          subst this
          have := HM.out
          omega
        · exact h
      by_cases hr : n % k = 0
      · have HP := Aside0.mk (isPb_no hk2 (by rw [← HM.out]; exact hlt) hr)
        have hr2 : (n : Int) % (k : Int) = 0 := by exact_mod_cast hr
        go_wp2
        go_ret
        exact ⟨by rw [HP.out]; rfl, rfl⟩
      · have hr2 : ((n : Int) % (k : Int) == 0) = false := by rw [beq_eq_false_iff_ne]; exact_mod_cast hr
        have HJ2 := Aside0.mk (show ∀ j, 2 ≤ j → j < k + 1 → n % j ≠ 0 from fun j h1 h2 => by
          rcases Nat.lt_or_ge j k with h | h
          · exact HJ.out j h1 h
          · obtain rfl : j = k := by omega
            exact hr)
        go_wp2
        go_round
        case rel => exact ⟨k + 1, by go_num, by omega, by omega, HJ2⟩
        case measure => simp [intOf]; omega
    · have HP := Aside0.mk (isPb_yes (n := n) (k := k) (by rw [← HM.out]; omega) HJ.out)
      have e1 : decide ((n : Int) > 1) = decide (1 < n) := by rw [decide_eq_decide]; omega
      go_wp2
      go_ret
      exact ⟨by rw [HP.out]; first | rfl | (congr 1; simp), rfl⟩
theorem C_oneI (w : World) (x : Int) (t : TypeId) : (Kd.int .i64).C (w.alloc (.cells #[.int .i64 x] t)) (some ⟨w.heap.size, 0, none⟩) 1 [x] :=
  C_block .i64 (Sha.heap_new _ _) [x] (fun j y hj => by
    rcases j with _ | j
    · obtain rfl : x = y := by simpa using hj
      rfl
    · simp at hj) (by simp)
/-- The primes below a number. -/
def pb (n : Nat) : List Int := ((List.range n).filter isPb).map Int.ofNat
theorem pb_succ (n : Nat) : pb (n + 1) = if isPb n then pb n ++ [(n : Int)] else pb n := by
  unfold pb
  rw [List.range_succ, List.filter_append]
  cases h : isPb n <;> simp [List.filter, h]
theorem pb_pre {n m : Nat} (h : n ≤ m) : pb n <+: pb m := by
  induction m with
  | zero => obtain rfl : n = 0 := by omega
            exact List.prefix_rfl
  | succ m ih =>
    rcases Nat.lt_or_ge m n with h1 | h1
    · obtain rfl : n = m + 1 := by omega
      exact List.prefix_rfl
    · refine (ih h1).trans ?_
      rw [pb_succ]
      split
      · exact List.prefix_append _ _
      · exact List.prefix_rfl
/-- The first 64 primes. -/
def P64 : List Int := [2, 3, 5, 7, 11, 13, 17, 19, 23, 29, 31, 37, 41, 43, 47, 53, 59, 61, 67, 71, 73, 79, 83, 89, 97, 101, 103, 107, 109, 113, 127, 131, 137, 139, 149, 151, 157, 163, 167, 173, 179, 181, 191, 193, 197, 199, 211, 223, 227, 229, 233, 239, 241, 251, 257, 263, 269, 271, 277, 281, 283, 293, 307, 311]
set_option maxRecDepth 100000 in
theorem pb_end : pb 312 = P64 := by decide +kernel
theorem P64_len : P64.length = 64 := rfl
theorem pb_len {n : Nat} (h : n ≤ 312) : (pb n).length ≤ 64 := by
  have := (pb_pre h).length_le
  rw [pb_end, P64_len] at this
  exact this
theorem pb_full {n : Nat} (h : n ≤ 312) (hl : 64 ≤ (pb n).length) : pb n = P64 := by
  have h1 := pb_len h
  rw [← pb_end]
  exact (pb_pre h).eq_of_length (by rw [pb_end, P64_len]; omega)
theorem pb_more {n : Nat} (h : n ≤ 312) (hl : (pb n).length < 64) : n < 312 := by
  rcases Nat.lt_or_ge n 312 with h1 | h1
  · exact h1
  · obtain rfl : n = 312 := by omega
    rw [pb_end, P64_len] at hl
    omega
abbrev KI := Kd.int .i64
theorem infoI : (Tryd.prog.info? 3).map (fun i => (i.zero, i.size, i.bytes)) = some (some (.int .i64 0), 1, 8) := by kernel_rfl
set_option maxHeartbeats 1600000 in
set_option maxRecDepth 100000 in
theorem primes_calls (w : World) : Calls Tryd.prog 38 #[.int .i64 64] w fun e w' => ∃ v, e = .returned v ∧ Kd.R KI 3 w' w.heap.size (fun _ => True) v P64 ∧ Below w.heap.size w w' := by
  go_enter Tryd.func38, Tryd.ntmps38
  go_wp2
  go_loopw [3, 4] (fun v i wr => ∃ (n : Nat) (t : List Int) (A : Option Addr) (c : Nat), n ≤ 312 ∧ Aside0 (t = pb n) ∧ i = .int .i64 (n : Int) ∧ v = .slice A t.length c ∧ Aside0 (Kd.R KI 3 wr w.heap.size (fun _ => True) (.slice A t.length c) t) ∧ Aside0 (Below w.heap.size w wr)) (fun _ i _ => 312 - (intOf i).toNat)
  case atStart => exact ⟨2, [], none, 0, by omega, ⟨rfl⟩, rfl, rfl, ⟨Kd.R_nil _ _ _ _ _⟩, ⟨Below.refl _ _⟩⟩
  case round =>
    obtain ⟨n, t, A, c, hn, HT, rfl, rfl, HO, HB⟩ := hrel
    have hl64 : t.length ≤ 64 := by rw [HT.out]; exact pb_len hn
    by_cases hlt : t.length < 64
    · have hn1 := pb_more hn (by rw [← HT.out]; exact hlt)
      have HS := Aside0.mk (pb_succ n)
      have HP := Aside0.mk (fun w => prime_calls n w (by omega))
      generalize isPb n = b at HS HP
      cases b with
      | true =>
        have HS2 := Aside0.mk (show t ++ [(n : Int)] = pb (n + 1) by rw [HS.out, HT.out]; rfl)
        go_wp2_with fail
        refine (HP.out _).mono ?_
        rintro e w1 ⟨rfl, hw⟩
        replace hw := hw.symm
        subst hw
        go_wp2_with (first | ((with_reducible refine gate_builtin (b := .append) (xs := #[.tmp 13, .tmp 15]) rfl ?_); at_builtin; refine Kd.R_append_rows KI (w0 := w) w.heap.size rfl (.tmp 13) (.tmp 15) 67 3 (.int .i64 0) 8 rfl Tryd.underlying67 infoI rfl (by decide) (by omega) _ t [(n : Int)] _ _ _ (fun _ => True) (fun _ => False) rfl rfl (by (with_reducible repeat (first | apply Kd.R_alloc | apply Kd.R_drewN | apply Kd.R_drew)); exact HO.out) (C_oneI _ _ _) (fun _ _ h => h) (fun _ h => h.elim) (fun _ _ => trivial) (HB.out.alloc HB.out.size _) (HB.out.alloc HB.out.size _).size ?aL ?_; (case aL => omega); intro v2 w6 ho hb2 _ _; have HO2 := Aside0.mk ho; have HB2 := Aside0.mk hb2; clear ho hb2))
        generalize t ++ [(n : Int)] = t2 at *
        obtain ⟨A2, c2, rfl, _, _⟩ := Kd.R_reads HO2.out
        go_roundw
        case rel => exact ⟨n + 1, t2, A2, c2, by omega, HS2, by go_num, rfl, HO2, HB2⟩
        case measure => simp [intOf]; omega
      | false =>
        have HS2 := Aside0.mk (show t = pb (n + 1) by rw [HS.out, HT.out]; rfl)
        go_wp2_with fail
        refine (HP.out _).mono ?_
        rintro e w1 ⟨rfl, hw⟩
        replace hw := hw.symm
        subst hw
        go_wp2
        go_roundw
        case rel => exact ⟨n + 1, t, A, c, by omega, HS2, by go_num, rfl, HO, HB⟩
        case measure => simp [intOf]; omega
    · have HE := Aside0.mk (show t = P64 by rw [HT.out]; exact pb_full hn (by rw [← HT.out]; omega))
      go_wp2
      go_ret
      exact ⟨_, rfl, by rw [← HE.out]; exact HO.out, HB.out⟩
end Go.Proofs.YtllcofllnjgkcaaDoor.Ref
