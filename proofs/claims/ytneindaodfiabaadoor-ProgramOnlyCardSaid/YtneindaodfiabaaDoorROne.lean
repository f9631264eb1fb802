/- What calls of Go functions of this seat come to, as the rows need it: under the conditions that each theorem names. -/
import Derived.Test.YtneindaodfiabaaDoorRPath
import Derived.Test.YtneindaodfiabaaDoorPRead
import Derived.Test.YtneindaodfiabaaDoorWEqStruct
namespace Go.Proofs.YtneindaodfiabaaDoor.Prog6
open Go.RowKit Go.Proofs.YtneindaodfiabaaDoorW.PrintWords Go.Proofs.YtneindaodfiabaaDoorW.PrintLast Go.Proofs.YtneindaodfiabaaDoorW.PrintMore
set_option linter.unusedVariables false
set_option linter.unusedSimpArgs false
def eqIns (x y : Ins) : Bool := (x.1 == y.1) && ((x.2.1.toList == y.2.1.toList) && ((x.2.2.1.toList == y.2.2.1.toList) && ((x.2.2.2.1.toList == y.2.2.2.1.toList) && ((x.2.2.2.2.1 == y.2.2.2.2.1) && (x.2.2.2.2.2 == y.2.2.2.2.2)))))
theorem eqI (x y : Ins) (w : World) : (Op.equalIn 10000 26 (.agg (cI x)) (.agg (cI y))).run Tryd.prog w = .ok (eqIns x y) w := by
  refine eqA_of Tryd.underlying26 (by kernel_rfl) ?_
  refine eqf_cons (a := .int .u8 x.1) (b := .int .u8 y.1) (by rfl) (by go_simp) (by go_simp) (run_equalIn_int _ _ _ _ .u8 _ _ (by kernel_rfl)) ?_
  refine eqf_cons (a := .string x.2.1) (b := .string y.2.1) (by rfl) (by go_simp) (by go_simp) (run_equalIn_string _ _ _ _ _ (by kernel_rfl)) ?_
  refine eqf_cons (a := .string x.2.2.1) (b := .string y.2.2.1) (by rfl) (by go_simp) (by go_simp) (run_equalIn_string _ _ _ _ _ (by kernel_rfl)) ?_
  refine eqf_cons (a := .string x.2.2.2.1) (b := .string y.2.2.2.1) (by rfl) (by go_simp) (by go_simp) (run_equalIn_string _ _ _ _ _ (by kernel_rfl)) ?_
  refine eqf_cons (a := .int .i64 x.2.2.2.2.1) (b := .int .i64 y.2.2.2.2.1) (by rfl) (by go_simp) (by go_simp) (run_equalIn_int _ _ _ _ .i64 _ _ (by kernel_rfl)) ?_
  exact eqf_last (a := .int .i64 x.2.2.2.2.2) (b := .int .i64 y.2.2.2.2.2) (by rfl) (by go_simp) (by go_simp) (run_equalIn_int _ _ _ _ .i64 _ _ (by kernel_rfl))
theorem one_1 (A B C : ByteArray) (N M m : Int) : one (1, A, B, C, N, M) m = (isPath A && (isPath B && (C.toList.isEmpty && ((N == 0) && ((M == 0) && true))))) := by rfl
theorem one_2 (A B C : ByteArray) (N M m : Int) : one (2, A, B, C, N, M) m = (isPath A && (isPath B && (isPath C && ((N == 0) && ((M == 0) && true))))) := by rfl
theorem one_3 (A B C : ByteArray) (N M m : Int) : one (3, A, B, C, N, M) m = (isPath A && (isPath B && (C.toList.isEmpty && ((decide (0 ≤ N) && decide (N ≤ 2000)) && ((decide (0 ≤ M) && decide (M ≤ 2000)) && true))))) := by rfl
theorem one_4 (A B C : ByteArray) (N M m : Int) : one (4, A, B, C, N, M) m = (isPath A && ((decide (B.size ≤ 40) && !B.toList.isEmpty) && (decide (C.size ≤ 40) && ((N == 0) && ((M == 0) && true))))) := by rfl
theorem one_5 (A B C : ByteArray) (N M m : Int) : one (5, A, B, C, N, M) m = (isPath A && (B.toList.isEmpty && (C.toList.isEmpty && ((N == 0) && ((M == 0) && true))))) := by rfl
theorem one_6 (A B C : ByteArray) (N M m : Int) : one (6, A, B, C, N, M) m = (isPath A && (isPath B && (C.toList.isEmpty && ((N == 0) && ((M == 0) && true))))) := by rfl
theorem one_7 (A B C : ByteArray) (N M m : Int) : one (7, A, B, C, N, M) m = (isPath A && (isPath B && (C.toList.isEmpty && ((N == 0) && ((M == 0) && true))))) := by rfl
theorem one_8 (A B C : ByteArray) (N M m : Int) : one (8, A, B, C, N, M) m = (A.toList.isEmpty && (B.toList.isEmpty && (C.toList.isEmpty && ((decide (0 ≤ N) && decide (N ≤ m)) && ((M == 0) && true))))) := by rfl
theorem one_9 (A B C : ByteArray) (N M m : Int) : one (9, A, B, C, N, M) m = (isPath A && (B.toList.isEmpty && (C.toList.isEmpty && ((decide (0 ≤ N) && decide (N ≤ m)) && ((M == 0) && true))))) := by rfl
theorem one_10 (A B C : ByteArray) (N M m : Int) : one (10, A, B, C, N, M) m = (isPath A && (isPath B && (C.toList.isEmpty && ((decide (0 ≤ N) && decide (N ≤ m)) && ((M == 0) && true))))) := by rfl
theorem one_11 (A B C : ByteArray) (N M m : Int) : one (11, A, B, C, N, M) m = (A.toList.isEmpty && (B.toList.isEmpty && (C.toList.isEmpty && ((N == 0) && ((M == 0) && true))))) := by rfl
def ron_T1 : Bool × List (List Nat × List Nat) := (true, [([], []), ([0], [0]), ([1], [1]), ([], []), ([3], [3]), ([4, 2], [4]), ([], []), ([6], [6]), ([7, 5], [7]), ([2, 8, 0, 1, 2], [2]), ([5, 9, 0, 1, 2, 3, 4, 5, 9], [5]), ([8, 10, 0, 1, 2, 3, 4, 5, 6, 7, 8, 9, 10], [8])])
def ron_B1 : List Nat := [0, 1, 3, 0, 8, 31, 0, 64, 255, 511, 1023, 2047]
theorem ron_tab1 : rtab .any (opsOf Tryd.f26 1) = ron_T1 := by kernel_rfl
theorem ron_bits1 : waitsOk ron_T1.2 ron_B1 = true := by kernel_rfl
set_option maxHeartbeats 6400000 in
set_option maxRecDepth 100000 in
theorem rone_calls (o : Int) (A B C : ByteArray) (N M m : Int) (w : World) (hszA : A.size ≤ 9223372036854775807) (hszB : B.size ≤ 9223372036854775807) (hszC : C.size ≤ 9223372036854775807) :
    Calls Tryd.prog 26 #[.agg (cI (o, A, B, C, N, M)), .int .i64 m] w fun e w' => e = .returned (.bool (one (o, A, B, C, N, M) m)) ∧ Below w.heap.size w w' := by
  go_enter Tryd.func26, Tryd.ntmps26
  go_upto_region 1 with (fail)
  have HB := Aside0.mk ((Below.refl w.heap.size w).alloc (Nat.le_refl _) (.cells (cI (o, A, B, C, N, M)) 26 (0, 0)))
  have HX := Aside0.mk (show BoxI (w.alloc (.cells (cI (o, A, B, C, N, M)) 26 (0, 0))) w.heap.size (o, A, B, C, N, M) from heap_new _ _)
  generalize w.alloc _ = wa at HB HX ⊢
  generalize w.heap.size = b at HX ⊢
  go_cut [5, 6, 7] (fun v5 v6 v7 wc => v5 = .bool (isPath A) ∧ v6 = .bool (isPath B) ∧ v7 = .bool (isPath C) ∧ Aside0 (Below wa.heap.size wa wc))
  case first =>
    have hS0 : Below wa.heap.size wa wa.drew := below_drew1 (Below.refl _ _)
    refine start_ (n := 12) (S := fun w' => Below wa.heap.size wa w') (ds := []) #[false, false, false, false, false, false, false, false, false, false, false, false] (by kernel_rfl) rfl rfl (by exact hS0) (fun hHeld => ?_)
    refine with_tabW ron_tab1 ron_bits1 (fun HT_ HW_ => ?_)
    refine pure_ (i := 0) (N := some 9) (v := ?_) (a' := ?_) #[true, false, false, false, false, false, false, false, false, false, false, false] rfl rfl (any_of HT_.out (by kernel_rfl)) (fun _ _ _ h => h) (Or.inl ⟨by rfl, ?_⟩) ?_ ?_
    rotate_left
    · intro w'
      go_simp
      with_reducible rfl
    rotate_left
    · simp only [Act.put, List.setIfInBounds_toArray, List.set_cons_zero, List.set_cons_succ, i64_w, i32_w]
      rfl
    refine pure_ (i := 3) (N := some 12) (v := ?_) (a' := ?_) #[true, false, false, true, false, false, false, false, false, false, false, false] rfl rfl (any_of HT_.out (by kernel_rfl)) (fun _ _ _ h => h) (Or.inl ⟨by rfl, ?_⟩) ?_ ?_
    rotate_left
    · intro w'
      go_simp
      with_reducible rfl
    rotate_left
    · simp only [Act.put, List.setIfInBounds_toArray, List.set_cons_zero, List.set_cons_succ, i64_w, i32_w]
      rfl
    refine pure_ (i := 6) (N := some 15) (v := ?_) (a' := ?_) #[true, false, false, true, false, false, true, false, false, false, false, false] rfl rfl (any_of HT_.out (by kernel_rfl)) (fun _ _ _ h => h) (Or.inl ⟨by rfl, ?_⟩) ?_ ?_
    rotate_left
    · intro w'
      go_simp
      with_reducible rfl
    rotate_left
    · simp only [Act.put, List.setIfInBounds_toArray, List.set_cons_zero, List.set_cons_succ, i64_w, i32_w]
      rfl
    refine take_ (i := 1) (N := some 10) (v := ?_) (a' := ?_) #[true, true, false, true, false, false, true, false, false, false, false, false] rfl rfl (take_ofW HT_.out HW_.out (by kernel_rfl)) (fun _ _ _ h => h) (Or.inl ⟨by rfl, ?_⟩) hHeld ?_ ?_
    rotate_left
    · intro w' hSt
      obtain ⟨b0, b1, b2, b3, b4, b5⟩ := (HX.out.below hSt).cu
      go_simp
      with_reducible rfl
    rotate_left
    · simp only [Act.put, List.setIfInBounds_toArray, List.set_cons_zero, List.set_cons_succ, i64_w, i32_w]
      rfl
    refine take_ (i := 4) (N := some 13) (v := ?_) (a' := ?_) #[true, true, false, true, true, false, true, false, false, false, false, false] rfl rfl (take_ofW HT_.out HW_.out (by kernel_rfl)) (fun _ _ _ h => h) (Or.inl ⟨by rfl, ?_⟩) hHeld ?_ ?_
    rotate_left
    · intro w' hSt
      obtain ⟨b0, b1, b2, b3, b4, b5⟩ := (HX.out.below hSt).cu
      go_simp
      with_reducible rfl
    rotate_left
    · simp only [Act.put, List.setIfInBounds_toArray, List.set_cons_zero, List.set_cons_succ, i64_w, i32_w]
      rfl
    refine take_ (i := 7) (N := some 16) (v := ?_) (a' := ?_) #[true, true, false, true, true, false, true, true, false, false, false, false] rfl rfl (take_ofW HT_.out HW_.out (by kernel_rfl)) (fun _ _ _ h => h) (Or.inl ⟨by rfl, ?_⟩) hHeld ?_ ?_
    rotate_left
    · intro w' hSt
      obtain ⟨b0, b1, b2, b3, b4, b5⟩ := (HX.out.below hSt).cu
      go_simp
      with_reducible rfl
    rotate_left
    · simp only [Act.put, List.setIfInBounds_toArray, List.set_cons_zero, List.set_cons_succ, i64_w, i32_w]
      rfl
    refine one_ (i := 2) (N := some 11) #[true, true, true, true, true, false, true, true, false, false, false, false] rfl rfl (one_of HT_.out (by kernel_rfl)) (by decide) (fun K hK => ?_)
    refine goes_ Tryd.func35 (by kernel_rfl) rfl #[.string A] (by rfl) rfl rfl (by (try simp only [List.map_toArray, List.map_cons, List.map_nil]); first | done | rfl) ?_
    refine (risPath_calls A _ hszA).mono ?_
    rintro e w1 ⟨rfl, rfl⟩
    refine ⟨_, rfl, ?_⟩
    have hS1 := hHeld
    refine hK.out _ _ (by exact hS1) (fun hHeld => ?_)
    clear hK K
    refine norm_ (a' := ?_) ?_ ?_
    rotate_left
    · first
      | (show Act.put _ (some 11) _ = _; simp only [Act.put, List.setIfInBounds_toArray, List.set_cons_zero, List.set_cons_succ, i64_w, i32_w]; rfl)
      | rfl
    refine one_ (i := 5) (N := some 14) #[true, true, true, true, true, true, true, true, false, false, false, false] rfl rfl (one_of HT_.out (by kernel_rfl)) (by decide) (fun K hK => ?_)
    refine goes_ Tryd.func35 (by kernel_rfl) rfl #[.string B] (by rfl) rfl rfl (by (try simp only [List.map_toArray, List.map_cons, List.map_nil]); first | done | rfl) ?_
    refine (risPath_calls B _ hszB).mono ?_
    rintro e w1 ⟨rfl, rfl⟩
    refine ⟨_, rfl, ?_⟩
    have hS1 := hHeld
    refine hK.out _ _ (by exact hS1) (fun hHeld => ?_)
    clear hK K
    refine norm_ (a' := ?_) ?_ ?_
    rotate_left
    · first
      | (show Act.put _ (some 14) _ = _; simp only [Act.put, List.setIfInBounds_toArray, List.set_cons_zero, List.set_cons_succ, i64_w, i32_w]; rfl)
      | rfl
    refine one_ (i := 8) (N := some 17) #[true, true, true, true, true, true, true, true, true, false, false, false] rfl rfl (one_of HT_.out (by kernel_rfl)) (by decide) (fun K hK => ?_)
    refine goes_ Tryd.func35 (by kernel_rfl) rfl #[.string C] (by rfl) rfl rfl (by (try simp only [List.map_toArray, List.map_cons, List.map_nil]); first | done | rfl) ?_
    refine (risPath_calls C _ hszC).mono ?_
    rintro e w1 ⟨rfl, rfl⟩
    refine ⟨_, rfl, ?_⟩
    have hS1 := hHeld
    refine hK.out _ _ (by exact hS1) (fun hHeld => ?_)
    clear hK K
    refine norm_ (a' := ?_) ?_ ?_
    rotate_left
    · first
      | (show Act.put _ (some 17) _ = _; simp only [Act.put, List.setIfInBounds_toArray, List.set_cons_zero, List.set_cons_succ, i64_w, i32_w]; rfl)
      | rfl
    refine pure_ (i := 9) (N := some 5) (v := ?_) (a' := ?_) #[true, true, true, true, true, true, true, true, true, true, false, false] rfl rfl (any_of HT_.out (by kernel_rfl)) (fun _ _ _ h => h) (Or.inl ⟨by rfl, ?_⟩) ?_ ?_
    rotate_left
    · intro w'
      go_simp
      with_reducible rfl
    rotate_left
    · simp only [Act.put, List.setIfInBounds_toArray, List.set_cons_zero, List.set_cons_succ, i64_w, i32_w]
      rfl
    refine pure_ (i := 10) (N := some 6) (v := ?_) (a' := ?_) #[true, true, true, true, true, true, true, true, true, true, true, false] rfl rfl (any_of HT_.out (by kernel_rfl)) (fun _ _ _ h => h) (Or.inl ⟨by rfl, ?_⟩) ?_ ?_
    rotate_left
    · intro w'
      go_simp
      with_reducible rfl
    rotate_left
    · simp only [Act.put, List.setIfInBounds_toArray, List.set_cons_zero, List.set_cons_succ, i64_w, i32_w]
      rfl
    refine pure_ (i := 11) (N := some 7) (v := ?_) (a' := ?_) #[true, true, true, true, true, true, true, true, true, true, true, true] rfl rfl (any_of HT_.out (by kernel_rfl)) (fun _ _ _ h => h) (Or.inl ⟨by rfl, ?_⟩) ?_ ?_
    rotate_left
    · intro w'
      go_simp
      with_reducible rfl
    rotate_left
    · simp only [Act.put, List.setIfInBounds_toArray, List.set_cons_zero, List.set_cons_succ, i64_w, i32_w]
      rfl
    refine done_ (done_of HT_.out (by kernel_rfl)) ?_
    go_wp2
    go_meet
    case rel => exact ⟨rfl, rfl, rfl, ⟨hHeld⟩⟩
  case rest =>
    obtain ⟨rfl, rfl, rfl, HBC⟩ := hcut
    replace HX := Aside0.mk (HX.out.below HBC.out)
    replace HB := Aside0.mk (below_step HB.out HBC.out)
    clear HBC
    obtain ⟨b0, b1, b2, b3, b4, b5⟩ := HX.out.cu
    have HXX := HX
    clear HX
    obtain ⟨pa, hpa⟩ : ∃ pa, isPath A = pa := ⟨_, rfl⟩
    obtain ⟨pb, hpb⟩ : ∃ pb, isPath B = pb := ⟨_, rfl⟩
    obtain ⟨pc, hpc⟩ : ∃ pc, isPath C = pc := ⟨_, rfl⟩
    rw [hpa, hpb, hpc]
    have HPA := Aside0.mk hpa
    have HPB := Aside0.mk hpb
    have HPC := Aside0.mk hpc
    clear hpa hpb hpc
    go_upto_region 2 with (fail)
    go_cut [8] (fun v wd => v = .bool (decide (0 ≤ N) && decide (N ≤ m)) ∧ wd = wc)
    case first =>
      by_cases h0 : 0 ≤ N
      · have e0 : decide (0 ≤ N) = true := decide_eq_true h0
        have e0' : decide (N ≥ 0) = true := decide_eq_true h0
        go_wp2
        go_meet
        case rel => exact ⟨by simp [e0], rfl⟩
      · have e0 : decide (0 ≤ N) = false := decide_eq_false h0
        have e0' : decide (N ≥ 0) = false := decide_eq_false h0
        go_wp2
        go_meet
        case rel => exact ⟨by simp [e0], rfl⟩
    obtain ⟨rfl, rfl⟩ := hcut
    obtain ⟨pl, hpl⟩ : ∃ pl, (decide (0 ≤ N) && decide (N ≤ m)) = pl := ⟨_, rfl⟩
    rw [hpl]
    have HPL := Aside0.mk hpl
    clear hpl
    by_cases ho11 : o = 11
    case pos =>
      subst ho11
      have hE := eqI (11, A, B, C, N, M) (11, ⟨#[]⟩, ⟨#[]⟩, ⟨#[]⟩, 0, 0) wc
      have HONE := Aside0.mk (one_11 A B C N M m)
      go_wp2_with (refine wpList_load_row rfl 26 (.tmp 2) rfl b rfl 26 (cI (11, A, B, C, N, M)) (0, 0) _ HXX.out Tryd.underlying26 rfl infoI6 ?_)
      all_goals go_ret
      all_goals refine ⟨?_, HB.out⟩
      all_goals rw [one_11]
      all_goals clear hE HONE HXX
      all_goals simp [*]
    by_cases ho1 : o = 1
    case pos =>
      subst ho1
      have HONE := Aside0.mk (one_1 A B C N M m)
      rw [HPA.out] at HONE
      rw [HPB.out] at HONE
      cases pa
      case false =>
        go_wp2
        go_ret
        exact ⟨by rw [HONE.out]; simp [*], HB.out⟩
      case true =>
        cases pb
        case false =>
          go_wp2
          go_ret
          exact ⟨by rw [HONE.out]; simp [*], HB.out⟩
        case true =>
          cases hqC : C.toList.isEmpty
          case false =>
            go_wp2
            go_ret
            exact ⟨by rw [HONE.out]; simp [*], HB.out⟩
          case true =>
            cases hqN : (N == 0)
            case false =>
              go_wp2
              go_ret
              exact ⟨by rw [HONE.out]; simp [*], HB.out⟩
            case true =>
              cases hqM : (M == 0)
              case false =>
                go_wp2
                go_ret
                exact ⟨by rw [HONE.out]; simp [*], HB.out⟩
              case true =>
                go_wp2
                go_ret
                exact ⟨by rw [HONE.out]; simp [*], HB.out⟩
    case neg =>
      by_cases ho2 : o = 2
      case pos =>
        subst ho2
        have HONE := Aside0.mk (one_2 A B C N M m)
        rw [HPA.out] at HONE
        rw [HPB.out] at HONE
        rw [HPC.out] at HONE
        cases pa
        case false =>
          go_wp2
          go_ret
          exact ⟨by rw [HONE.out]; simp [*], HB.out⟩
        case true =>
          cases pb
          case false =>
            go_wp2
            go_ret
            exact ⟨by rw [HONE.out]; simp [*], HB.out⟩
          case true =>
            cases pc
            case false =>
              go_wp2
              go_ret
              exact ⟨by rw [HONE.out]; simp [*], HB.out⟩
            case true =>
              cases hqN : (N == 0)
              case false =>
                go_wp2
                go_ret
                exact ⟨by rw [HONE.out]; simp [*], HB.out⟩
              case true =>
                cases hqM : (M == 0)
                case false =>
                  go_wp2
                  go_ret
                  exact ⟨by rw [HONE.out]; simp [*], HB.out⟩
                case true =>
                  go_wp2
                  go_ret
                  exact ⟨by rw [HONE.out]; simp [*], HB.out⟩
      case neg =>
        by_cases ho3 : o = 3
        case pos =>
          subst ho3
          have HONE := Aside0.mk (one_3 A B C N M m)
          rw [HPA.out] at HONE
          rw [HPB.out] at HONE
          cases pa
          case false =>
            go_wp2
            go_ret
            exact ⟨by rw [HONE.out]; simp [*], HB.out⟩
          case true =>
            cases pb
            case false =>
              go_wp2
              go_ret
              exact ⟨by rw [HONE.out]; simp [*], HB.out⟩
            case true =>
              cases hqC : C.toList.isEmpty
              case false =>
                go_wp2
                go_ret
                exact ⟨by rw [HONE.out]; simp [*], HB.out⟩
              case true =>
                by_cases hcN0 : 0 ≤ N
                case neg =>
                  have hdN00 : decide (0 ≤ N) = false := decide_eq_false (by omega)
                  have hdN01 : decide (N ≥ 0) = false := decide_eq_false (by omega)
                  go_wp2
                  go_ret
                  exact ⟨by rw [HONE.out]; simp [*], HB.out⟩
                case pos =>
                  have hdN00 : decide (0 ≤ N) = true := decide_eq_true (by omega)
                  have hdN01 : decide (N ≥ 0) = true := decide_eq_true (by omega)
                  by_cases hcN2 : N ≤ 2000
                  case neg =>
                    have hdN20 : decide (N ≤ 2000) = false := decide_eq_false (by omega)
                    have hdN21 : decide (2000 ≥ N) = false := decide_eq_false (by omega)
                    go_wp2
                    go_ret
                    exact ⟨by rw [HONE.out]; simp [*], HB.out⟩
                  case pos =>
                    have hdN20 : decide (N ≤ 2000) = true := decide_eq_true (by omega)
                    have hdN21 : decide (2000 ≥ N) = true := decide_eq_true (by omega)
                    by_cases hcM0 : 0 ≤ M
                    case neg =>
                      have hdM00 : decide (0 ≤ M) = false := decide_eq_false (by omega)
                      have hdM01 : decide (M ≥ 0) = false := decide_eq_false (by omega)
                      go_wp2
                      go_ret
                      exact ⟨by rw [HONE.out]; simp [*], HB.out⟩
                    case pos =>
                      have hdM00 : decide (0 ≤ M) = true := decide_eq_true (by omega)
                      have hdM01 : decide (M ≥ 0) = true := decide_eq_true (by omega)
                      by_cases hcM2 : M ≤ 2000
                      case neg =>
                        have hdM20 : decide (M ≤ 2000) = false := decide_eq_false (by omega)
                        have hdM21 : decide (2000 ≥ M) = false := decide_eq_false (by omega)
                        go_wp2
                        go_ret
                        exact ⟨by rw [HONE.out]; simp [*], HB.out⟩
                      case pos =>
                        have hdM20 : decide (M ≤ 2000) = true := decide_eq_true (by omega)
                        have hdM21 : decide (2000 ≥ M) = true := decide_eq_true (by omega)
                        go_wp2
                        go_ret
                        exact ⟨by rw [HONE.out]; simp [*], HB.out⟩
        case neg =>
          by_cases ho4 : o = 4
          case pos =>
            subst ho4
            have HONE := Aside0.mk (one_4 A B C N M m)
            rw [HPA.out] at HONE
            cases pa
            case false =>
              go_wp2
              go_ret
              exact ⟨by rw [HONE.out]; simp [*], HB.out⟩
            case true =>
              cases hqBn : B.toList.isEmpty
              case true =>
                go_wp2
                go_ret
                exact ⟨by rw [HONE.out]; simp [*], HB.out⟩
              case false =>
                by_cases hcB40 : B.size ≤ 40
                case neg =>
                  have hdB400 : decide ((B.size : Int) ≤ 40) = false := decide_eq_false (by omega)
                  have hdB401 : decide (B.size ≤ 40) = false := decide_eq_false (by omega)
                  go_wp2
                  go_ret
                  exact ⟨by rw [HONE.out]; simp [*], HB.out⟩
                case pos =>
                  have hdB400 : decide ((B.size : Int) ≤ 40) = true := decide_eq_true (by omega)
                  have hdB401 : decide (B.size ≤ 40) = true := decide_eq_true (by omega)
                  by_cases hcC40 : C.size ≤ 40
                  case neg =>
                    have hdC400 : decide ((C.size : Int) ≤ 40) = false := decide_eq_false (by omega)
                    have hdC401 : decide (C.size ≤ 40) = false := decide_eq_false (by omega)
                    go_wp2
                    go_ret
                    exact ⟨by rw [HONE.out]; simp [*], HB.out⟩
                  case pos =>
                    have hdC400 : decide ((C.size : Int) ≤ 40) = true := decide_eq_true (by omega)
                    have hdC401 : decide (C.size ≤ 40) = true := decide_eq_true (by omega)
                    cases hqN : (N == 0)
                    case false =>
                      go_wp2
                      go_ret
                      exact ⟨by rw [HONE.out]; simp [*], HB.out⟩
                    case true =>
                      cases hqM : (M == 0)
                      case false =>
                        go_wp2
                        go_ret
                        exact ⟨by rw [HONE.out]; simp [*], HB.out⟩
                      case true =>
                        go_wp2
                        go_ret
                        exact ⟨by rw [HONE.out]; simp [*], HB.out⟩
          case neg =>
            by_cases ho5 : o = 5
            case pos =>
              subst ho5
              have HONE := Aside0.mk (one_5 A B C N M m)
              rw [HPA.out] at HONE
              cases pa
              case false =>
                go_wp2
                go_ret
                exact ⟨by rw [HONE.out]; simp [*], HB.out⟩
              case true =>
                cases hqB : B.toList.isEmpty
                case false =>
                  go_wp2
                  go_ret
                  exact ⟨by rw [HONE.out]; simp [*], HB.out⟩
                case true =>
                  cases hqC : C.toList.isEmpty
                  case false =>
                    go_wp2
                    go_ret
                    exact ⟨by rw [HONE.out]; simp [*], HB.out⟩
                  case true =>
                    cases hqN : (N == 0)
                    case false =>
                      go_wp2
                      go_ret
                      exact ⟨by rw [HONE.out]; simp [*], HB.out⟩
                    case true =>
                      cases hqM : (M == 0)
                      case false =>
                        go_wp2
                        go_ret
                        exact ⟨by rw [HONE.out]; simp [*], HB.out⟩
                      case true =>
                        go_wp2
                        go_ret
                        exact ⟨by rw [HONE.out]; simp [*], HB.out⟩
            case neg =>
              by_cases ho6 : o = 6
              case pos =>
                subst ho6
                have HONE := Aside0.mk (one_6 A B C N M m)
                rw [HPA.out] at HONE
                rw [HPB.out] at HONE
                cases pa
                case false =>
                  go_wp2
                  go_ret
                  exact ⟨by rw [HONE.out]; simp [*], HB.out⟩
                case true =>
                  cases pb
                  case false =>
                    go_wp2
                    go_ret
                    exact ⟨by rw [HONE.out]; simp [*], HB.out⟩
                  case true =>
                    cases hqC : C.toList.isEmpty
                    case false =>
                      go_wp2
                      go_ret
                      exact ⟨by rw [HONE.out]; simp [*], HB.out⟩
                    case true =>
                      cases hqN : (N == 0)
                      case false =>
                        go_wp2
                        go_ret
                        exact ⟨by rw [HONE.out]; simp [*], HB.out⟩
                      case true =>
                        cases hqM : (M == 0)
                        case false =>
                          go_wp2
                          go_ret
                          exact ⟨by rw [HONE.out]; simp [*], HB.out⟩
                        case true =>
                          go_wp2
                          go_ret
                          exact ⟨by rw [HONE.out]; simp [*], HB.out⟩
              case neg =>
                by_cases ho7 : o = 7
                case pos =>
                  subst ho7
                  have HONE := Aside0.mk (one_7 A B C N M m)
                  rw [HPA.out] at HONE
                  rw [HPB.out] at HONE
                  cases pa
                  case false =>
                    go_wp2
                    go_ret
                    exact ⟨by rw [HONE.out]; simp [*], HB.out⟩
                  case true =>
                    cases pb
                    case false =>
                      go_wp2
                      go_ret
                      exact ⟨by rw [HONE.out]; simp [*], HB.out⟩
                    case true =>
                      cases hqC : C.toList.isEmpty
                      case false =>
                        go_wp2
                        go_ret
                        exact ⟨by rw [HONE.out]; simp [*], HB.out⟩
                      case true =>
                        cases hqN : (N == 0)
                        case false =>
                          go_wp2
                          go_ret
                          exact ⟨by rw [HONE.out]; simp [*], HB.out⟩
                        case true =>
                          cases hqM : (M == 0)
                          case false =>
                            go_wp2
                            go_ret
                            exact ⟨by rw [HONE.out]; simp [*], HB.out⟩
                          case true =>
                            go_wp2
                            go_ret
                            exact ⟨by rw [HONE.out]; simp [*], HB.out⟩
                case neg =>
                  by_cases ho8 : o = 8
                  case pos =>
                    subst ho8
                    have HONE := Aside0.mk (one_8 A B C N M m)
                    rw [HPL.out] at HONE
                    cases hqA : A.toList.isEmpty
                    case false =>
                      go_wp2
                      go_ret
                      exact ⟨by rw [HONE.out]; simp [*], HB.out⟩
                    case true =>
                      cases hqB : B.toList.isEmpty
                      case false =>
                        go_wp2
                        go_ret
                        exact ⟨by rw [HONE.out]; simp [*], HB.out⟩
                      case true =>
                        cases hqC : C.toList.isEmpty
                        case false =>
                          go_wp2
                          go_ret
                          exact ⟨by rw [HONE.out]; simp [*], HB.out⟩
                        case true =>
                          cases pl
                          case false =>
                            go_wp2
                            go_ret
                            exact ⟨by rw [HONE.out]; simp [*], HB.out⟩
                          case true =>
                            cases hqM : (M == 0)
                            case false =>
                              go_wp2
                              go_ret
                              exact ⟨by rw [HONE.out]; simp [*], HB.out⟩
                            case true =>
                              go_wp2
                              go_ret
                              exact ⟨by rw [HONE.out]; simp [*], HB.out⟩
                  case neg =>
                    by_cases ho9 : o = 9
                    case pos =>
                      subst ho9
                      have HONE := Aside0.mk (one_9 A B C N M m)
                      rw [HPL.out] at HONE
                      rw [HPA.out] at HONE
                      cases pa
                      case false =>
                        go_wp2
                        go_ret
                        exact ⟨by rw [HONE.out]; simp [*], HB.out⟩
                      case true =>
                        cases hqB : B.toList.isEmpty
                        case false =>
                          go_wp2
                          go_ret
                          exact ⟨by rw [HONE.out]; simp [*], HB.out⟩
                        case true =>
                          cases hqC : C.toList.isEmpty
                          case false =>
                            go_wp2
                            go_ret
                            exact ⟨by rw [HONE.out]; simp [*], HB.out⟩
                          case true =>
                            cases pl
                            case false =>
                              go_wp2
                              go_ret
                              exact ⟨by rw [HONE.out]; simp [*], HB.out⟩
                            case true =>
                              cases hqM : (M == 0)
                              case false =>
                                go_wp2
                                go_ret
                                exact ⟨by rw [HONE.out]; simp [*], HB.out⟩
                              case true =>
                                go_wp2
                                go_ret
                                exact ⟨by rw [HONE.out]; simp [*], HB.out⟩
                    case neg =>
                      by_cases ho10 : o = 10
                      case pos =>
                        subst ho10
                        have HONE := Aside0.mk (one_10 A B C N M m)
                        rw [HPL.out] at HONE
                        rw [HPA.out] at HONE
                        rw [HPB.out] at HONE
                        cases pa
                        case false =>
                          go_wp2
                          go_ret
                          exact ⟨by rw [HONE.out]; simp [*], HB.out⟩
                        case true =>
                          cases pb
                          case false =>
                            go_wp2
                            go_ret
                            exact ⟨by rw [HONE.out]; simp [*], HB.out⟩
                          case true =>
                            cases hqC : C.toList.isEmpty
                            case false =>
                              go_wp2
                              go_ret
                              exact ⟨by rw [HONE.out]; simp [*], HB.out⟩
                            case true =>
                              cases pl
                              case false =>
                                go_wp2
                                go_ret
                                exact ⟨by rw [HONE.out]; simp [*], HB.out⟩
                              case true =>
                                cases hqM : (M == 0)
                                case false =>
                                  go_wp2
                                  go_ret
                                  exact ⟨by rw [HONE.out]; simp [*], HB.out⟩
                                case true =>
                                  go_wp2
                                  go_ret
                                  exact ⟨by rw [HONE.out]; simp [*], HB.out⟩
                      case neg =>
                          have HV := Aside0.mk (show one (o, A, B, C, N, M) m = false by unfold one; rw [if_pos]; show o < 1 ∨ 11 < o; omega)
                          go_wp2
                          go_ret
                          exact ⟨by rw [HV.out]; rfl, HB.out⟩
end Go.Proofs.YtneindaodfiabaaDoor.Prog6
