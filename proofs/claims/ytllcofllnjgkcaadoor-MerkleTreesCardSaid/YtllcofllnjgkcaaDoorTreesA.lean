/- What calls of Go functions of this seat come to, as the rows need it: under the conditions that each theorem names. -/
import Derived.Test.YtllcofllnjgkcaaDoorRefS
import Derived.Test.YtllcofllnjgkcaaDoorMkH
import Derived.Test.YtllcofllnjgkcaaDoorBlk
namespace Go.Proofs.YtllcofllnjgkcaaDoor.Ref
open Go.RowKit Go.Proofs.YtllcofllnjgkcaaDoorW.PrintWords Go.Proofs.YtllcofllnjgkcaaDoorW.PrintLast Go.Proofs.YtllcofllnjgkcaaDoorW.PrintMore
set_option linter.unusedVariables false
set_option linter.unusedSimpArgs false
open Go.Proofs.YtllcofllnjgkcaaDoor.Sha
def tr_T11 : Bool × List (List Nat × List Nat) := (true, [([], []), ([0], [0]), ([1], [1]), ([2], [2]), ([3, 2], [2, 3]), ([2, 4], [2, 4]), ([5, 2], [5]), ([6], [6]), ([7, 6], [6, 7]), ([6], [6]), ([6], [6]), ([9, 10, 6, 6], [6, 9, 10]), ([11, 6], [6, 11]), ([8, 12, 6], [6, 8, 12]), ([6, 13], [6, 13]), ([14, 11], [14]), ([15], [15]), ([15], [15]), ([15], [15]), ([15], [15]), ([17, 18, 19, 15, 15], [15, 17, 18, 19]), ([16, 20, 20, 15], [15, 16, 20]), ([21, 15], [15, 21]), ([15, 22], [15, 22])])
def tr_B11 : List Nat := [0, 1, 3, 7, 15, 31, 63, 127, 255, 127, 127, 1663, 3711, 8191, 16383, 32767, 65535, 65535, 65535, 65535, 983039, 2097151, 4194303, 8388607]
theorem tr_tab11 : rtab .any (opsOf Tryd.f4 11) = tr_T11 := by kernel_rfl
theorem tr_bits11 : waitsOk tr_T11.2 tr_B11 = true := by kernel_rfl
theorem proofP_le : ∀ (rows : List (List Int)) (i : Nat), (proofP rows i).length ≤ rows.length := by
  intro rows
  induction hn : rows.length using Nat.strongRecOn generalizing rows with
  | ind n ih =>
    intro i
    by_cases h : rows.length ≤ 1
    · rw [proofP_end i h]; simp
    · have hu := upL_len rows
      have := ih (upL rows).length (by omega) (upL rows) rfl (i / 2)
      rw [proofP_up i h, List.length_append]
      have : (if oth i < rows.length then [rows.getD (oth i) []] else []).length ≤ 1 := by split <;> simp
      omega
set_option maxHeartbeats 3200000 in
set_option maxRecDepth 100000 in
theorem trees_calls (A : Option Addr) (c : Nat) (l : List Int) (i n : Int) (w : World) (hr : B.C w A l.length l) (hc : l.length ≤ c) (hb : Sha.bytes l) (hi : -9223372036854775808 ≤ i ∧ i < 9223372036854775808) (hT : Tab w) :
    Calls Tryd.prog 4 #[.slice A l.length c, .int .i64 i, .int .i64 n] w fun e w' => e = .returned (.bool true) ∧ Below w.heap.size w w' := by
  have HR := Aside0.mk hr
  have HY := Aside0.mk hb
  have HTAB := Aside0.mk hT
  have hl63 : l.length ≤ 9223372036854775807 := hr.2.1
  clear hr hT hb
  by_cases hbig : 1200 < l.length
  · have e1 : decide ((l.length : Int) > 1200) = true := decide_eq_true (by omega)
    clear hbig hi
    go_enter Tryd.func4, Tryd.ntmps4
    go_wp2_with fail
    refine (known_calls _ HTAB.out).mono ?_
    rintro e w1 ⟨rfl, hb⟩
    go_wp2
    go_ret
    exact ⟨rfl, hb⟩
  have hl5 : l.length ≤ 1200 := by omega
  clear hbig
  have e1 : decide ((l.length : Int) > 1200) = false := decide_eq_false (by omega)
  go_enter Tryd.func4, Tryd.ntmps4
  go_wp2_with fail
  refine (new_calls _).mono ?_
  rintro e w1 ⟨gh, rfl, hgl, hg, hb⟩
  have HB1 := Aside0.mk hb
  have HG1 := Aside0.mk hg
  have HLE := Aside0.mk hl5
  have HI := Aside0.mk hi
  have HR1 := Aside0.mk (Kd.C_below HR.out hb)
  have HT1 := Aside0.mk (HTAB.out.below hb)
  have hJ1 := fun w' h => below_step hb (w2 := w') h
  have HJ1 := Aside0.mk hJ1
  clear hb hg hgl e1 hi hJ1 HB1 HR HTAB hl5
  go_upto_region 5 with (first | ((with_reducible refine gate_dst (N := 19) rfl ?_); refine Kd.R_lit B (w0 := w1) w1.heap.size 5 ?hg (N := 19) ?hd (xs := ([] : List Int)) (inner := []) (ok := fun _ => True) (okp := fun _ => True) ?hr ?hp (fun _ hk => hk) trivial (Below.refl _ _) (Nat.le_refl _) (by simp) ?_; (case hd => rfl); (case hg => rfl); (case hr => first | (go_simp; done) | (go_simp; rfl)); (case hp => exact Reps.none _ _); intro v1 w2 ho hb1 hg hnew; have HO := Aside0.mk ho; have HB := Aside0.mk hb1; clear ho hb1 hg hnew) | ((with_reducible refine gate_builtin (b := .append) (xs := #[.tmp 19, .tmp 20]) rfl ?_); at_builtin; refine Kd.R_append_rows B (w0 := w1) w1.heap.size rfl (.tmp 19) (.tmp 20) 22 5 (.int .u8 0) 1 rfl Tryd.underlying22 info5 rfl (by decide) (by omega) _ ([]) (l) _ _ _ (fun _ => True) (fun _ => False) rfl rfl HO.out (Kd.C_below HR1.out HB.out) (fun _ _ h => h) (fun _ h => h.elim) (fun _ _ => trivial) HB.out HB.out.size ?aL ?_; (case aL => simp; have := HLE.out; omega); intro v2 w4 ho hb2 hg hat; rw [List.nil_append] at ho; obtain ⟨A2, c2, rfl, hc2, hr2⟩ := Kd.R_reads ho; have HO2 := Aside0.mk ho; have HCP := Aside0.mk hr2; clear hr2; have HB2 := Aside0.mk hb2; clear ho hb2 hg hat))
  clear HO HB
  have HG4 := Aside0.mk (heap_keep HG1.out HB2.out)
  have HR4 := Aside0.mk (Kd.C_below HR1.out HB2.out)
  have HT4 := Aside0.mk (HT1.out.below HB2.out)
  have HJ4 := Aside0.mk (show ∀ w' : World, Below w4.heap.size w4 w' → Below w.heap.size w w' from fun w' h => HJ1.out w' (below_step HB2.out h))
  clear HG1 HR1 HT1 HJ1 HB2 HO2
  have HRL := Aside0.mk (show (rootOf l).length = 32 by unfold rootOf rootI; exact shaI_len _)
  have HRT : Aside0 (∀ (A : Option Addr) (c : Nat) (w : World), B.C w A l.length l → l.length ≤ c → Tab w → Calls Tryd.prog 14 #[.slice A l.length c] w fun e w' => e = .returned (vd (rootOf l)) ∧ Below w.heap.size w w') := ⟨fun A c w h1 h2 h3 => Root_calls A c l w h1 h2 HY.out (by have := HLE.out; omega) h3⟩
  generalize hRT : rootOf l = RT at HRL
  have HRTE := Aside0.mk hRT
  clear hRT
  go_cut [38] (fun v wx => v = .bool false ∧ Aside0 (Below w4.heap.size w4 wx))
  case first =>
    have heq : ∀ w : World, (Op.equalIn 10000 32 (vd RT) (vd RT)).run Tryd.prog w = .ok true w := fun w => by rw [eqD HRL.out HRL.out w]; simp
    by_cases hn : n < 1099511627776
    · obtain ⟨N, hN1, hN2⟩ : ∃ N : Int, (∀ w, Calls Tryd.prog 10 #[.int .i64 n] w fun e w' => e = .returned (.int .i64 N) ∧ w' = w) ∧ (∀ w, Calls Tryd.prog 13 #[.int .i64 n] w fun e w' => e = .returned (.int .i64 N) ∧ w' = w) := by
        by_cases h0 : n < 0
        · exact ⟨0, fun w => count_neg n w h0, fun w => rcount_neg n w h0⟩
        · obtain ⟨m, rfl⟩ := Int.eq_ofNat_of_zero_le (Int.not_lt.1 h0)
          exact ⟨_, fun w => count_calls m w (by omega), fun w => rcount_calls m w (by omega)⟩
      have HN1 := Aside0.mk hN1
      have HN2 := Aside0.mk hN2
      clear hN1 hN2
      go_wp2_with fail
      refine (HN1.out _).mono ?_
      rintro e w5 ⟨rfl, rfl⟩
      go_wp2_with fail
      refine (HN2.out _).mono ?_
      rintro e w5 ⟨rfl, rfl⟩
      go_wp2_with fail
      refine (HRT.out A2 c2 _ HCP.out hc2 HT4.out).mono ?_
      rintro e w6 ⟨rfl, hb⟩
      have HB6 := Aside0.mk hb
      clear hb
      go_wp2_with fail
      refine (rroot_calls gh A c l _ (heap_keep HG4.out HB6.out) (Kd.C_below HR4.out HB6.out) hc HY.out (by have := HLE.out; omega)).mono ?_
      rintro e w7 ⟨rfl, hb⟩
      rw [HRTE.out]
      have HB7 := Aside0.mk (below_step HB6.out hb)
      clear hb
      go_wp2
      go_meet
      exact ⟨rfl, HB7⟩
    · --STOP7
      go_wp2_with fail
      refine (HRT.out A2 c2 _ HCP.out hc2 HT4.out).mono ?_
      rintro e w6 ⟨rfl, hb⟩
      have HB6 := Aside0.mk hb
      clear hb
      go_wp2_with fail
      refine (rroot_calls gh A c l _ (heap_keep HG4.out HB6.out) (Kd.C_below HR4.out HB6.out) hc HY.out (by have := HLE.out; omega)).mono ?_
      rintro e w7 ⟨rfl, hb⟩
      rw [HRTE.out]
      have HB7 := Aside0.mk (below_step HB6.out hb)
      clear hb
      go_wp2
      go_meet
      exact ⟨rfl, HB7⟩
  case rest =>
    obtain ⟨rfl, HBx⟩ := hcut
    clear HRT HRL HRTE
    by_cases hin : i < 0 ∨ (countN l.length : Int) ≤ i
    · have HIN := Aside0.mk hin
      clear hin
      go_wp2_with fail
      refine (chunk_no A2 c2 l i _ (by have := HLE.out; omega) HIN.out).mono ?_
      rintro e w6 ⟨rfl, hw⟩
      replace hw := hw.symm
      subst hw
      go_wp2_with fail
      refine (proof_no A2 c2 l i _ (by have := HLE.out; omega) HIN.out).mono ?_
      rintro e w6 ⟨rfl, hw⟩
      replace hw := hw.symm
      subst hw
      by_cases h0 : i < 0
      · go_wp2_with fail
        refine (known_calls _ (HT4.out.below HBx.out)).mono ?_
        rintro e w7 ⟨rfl, hb⟩
        have HBZ := Aside0.mk (HJ4.out _ (below_step HBx.out hb))
        clear hb
        go_wp2
        go_ret
        exact ⟨rfl, HBZ.out⟩
      · have hin2 : (countN l.length : Int) ≤ i := by have := HIN.out; omega
        have e2 : decide (i ≥ (countN l.length : Int)) = true := decide_eq_true hin2
        have e3 : decide ((countN l.length : Int) ≤ i) = true := decide_eq_true hin2
        have HC := Aside0.mk (fun w => rcount_calls l.length w (by have := HLE.out; omega))
        generalize countN l.length = N at *
        go_wp2_with fail
        refine (HC.out _).mono ?_
        rintro e w6 ⟨rfl, hw⟩
        replace hw := hw.symm
        subst hw
        go_wp2_with fail
        refine (known_calls _ (HT4.out.below HBx.out)).mono ?_
        rintro e w7 ⟨rfl, hb⟩
        have HBZ := Aside0.mk (HJ4.out _ (below_step HBx.out hb))
        clear hb
        go_wp2
        go_ret
        exact ⟨rfl, HBZ.out⟩
    · obtain ⟨m, rfl⟩ := Int.eq_ofNat_of_zero_le (show 0 ≤ i by omega)
      have hm : m < countN l.length := by omega
      have HM := Aside0.mk hm
      have e2 : decide ((m : Int) ≥ (countN l.length : Int)) = false := decide_eq_false (by omega)
      have e3 : decide ((countN l.length : Int) ≤ (m : Int)) = false := decide_eq_false (by omega)
      have HC := Aside0.mk (fun w => rcount_calls l.length w (by have := HLE.out; omega))
      have HCPx := Aside0.mk (Kd.C_below HCP.out HBx.out)
      have HTx := Aside0.mk (HT4.out.below HBx.out)
      clear hin hm
      go_wp2_with fail
      refine (chunk_yes A2 c2 l m _ HCPx.out hc2 (by have := HLE.out; omega) HM.out).mono ?_
      rintro e w6 ⟨v, rfl, ho, hb⟩
      have HPB := Aside0.mk (fun A8 c8' (e : v = .slice A8 (chunkL l m).length c8') => PB.of (e ▸ ho))
      obtain ⟨A6, c6, rfl, hc6, hr6⟩ := Kd.R_reads ho
      replace HPB := Aside0.mk (HPB.out _ _ rfl)
      have HCH := Aside0.mk hr6
      have HBy := Aside0.mk (below_step HBx.out hb)
      have HX6 := Aside0.mk hb
      clear ho hb hr6
      have HCLE := Aside0.mk (show (chunkL l m).length ≤ 1200 by rw [chunk_len HM.out]; have := HLE.out; omega)
      generalize hCE : chunkL l m = ch at *
      have HCE := Aside0.mk hCE
      clear hCE
      go_wp2_with fail
      refine (proof_yes A2 c2 l m _ (Kd.C_below HCPx.out HX6.out) hc2 HY.out (by have := HLE.out; omega) HM.out (HTx.out.below HX6.out)).mono ?_
      rintro e w7 ⟨v, rfl, ho, hb⟩
      obtain ⟨A7, c7, rfl, hc7, hr7⟩ := Kd.R_reads ho
      have HPF := Aside0.mk hr7
      replace HBy := Aside0.mk (below_step HBy.out hb)
      have HX7 := Aside0.mk (below_step HX6.out hb)
      replace HPB := Aside0.mk (HPB.out.below hb)
      replace HCH := Aside0.mk (Kd.C_below HCH.out hb)
      have HR7 := Aside0.mk (Kd.C_below HR4.out HBy.out)
      have HG7 := Aside0.mk (heap_keep HG4.out HBy.out)
      clear ho hb hr7 HX6
      have HPL := Aside0.mk (show (proofOf l m).length < 10000000 by have := proofP_le (leavesL l) m; rw [leavesL_len] at this; have := HM.out; have := HLE.out; unfold countN at *; unfold proofOf; omega)
      generalize hPE : proofOf l m = pf at *
      have HPE := Aside0.mk hPE
      clear hPE
      have e4 : decide (countN l.length ≤ m) = false := decide_eq_false (by have := HM.out; omega)
      have hmN : m < countN l.length := HM.out
      generalize countN l.length = N at e2 e3 e4 HC hmN
      go_wp2_with fail
      refine (HC.out _).mono ?_
      rintro e w8 ⟨rfl, hw⟩
      replace hw := hw.symm
      subst hw
      clear HC
      go_upto_region 11 with (fail)
      clear e2 e3 e4 hmN
      have hS0 : Below w7.heap.size w7 w7.drew := below_drew1 (Below.refl _ _)
      refine start_ (n := 24) (S := fun w' => Below w7.heap.size w7 w') (ds := []) #[false, false, false, false, false, false, false, false, false, false, false, false, false, false, false, false, false, false, false, false, false, false, false, false] (by kernel_rfl) rfl rfl (by exact hS0) (fun hHeld => ?_)
      refine with_tabW tr_tab11 tr_bits11 (fun HT_ HW_ => ?_)
      refine pure_ (i := 0) (N := some 77) (v := ?_) (a' := ?_) #[true, false, false, false, false, false, false, false, false, false, false, false, false, false, false, false, false, false, false, false, false, false, false, false] rfl rfl (any_of HT_.out (by kernel_rfl)) (fun _ _ _ h => h) (Or.inl ⟨by rfl, ?_⟩) ?_ ?_
      rotate_left
      · intro w'
        go_simp
        with_reducible rfl
      rotate_left
      · simp only [Act.put, List.setIfInBounds_toArray, List.set_cons_zero, List.set_cons_succ, i64_w, i32_w]
        rfl
      refine pure_ (i := 1) (N := some 78) (v := ?_) (a' := ?_) #[true, true, false, false, false, false, false, false, false, false, false, false, false, false, false, false, false, false, false, false, false, false, false, false] rfl rfl (any_of HT_.out (by kernel_rfl)) (fun _ _ _ h => h) (Or.inl ⟨by rfl, ?_⟩) ?_ ?_
      rotate_left
      · intro w'
        go_simp
        with_reducible rfl
      rotate_left
      · simp only [Act.put, List.setIfInBounds_toArray, List.set_cons_zero, List.set_cons_succ, i64_w, i32_w]
        rfl
      refine pure_ (i := 2) (N := some 79) (v := ?_) (a' := ?_) #[true, true, true, false, false, false, false, false, false, false, false, false, false, false, false, false, false, false, false, false, false, false, false, false] rfl rfl (any_of HT_.out (by kernel_rfl)) (fun _ _ _ h => h) (Or.inl ⟨by rfl, ?_⟩) ?_ ?_
      rotate_left
      · intro w'
        go_simp
        with_reducible rfl
      rotate_left
      · simp only [Act.put, List.setIfInBounds_toArray, List.set_cons_zero, List.set_cons_succ, i64_w, i32_w]
        rfl
      refine pure_ (i := 3) (N := some 80) (v := ?_) (a' := ?_) #[true, true, true, true, false, false, false, false, false, false, false, false, false, false, false, false, false, false, false, false, false, false, false, false] rfl rfl (any_of HT_.out (by kernel_rfl)) (fun _ _ _ h => h) (Or.inl ⟨by rfl, ?_⟩) ?_ ?_
      rotate_left
      · intro w'
        go_simp
        with_reducible rfl
      rotate_left
      · simp only [Act.put, List.setIfInBounds_toArray, List.set_cons_zero, List.set_cons_succ, i64_w, i32_w]
        rfl
      refine pure_ (i := 4) (N := some 81) (v := ?_) (a' := ?_) #[true, true, true, true, true, false, false, false, false, false, false, false, false, false, false, false, false, false, false, false, false, false, false, false] rfl rfl (any_of HT_.out (by kernel_rfl)) (fun _ _ _ h => h) (Or.inl ⟨by rfl, ?_⟩) ?_ ?_
      rotate_left
      · intro w'
        go_simp
        with_reducible rfl
      rotate_left
      · simp only [Act.put, List.setIfInBounds_toArray, List.set_cons_zero, List.set_cons_succ, i64_w, i32_w]
        rfl
      refine pure_ (i := 5) (N := some 82) (v := ?_) (a' := ?_) #[true, true, true, true, true, true, false, false, false, false, false, false, false, false, false, false, false, false, false, false, false, false, false, false] rfl rfl (any_of HT_.out (by kernel_rfl)) (fun _ _ _ h => h) (Or.inl ⟨by rfl, ?_⟩) ?_ ?_
      rotate_left
      · intro w'
        go_simp
        with_reducible rfl
      rotate_left
      · simp only [Act.put, List.setIfInBounds_toArray, List.set_cons_zero, List.set_cons_succ, i64_w, i32_w]
        rfl
      refine pure_ (i := 6) (N := some 83) (v := ?_) (a' := ?_) #[true, true, true, true, true, true, true, false, false, false, false, false, false, false, false, false, false, false, false, false, false, false, false, false] rfl rfl (any_of HT_.out (by kernel_rfl)) (fun _ _ _ h => h) (Or.inl ⟨by rfl, ?_⟩) ?_ ?_
      rotate_left
      · intro w'
        go_simp
        with_reducible rfl
      rotate_left
      · simp only [Act.put, List.setIfInBounds_toArray, List.set_cons_zero, List.set_cons_succ, i64_w, i32_w]
        rfl
      refine pure_ (i := 7) (N := some 84) (v := ?_) (a' := ?_) #[true, true, true, true, true, true, true, true, false, false, false, false, false, false, false, false, false, false, false, false, false, false, false, false] rfl rfl (any_of HT_.out (by kernel_rfl)) (fun _ _ _ h => h) (Or.inl ⟨by rfl, ?_⟩) ?_ ?_
      rotate_left
      · intro w'
        go_simp
        with_reducible rfl
      rotate_left
      · simp only [Act.put, List.setIfInBounds_toArray, List.set_cons_zero, List.set_cons_succ, i64_w, i32_w]
        rfl
      refine take_ (i := 8) (N := some 85) (v := ?_) (a' := ?_) #[true, true, true, true, true, true, true, true, true, false, false, false, false, false, false, false, false, false, false, false, false, false, false, false] rfl rfl (take_ofW HT_.out HW_.out (by kernel_rfl)) (fun _ _ _ h => h) (Or.inl ⟨by rfl, ?_⟩) hHeld ?_ ?_
      rotate_left
      · intro w' hSt
        have h8 : (convert 22 9 (.slice A6 ch.length c6)).run Tryd.prog w' = .ok (.string (strOfNums ch)) w' := Kd.C_string Tryd.underlying22 Tryd.underlying5 Tryd.underlying9 (Kd.C_below HCH.out hSt)
        go_simp
        with_reducible rfl
      rotate_left
      · simp only [Act.put, List.setIfInBounds_toArray, List.set_cons_zero, List.set_cons_succ, i64_w, i32_w]
        rfl
      refine pure_ (i := 9) (N := some 86) (v := ?_) (a' := ?_) #[true, true, true, true, true, true, true, true, true, true, false, false, false, false, false, false, false, false, false, false, false, false, false, false] rfl rfl (any_of HT_.out (by kernel_rfl)) (fun _ _ _ h => h) (Or.inl ⟨by rfl, ?_⟩) ?_ ?_
      rotate_left
      · intro w'
        go_simp
        with_reducible rfl
      rotate_left
      · simp only [Act.put, List.setIfInBounds_toArray, List.set_cons_zero, List.set_cons_succ, i64_w, i32_w]
        rfl
      refine pure_ (i := 10) (N := some 87) (v := ?_) (a' := ?_) #[true, true, true, true, true, true, true, true, true, true, true, false, false, false, false, false, false, false, false, false, false, false, false, false] rfl rfl (any_of HT_.out (by kernel_rfl)) (fun _ _ _ h => h) (Or.inl ⟨by rfl, ?_⟩) ?_ ?_
      rotate_left
      · intro w'
        go_simp
        with_reducible rfl
      rotate_left
      · simp only [Act.put, List.setIfInBounds_toArray, List.set_cons_zero, List.set_cons_succ, i64_w, i32_w]
        rfl
      refine one_ (i := 11) (N := some 88) #[true, true, true, true, true, true, true, true, true, true, true, true, false, false, false, false, false, false, false, false, false, false, false, false] rfl rfl (one_of HT_.out (by kernel_rfl)) (by decide) (fun K hK => ?_)
      refine goes_ Tryd.func17 (by kernel_rfl) rfl #[.slice A l.length c, .int .i64 (m : Int)] (by rfl) rfl rfl (by (try simp only [List.map_toArray, List.map_cons, List.map_nil]); first | done | rfl) ?_
      refine (rchunk_calls A c l m _ (Kd.C_below HR7.out hHeld) hc (by have := HLE.out; omega) HM.out).mono ?_
      rintro e w8 ⟨v, rfl, ho, hb⟩
      refine ⟨_, rfl, ?_⟩
      have hS1 := below_step hHeld hb
      rw [HCE.out] at ho
      obtain ⟨A8, c8', rfl, hc8, hr8⟩ := Kd.R_reads ho
      have HC8 := Aside0.mk hr8
      clear hb ho hr8
      refine hK.out _ _ (by exact hS1) (fun hHeld => ?_)
      clear hK K
      refine norm_ (a' := ?_) ?_ ?_
      rotate_left
      · first
        | (show Act.put _ (some 88) _ = _; simp only [Act.put, List.setIfInBounds_toArray, List.set_cons_zero, List.set_cons_succ, i64_w, i32_w]; rfl)
        | rfl
      refine one_ (i := 12) (N := some 89) #[true, true, true, true, true, true, true, true, true, true, true, true, true, false, false, false, false, false, false, false, false, false, false, false] rfl rfl (one_of HT_.out (by kernel_rfl)) (by decide) (fun K hK => ?_)
      have h8 : (convert 22 9 (.slice A8 ch.length c8')).run Tryd.prog w8 = .ok (.string (strOfNums ch)) w8 := Kd.C_string Tryd.underlying22 Tryd.underlying5 Tryd.underlying9 HC8.out
      go_simp
      have hS1 := hHeld
      refine hK.out _ _ (by exact hS1) (fun hHeld => ?_)
      clear hK K
      refine norm_ (a' := ?_) ?_ ?_
      rotate_left
      · first
        | (show Act.put _ (some 89) _ = _; simp only [Act.put, List.setIfInBounds_toArray, List.set_cons_zero, List.set_cons_succ, i64_w, i32_w]; rfl)
        | rfl
      refine pure_ (i := 13) (N := some 90) (v := ?_) (a' := ?_) #[true, true, true, true, true, true, true, true, true, true, true, true, true, true, false, false, false, false, false, false, false, false, false, false] rfl rfl (any_of HT_.out (by kernel_rfl)) (fun _ _ _ h => h) (Or.inl ⟨by rfl, ?_⟩) ?_ ?_
      rotate_left
      · intro w'
        go_simp
        with_reducible rfl
      rotate_left
      · simp only [Act.put, List.setIfInBounds_toArray, List.set_cons_zero, List.set_cons_succ, i64_w, i32_w]
        rfl
      refine pure_ (i := 14) (N := some 91) (v := ?_) (a' := ?_) #[true, true, true, true, true, true, true, true, true, true, true, true, true, true, true, false, false, false, false, false, false, false, false, false] rfl rfl (any_of HT_.out (by kernel_rfl)) (fun _ _ _ h => h) (Or.inl ⟨by rfl, ?_⟩) ?_ ?_
      rotate_left
      · intro w'
        go_simp
        with_reducible rfl
      rotate_left
      · simp only [Act.put, List.setIfInBounds_toArray, List.set_cons_zero, List.set_cons_succ, i64_w, i32_w]
        rfl
      refine pure_ (i := 15) (N := some 92) (v := ?_) (a' := ?_) #[true, true, true, true, true, true, true, true, true, true, true, true, true, true, true, true, false, false, false, false, false, false, false, false] rfl rfl (any_of HT_.out (by kernel_rfl)) (fun _ _ _ h => h) (Or.inl ⟨by rfl, ?_⟩) ?_ ?_
      rotate_left
      · intro w'
        go_simp
        with_reducible rfl
      rotate_left
      · simp only [Act.put, List.setIfInBounds_toArray, List.set_cons_zero, List.set_cons_succ, i64_w, i32_w]
        rfl
      refine pure_ (i := 16) (N := some 93) (v := ?_) (a' := ?_) #[true, true, true, true, true, true, true, true, true, true, true, true, true, true, true, true, true, false, false, false, false, false, false, false] rfl rfl (any_of HT_.out (by kernel_rfl)) (fun _ _ _ h => h) (Or.inl ⟨by rfl, ?_⟩) ?_ ?_
      rotate_left
      · intro w'
        go_simp
        with_reducible rfl
      rotate_left
      · simp only [Act.put, List.setIfInBounds_toArray, List.set_cons_zero, List.set_cons_succ, i64_w, i32_w]
        rfl
      refine pure_ (i := 17) (N := some 94) (v := ?_) (a' := ?_) #[true, true, true, true, true, true, true, true, true, true, true, true, true, true, true, true, true, true, false, false, false, false, false, false] rfl rfl (any_of HT_.out (by kernel_rfl)) (fun _ _ _ h => h) (Or.inl ⟨by rfl, ?_⟩) ?_ ?_
      rotate_left
      · intro w'
        go_simp
        with_reducible rfl
      rotate_left
      · simp only [Act.put, List.setIfInBounds_toArray, List.set_cons_zero, List.set_cons_succ, i64_w, i32_w]
        rfl
      refine pure_ (i := 18) (N := some 95) (v := ?_) (a' := ?_) #[true, true, true, true, true, true, true, true, true, true, true, true, true, true, true, true, true, true, true, false, false, false, false, false] rfl rfl (any_of HT_.out (by kernel_rfl)) (fun _ _ _ h => h) (Or.inl ⟨by rfl, ?_⟩) ?_ ?_
      rotate_left
      · intro w'
        go_simp
        with_reducible rfl
      rotate_left
      · simp only [Act.put, List.setIfInBounds_toArray, List.set_cons_zero, List.set_cons_succ, i64_w, i32_w]
        rfl
      refine pure_ (i := 19) (N := some 96) (v := ?_) (a' := ?_) #[true, true, true, true, true, true, true, true, true, true, true, true, true, true, true, true, true, true, true, true, false, false, false, false] rfl rfl (any_of HT_.out (by kernel_rfl)) (fun _ _ _ h => h) (Or.inl ⟨by rfl, ?_⟩) ?_ ?_
      rotate_left
      · intro w'
        go_simp
        with_reducible rfl
      rotate_left
      · simp only [Act.put, List.setIfInBounds_toArray, List.set_cons_zero, List.set_cons_succ, i64_w, i32_w]
        rfl
      refine one_ (i := 20) (N := some 97) #[true, true, true, true, true, true, true, true, true, true, true, true, true, true, true, true, true, true, true, true, true, false, false, false] rfl rfl (one_of HT_.out (by kernel_rfl)) (by decide) (fun K hK => ?_)
      refine goes_ Tryd.func19 (by kernel_rfl) rfl #[.pointer (some ⟨gh, 0, none⟩), .slice A l.length c, .int .i64 (m : Int)] (by rfl) rfl rfl (by (try simp only [List.map_toArray, List.map_cons, List.map_nil]); first | done | rfl) ?_
      refine (rproof_calls gh A c l m _ (heap_keep HG7.out hHeld) (Kd.C_below HR7.out hHeld) hc HY.out (by have := HLE.out; omega) HM.out).mono ?_
      rintro e w9 ⟨v, rfl, ho, hb⟩
      refine ⟨_, rfl, ?_⟩
      have hS1 := below_step hHeld hb
      rw [HPE.out] at ho
      obtain ⟨A9, c9, rfl, hc9, hr9⟩ := Kd.R_reads ho
      have HC9 := Aside0.mk hr9
      clear hb ho hr9
      refine hK.out _ _ (by exact hS1) (fun hHeld => ?_)
      clear hK K
      refine norm_ (a' := ?_) ?_ ?_
      rotate_left
      · first
        | (show Act.put _ (some 97) _ = _; simp only [Act.put, List.setIfInBounds_toArray, List.set_cons_zero, List.set_cons_succ, i64_w, i32_w]; rfl)
        | rfl
      refine one_ (i := 21) (N := some 98) #[true, true, true, true, true, true, true, true, true, true, true, true, true, true, true, true, true, true, true, true, true, true, false, false] rfl rfl (one_of HT_.out (by kernel_rfl)) (by decide) (fun K hK => ?_)
      refine goes_ Tryd.func18 (by kernel_rfl) rfl #[.slice A7 pf.length c7, .slice A9 pf.length c9] (by rfl) rfl rfl (by (try simp only [List.map_toArray, List.map_cons, List.map_nil]); first | done | rfl) ?_
      refine (same_calls A7 A9 c7 c9 pf _ (Kd.C_below HPF.out hHeld) HC9.out hc7 hc9 HPL.out).mono ?_
      rintro e w10 ⟨rfl, hb⟩
      refine ⟨_, rfl, ?_⟩
      have hS1 := below_step hHeld hb
      clear hb
      refine hK.out _ _ (by exact hS1) (fun hHeld => ?_)
      clear hK K
      refine norm_ (a' := ?_) ?_ ?_
      rotate_left
      · first
        | (show Act.put _ (some 98) _ = _; simp only [Act.put, List.setIfInBounds_toArray, List.set_cons_zero, List.set_cons_succ, i64_w, i32_w]; rfl)
        | rfl
      refine pure_ (i := 22) (N := some 99) (v := ?_) (a' := ?_) #[true, true, true, true, true, true, true, true, true, true, true, true, true, true, true, true, true, true, true, true, true, true, true, false] rfl rfl (any_of HT_.out (by kernel_rfl)) (fun _ _ _ h => h) (Or.inl ⟨by rfl, ?_⟩) ?_ ?_
      rotate_left
      · intro w'
        go_simp
        with_reducible rfl
      rotate_left
      · simp only [Act.put, List.setIfInBounds_toArray, List.set_cons_zero, List.set_cons_succ, i64_w, i32_w]
        rfl
      refine pure_ (i := 23) (N := some 100) (v := ?_) (a' := ?_) #[true, true, true, true, true, true, true, true, true, true, true, true, true, true, true, true, true, true, true, true, true, true, true, true] rfl rfl (any_of HT_.out (by kernel_rfl)) (fun _ _ _ h => h) (Or.inl ⟨by rfl, ?_⟩) ?_ ?_
      rotate_left
      · intro w'
        go_simp
        with_reducible rfl
      rotate_left
      · simp only [Act.put, List.setIfInBounds_toArray, List.set_cons_zero, List.set_cons_succ, i64_w, i32_w]
        rfl
      refine done_ (done_of HT_.out (by kernel_rfl)) ?_
      have HBz := Aside0.mk hHeld
      clear hS0 hHeld HT_ HW_
      go_wp2_with fail
      go_loopw [103] (fun i wr => ∃ k : Nat, k ≤ ch.length ∧ i = .int .i64 (k : Int) ∧ Aside0 (PB wr A6 ch.length wc.heap.size) ∧ Aside0 (Below wc.heap.size wc wr)) (fun i _ => ch.length - (intOf i).toNat)
      case atStart => exact ⟨0, Nat.zero_le _, rfl, ⟨HPB.out.below HBz.out⟩, ⟨below_step HX7.out HBz.out⟩⟩
      case round =>
        clear HPB
        obtain ⟨k, hk, rfl, HPB, HB⟩ := hrel
        have hk12 : ch.length ≤ 1200 := HCLE.out
        by_cases hlt : k < ch.length
        · obtain ⟨b, rfl, hbb, HBl⟩ := HPB.out (by omega)
          obtain ⟨y, hcell, hfr⟩ := HBl.cell k hlt
          have HBL := Aside0.mk HBl
          clear HBl HPB
          go_wp2
          go_roundw
          case rel => exact ⟨k + 1, by omega, by go_num, ⟨fun _ => ⟨b, rfl, hbb, HBL.out.set k _⟩⟩, ⟨HB.out.setCell hbb _⟩⟩
          case measure => simp [intOf]; omega
        · obtain rfl : k = ch.length := by omega
          have h4 : (convert 22 9 (.slice A2 l.length c2)).run Tryd.prog wr = .ok (.string (strOfNums l)) wr := Kd.C_string Tryd.underlying22 Tryd.underlying5 Tryd.underlying9 (Kd.C_below HCPx.out HB.out)
          have h0 : (convert 22 9 (.slice A l.length c)).run Tryd.prog wr = .ok (.string (strOfNums l)) wr := Kd.C_string Tryd.underlying22 Tryd.underlying5 Tryd.underlying9 (Kd.C_below HR4.out (below_step HBx.out HB.out))
          go_wp2_with fail
          refine (known_calls _ (HTx.out.below HB.out)).mono ?_
          rintro e w12 ⟨rfl, hb⟩
          have HBZ := Aside0.mk (HJ4.out _ (below_step HBx.out (below_step HB.out hb)))
          clear hb
          go_wp2
          go_ret
          exact ⟨rfl, HBZ.out⟩
theorem trees_walk (a0 : Option Addr) (c0 : Nat) (x0 : List Int) (a1 a2 : Int) (w : World) (hT : Tab w) (C0 : B.C w a0 x0.length x0) (l0 : x0.length ≤ c0) (k0 : ∀ x ∈ x0, (Lit.int .u8 x).wf = true) (k1 : (Lit.int .i64 a1).wf = true) (k2 : (Lit.int .i64 a2).wf = true) :
    Calls Tryd.prog 4 #[.slice a0 x0.length c0, .int .i64 a1, .int .i64 a2] w fun e w' => e = .returned (.bool true) ∧ Below w.heap.size w w' :=
  trees_calls a0 c0 x0 a1 a2 w C0 l0 (bytes_wf k0) (by have := bounds_i64 k1; omega) hT
end Go.Proofs.YtllcofllnjgkcaaDoor.Ref
