/- What calls of Go functions of this seat come to, as the rows need it: under the conditions that each theorem names. -/
import Derived.Test.YtebjibkgefgalaaDoorJRef
namespace Go.Proofs.YtebjibkgefgalaaDoor.Jr
open Go.RowKit Go.Proofs.YtebjibkgefgalaaDoorW.PrintWords Go.Proofs.YtebjibkgefgalaaDoorW.PrintLast Go.Proofs.YtebjibkgefgalaaDoorW.PrintMore
set_option linter.unusedVariables false
set_option linter.unusedSimpArgs false
open Go.Proofs.YtebjibkgefgalaaDoor.Hand (B formL rowL rbytes_calls formL_len info5 bytesL bytesL_eq bytesL_inv)
open Go.Proofs.YtebjibkgefgalaaDoor.Sha (heap_new heap_keep cell_of midB)
open Go.Proofs.YtebjibkgefgalaaDoor.Ref (hk)
/-- A step, as the reference asks for it. -/
theorem stepJ_ref {b : List Int} {a : Nat} {x : List Int} (hb : bys b) (hL : b.length < 18446744073709551616) (h : bytesL b (a : Nat) 8000 = (x, (a : Int) + (rowL x).length, 0)) (hd : b.drop a = rowL x ++ b.drop (a + (rowL x).length)) (hx : okR x) :
    stepJ b a = if (b.length : Int) - (a : Int) < ((jform x).length : Int) then none else if jform x = (b.drop a).take (jform x).length then some (x, a + (jform x).length) else none := by
  have hjl := jform_len x
  unfold stepJ
  rw [h]
  simp only []
  rw [show ((a : Int) + (rowL x).length).toNat = a + (rowL x).length by omega]
  by_cases h1 : (b.length : Int) - (a : Int) < ((jform x).length : Int)
  · rw [if_pos h1, if_pos (.inr (.inr (by omega)))]
  · rw [if_neg h1, if_neg]
    · have h2 : (b.drop a).take (jform x).length = rowL x ++ (b.drop (a + (rowL x).length)).take 8 := by
        rw [hjl]
        conv => lhs; rw [hd]
        rw [List.take_append, List.take_of_length_le (by omega)]
        congr 2
        omega
      rw [h2]
      by_cases h3 : chk x = (b.drop (a + (rowL x).length)).take 8
      · rw [if_neg (fun h => h h3), if_pos (by rw [jform, h3])]
        rw [hjl]
        rfl
      · have h4 : ¬ jform x = rowL x ++ (b.drop (a + (rowL x).length)).take 8 := fun h => h3 (List.append_cancel_left (show rowL x ++ chk x = _ from h))
        rw [if_pos h3, if_neg h4]
    · have := hx.1
      rintro (h | h | h) <;> first | exact h rfl | omega
theorem take_drop_len (b : List Int) (a n : Nat) : (b.take (a + n)).drop a = (b.drop a).take n := by rw [List.drop_take]; congr 1; omega
def rrj_T7 : Bool × List (List Nat × List Nat) := (true, [([], []), ([0], [0]), ([], []), ([1, 2], [1, 2]), ([], []), ([4], [4]), ([3, 5], [3, 5]), ([6], [6]), ([7], [7]), ([8, 7], [7, 8]), ([7], [7]), ([7], [7]), ([7], [7]), ([7], [7]), ([13, 7], [7, 13]), ([12, 14, 7], [7, 12, 14]), ([10, 11, 15, 7], [7, 10, 11, 15]), ([16, 7], [7, 16]), ([9, 17, 7], [7, 9, 17]), ([7, 18], [7, 18])])
def rrj_B7 : List Nat := [0, 1, 0, 7, 0, 16, 63, 127, 255, 511, 255, 255, 255, 255, 8447, 28927, 64767, 130303, 262143, 524287]
theorem rrj_tab7 : rtab .any (opsOf Tryd.f14 7) = rrj_T7 := by kernel_rfl
theorem rrj_bits7 : waitsOk rrj_T7.2 rrj_B7 = true := by kernel_rfl
set_option maxHeartbeats 3200000 in
set_option maxRecDepth 100000 in
theorem rread_calls (gh : Nat) (A : Option Addr) (c : Nat) (b : List Int) (w : World) (hg : w.heap[gh]? = some (.cells hk 52 (0, 0))) (hr : B.C w A b.length b) (hc : b.length ≤ c) (hb : bys b) (hL : b.length < 1000000000) :
    Calls Tryd.prog 14 #[.pointer (some ⟨gh, 0, none⟩), .slice A b.length c] w fun e w' => ∃ v, e = .returned (.tuple #[v, .int .i64 ((readJ b).2 : Int)]) ∧ Kd.R KB 22 w' w.heap.size (fun _ => True) v (readJ b).1 ∧ Below w.heap.size w w' := by
  have HY := Aside0.mk hb
  have HLL := Aside0.mk hL
  have HR := Aside0.mk hr
  have HG := Aside0.mk hg
  have hl63 : b.length ≤ 9223372036854775807 := hr.2.1
  clear hr hg hb hL
  go_enter Tryd.func14, Tryd.ntmps14
  go_wp2
  go_loopw [6, 7] (fun v u wr => ∃ (pre : List (List Int)) (a : Nat), u = .int .i64 (a : Int) ∧ Aside0 (Got b pre a) ∧ Aside0 (pre.length ≤ a) ∧ Aside0 (Kd.R KB 22 wr w.heap.size (fun _ => True) v pre) ∧ Aside0 (Below w.heap.size w wr)) (fun _ u _ => b.length - (intOf u).toNat)
  case atStart => exact ⟨[], 0, rfl, ⟨Got.start b⟩, ⟨Nat.le_refl _⟩, ⟨Kd.R_nil _ _ _ _ _⟩, ⟨Below.refl _ _⟩⟩
  case round =>
    obtain ⟨pre, a, rfl, HGT, HPA, HO, HB⟩ := hrel
    have hag : a ≤ b.length := HGT.out.1
    have hbl := HLL.out
    go_wp2_with fail
    refine (rbytes_calls A c b (a : Int) 8000 _ (Kd.C_below HR.out HB.out) hc HY.out (by omega) (by omega)).mono ?_
    rintro e w1 ⟨v, rfl, ho, hb⟩
    have HST := Aside0.mk (fun h => (show stepJ b a = none by unfold stepJ; rw [if_pos h]))
    have HIN := Aside0.mk (fun h => bytesL_inv b a 8000 HY.out (by omega) h)
    have HBD := Aside0.mk hb
    clear hb
    obtain ⟨x, nx, er, hx⟩ : ∃ x nx er, bytesL b (a : Int) 8000 = (x, nx, er) := ⟨_, _, _, rfl⟩
    rw [hx] at ho HST HIN ⊢
    replace HST := Aside0.mk (show (er ≠ 0 ∨ x.length = 0 ∨ (b.length : Int) - nx < 8) → stepJ b a = none from HST.out)
    replace HIN := Aside0.mk (show er = 0 → _ from HIN.out)
    have HX := Aside0.mk (show Kd.R B 5 w1 wr.heap.size (fun _ => True) v x from ho)
    have HBX := Aside0.mk hx
    clear ho hx
    obtain ⟨A1, c1, rfl, hc1, hr1⟩ := Kd.R_reads HX.out
    have HC1 := Aside0.mk hr1
    have HO1 := Aside0.mk (Kd.R_below HO.out HBD.out)
    have HB1 := Aside0.mk (below_step HB.out HBD.out)
    obtain ⟨A0, c0, rfl, hc0, _⟩ := Kd.R_reads HO.out
    have HXO := Aside0.mk (by obtain ⟨inner, hin⟩ := Kd.R_own HO.out; exact Kd.R_lower (Kd.R_new HX.out hin) HB.out.size)
    have hx63 : x.length ≤ 9223372036854775807 := hr1.2.1
    have hpl : pre.length ≤ 9223372036854775807 := by have := HPA.out; omega
    clear hr1
    by_cases he : er = 0
    case neg =>
      have HV := Aside0.mk (HGT.out.stop (HST.out (.inl he)))
      have e1 : (er != 0) = true := by rw [bne_iff_ne]; exact he
      have e2 : (er == 0) = false := by rw [beq_eq_false_iff_ne]; exact he
      clear he
      go_wp2
      go_ret2
      rw [HV.out]
      exact ⟨_, rfl, HO1.out, HB1.out⟩
    subst he
    obtain ⟨y, hy, hyl, hy8, hye, _, hyd⟩ := HIN.out rfl
    obtain ⟨rfl, rfl⟩ : x = y ∧ nx = (a : Int) + (rowL y).length := by
      have h1 := congrArg Prod.fst hye
      have h2 := congrArg (fun p => p.2.1) hye
      exact ⟨h1, h2⟩
    have HYB := Aside0.mk hy
    have HYD := Aside0.mk hyd
    have hx8 : x.length ≤ 8000 := by omega
    clear hye HIN hyd hyl hy hy8
    go_wp2_with fail
    refine (rmay_calls A1 c1 x _ hx63 hc1).mono ?_
    rintro e w2 ⟨rfl, hw2⟩
    replace hw2 := hw2.symm
    subst hw2
    cases hok : okB x with
    | false =>
      have HV := Aside0.mk (HGT.out.stop (HST.out (.inr (.inl (by
        have h1 : ¬ okR x := fun h => by rw [(okB_iff x).2 h] at hok; cases hok
        exact Classical.byContradiction fun h2 => h1 ⟨by omega, hx8⟩)))))
      clear hok
      go_wp2
      go_ret2
      rw [HV.out]
      exact ⟨_, rfl, HO1.out, HB1.out⟩
    | true =>
    have HOK := Aside0.mk ((okB_iff x).1 hok)
    have HSR := Aside0.mk (stepJ_ref (b := b) (a := a) (x := x) HY.out (by omega) HBX.out HYD.out HOK.out)
    clear hok HST HBX HYD
    go_wp2_with fail
    refine (rform_calls' gh A1 c1 x _ (heap_keep HG.out HB1.out) HC1.out hc1 HYB.out (by omega)).mono ?_
    rintro e w2 ⟨v2, rfl, ho, hb⟩
    obtain ⟨A6, c6, rfl, hc6, hr6⟩ := Kd.R_reads ho
    have HC6 := Aside0.mk hr6
    have HB12 := Aside0.mk hb
    have HB2 := Aside0.mk (below_step HB1.out hb)
    have HJL := Aside0.mk (show (jform x).length ≤ 8020 by have := jform_len x; have := (rowL_len x (by omega)).2; omega)
    have HJ1 := Aside0.mk (show 10 ≤ (jform x).length by have h1 := jform_len x; have h2 := (rowL_len x (by omega)).1; have h3 := HOK.out.1; omega)
    have HJB := Aside0.mk (show bys (jform x) from Hand.bytes_append (Hand.bytes_row HYB.out (by omega)) (fun y hy => Sha.shaI_bytes x y (List.mem_of_mem_take hy)))
    clear ho hb hr6
    have hj63 : (jform x).length ≤ 9223372036854775807 := by have := HJL.out; omega
    have hS0 : Below w2.heap.size w2 w2.drew := below_drew1 (Below.refl _ _)
    have hwn : Go.RowKit.wrap64 ((b.length : Int) - (a : Int)) = (b.length : Int) - (a : Int) := by unfold Go.RowKit.wrap64; omega
    by_cases hlt : (b.length : Int) - (a : Int) < ((jform x).length : Int)
    · have HV := Aside0.mk (HGT.out.stop (by rw [HSR.out, if_pos hlt]))
      have e3 : decide ((b.length : Int) - (a : Int) < ((jform x).length : Int)) = true := decide_eq_true hlt
      clear hlt
      go_upto_region 7 with (fail)
      refine start_ (n := 20) (S := fun w' => Below w2.heap.size w2 w') (ds := []) #[false, false, false, false, false, false, false, false, false, false, false, false, false, false, false, false, false, false, false, false] (by kernel_rfl) rfl rfl (by exact hS0) (fun hHeld => ?_)
      refine with_tabW rrj_tab7 rrj_bits7 (fun HT_ HW_ => ?_)
      refine pure_ (i := 0) (N := some 31) (v := ?_) (a' := ?_) #[true, false, false, false, false, false, false, false, false, false, false, false, false, false, false, false, false, false, false, false] rfl rfl (any_of HT_.out (by kernel_rfl)) (fun _ _ _ h => h) (Or.inl ⟨by rfl, ?_⟩) ?_ ?_
      rotate_left
      · intro w'
        go_simp
        with_reducible rfl
      rotate_left
      · simp only [Act.put, List.setIfInBounds_toArray, List.set_cons_zero, List.set_cons_succ, i64_w, i32_w]
        rfl
      refine pure_ (i := 1) (N := some 32) (v := ?_) (a' := ?_) #[true, true, false, false, false, false, false, false, false, false, false, false, false, false, false, false, false, false, false, false] rfl rfl (any_of HT_.out (by kernel_rfl)) (fun _ _ _ h => h) (Or.inl ⟨by rfl, ?_⟩) ?_ ?_
      rotate_left
      · intro w'
        go_simp
        with_reducible rfl
      rotate_left
      · simp only [Act.put, List.setIfInBounds_toArray, List.set_cons_zero, List.set_cons_succ, i64_w, i32_w]
        rfl
      refine pure_ (i := 2) (N := some 33) (v := ?_) (a' := ?_) #[true, true, true, false, false, false, false, false, false, false, false, false, false, false, false, false, false, false, false, false] rfl rfl (any_of HT_.out (by kernel_rfl)) (fun _ _ _ h => h) (Or.inl ⟨by rfl, ?_⟩) ?_ ?_
      rotate_left
      · intro w'
        go_simp
        with_reducible rfl
      rotate_left
      · simp only [Act.put, List.setIfInBounds_toArray, List.set_cons_zero, List.set_cons_succ, i64_w, i32_w]
        rfl
      refine pure_ (i := 3) (N := some 34) (v := ?_) (a' := ?_) #[true, true, true, true, false, false, false, false, false, false, false, false, false, false, false, false, false, false, false, false] rfl rfl (any_of HT_.out (by kernel_rfl)) (fun _ _ _ h => h) (Or.inl ⟨by rfl, ?_⟩) ?_ ?_
      rotate_left
      · intro w'
        go_simp
        with_reducible rfl
      rotate_left
      · simp only [Act.put, List.setIfInBounds_toArray, List.set_cons_zero, List.set_cons_succ, i64_w, i32_w]
        rfl
      refine pure_ (i := 4) (N := some 35) (v := ?_) (a' := ?_) #[true, true, true, true, true, false, false, false, false, false, false, false, false, false, false, false, false, false, false, false] rfl rfl (any_of HT_.out (by kernel_rfl)) (fun _ _ _ h => h) (Or.inl ⟨by rfl, ?_⟩) ?_ ?_
      rotate_left
      · intro w'
        go_simp
        with_reducible rfl
      rotate_left
      · simp only [Act.put, List.setIfInBounds_toArray, List.set_cons_zero, List.set_cons_succ, i64_w, i32_w]
        rfl
      refine pure_ (i := 5) (N := some 36) (v := ?_) (a' := ?_) #[true, true, true, true, true, true, false, false, false, false, false, false, false, false, false, false, false, false, false, false] rfl rfl (any_of HT_.out (by kernel_rfl)) (fun _ _ _ h => h) (Or.inl ⟨by rfl, ?_⟩) ?_ ?_
      rotate_left
      · intro w'
        go_simp
        with_reducible rfl
      rotate_left
      · simp only [Act.put, List.setIfInBounds_toArray, List.set_cons_zero, List.set_cons_succ, i64_w, i32_w]
        rfl
      refine pure_ (i := 6) (N := some 37) (v := ?_) (a' := ?_) #[true, true, true, true, true, true, true, false, false, false, false, false, false, false, false, false, false, false, false, false] rfl rfl (any_of HT_.out (by kernel_rfl)) (fun _ _ _ h => h) (Or.inl ⟨by rfl, ?_⟩) ?_ ?_
      rotate_left
      · intro w'
        go_simp
        with_reducible rfl
      rotate_left
      · simp only [Act.put, List.setIfInBounds_toArray, List.set_cons_zero, List.set_cons_succ, i64_w, i32_w]
        rfl
      refine pure_ (i := 7) (N := some 38) (v := ?_) (a' := ?_) #[true, true, true, true, true, true, true, true, false, false, false, false, false, false, false, false, false, false, false, false] rfl rfl (any_of HT_.out (by kernel_rfl)) (fun _ _ _ h => h) (Or.inl ⟨by rfl, ?_⟩) ?_ ?_
      rotate_left
      · intro w'
        go_simp
        with_reducible rfl
      rotate_left
      · simp only [Act.put, List.setIfInBounds_toArray, List.set_cons_zero, List.set_cons_succ, i64_w, i32_w]
        rfl
      refine pure_ (i := 8) (N := some 39) (v := undef) (a' := ?_) #[true, true, true, true, true, true, true, true, true, false, false, false, false, false, false, false, false, false, false, false] rfl rfl (any_of HT_.out (by kernel_rfl)) (fun _ _ _ h => h) (Or.inr ⟨by rfl, rfl⟩) ?_ ?_
      rotate_left
      · simp only [Act.put, List.setIfInBounds_toArray, List.set_cons_zero, List.set_cons_succ, i64_w, i32_w]
        rfl
      refine pure_ (i := 9) (N := some 40) (v := undef) (a' := ?_) #[true, true, true, true, true, true, true, true, true, true, false, false, false, false, false, false, false, false, false, false] rfl rfl (any_of HT_.out (by kernel_rfl)) (fun _ _ _ h => h) (Or.inr ⟨by rfl, rfl⟩) ?_ ?_
      rotate_left
      · simp only [Act.put, List.setIfInBounds_toArray, List.set_cons_zero, List.set_cons_succ, i64_w, i32_w]
        rfl
      refine pure_ (i := 10) (N := some 41) (v := undef) (a' := ?_) #[true, true, true, true, true, true, true, true, true, true, true, false, false, false, false, false, false, false, false, false] rfl rfl (any_of HT_.out (by kernel_rfl)) (fun _ _ _ h => h) (Or.inr ⟨by rfl, rfl⟩) ?_ ?_
      rotate_left
      · simp only [Act.put, List.setIfInBounds_toArray, List.set_cons_zero, List.set_cons_succ, i64_w, i32_w]
        rfl
      refine pure_ (i := 11) (N := some 42) (v := undef) (a' := ?_) #[true, true, true, true, true, true, true, true, true, true, true, true, false, false, false, false, false, false, false, false] rfl rfl (any_of HT_.out (by kernel_rfl)) (fun _ _ _ h => h) (Or.inr ⟨by rfl, rfl⟩) ?_ ?_
      rotate_left
      · simp only [Act.put, List.setIfInBounds_toArray, List.set_cons_zero, List.set_cons_succ, i64_w, i32_w]
        rfl
      refine pure_ (i := 12) (N := some 43) (v := undef) (a' := ?_) #[true, true, true, true, true, true, true, true, true, true, true, true, true, false, false, false, false, false, false, false] rfl rfl (any_of HT_.out (by kernel_rfl)) (fun _ _ _ h => h) (Or.inr ⟨by rfl, rfl⟩) ?_ ?_
      rotate_left
      · simp only [Act.put, List.setIfInBounds_toArray, List.set_cons_zero, List.set_cons_succ, i64_w, i32_w]
        rfl
      refine pure_ (i := 13) (N := some 44) (v := undef) (a' := ?_) #[true, true, true, true, true, true, true, true, true, true, true, true, true, true, false, false, false, false, false, false] rfl rfl (any_of HT_.out (by kernel_rfl)) (fun _ _ _ h => h) (Or.inr ⟨by rfl, rfl⟩) ?_ ?_
      rotate_left
      · simp only [Act.put, List.setIfInBounds_toArray, List.set_cons_zero, List.set_cons_succ, i64_w, i32_w]
        rfl
      refine pure_ (i := 14) (N := some 45) (v := undef) (a' := ?_) #[true, true, true, true, true, true, true, true, true, true, true, true, true, true, true, false, false, false, false, false] rfl rfl (any_of HT_.out (by kernel_rfl)) (fun _ _ _ h => h) (Or.inr ⟨by rfl, rfl⟩) ?_ ?_
      rotate_left
      · simp only [Act.put, List.setIfInBounds_toArray, List.set_cons_zero, List.set_cons_succ, i64_w, i32_w]
        rfl
      refine pure_ (i := 15) (N := some 46) (v := undef) (a' := ?_) #[true, true, true, true, true, true, true, true, true, true, true, true, true, true, true, true, false, false, false, false] rfl rfl (any_of HT_.out (by kernel_rfl)) (fun _ _ _ h => h) (Or.inr ⟨by rfl, rfl⟩) ?_ ?_
      rotate_left
      · simp only [Act.put, List.setIfInBounds_toArray, List.set_cons_zero, List.set_cons_succ, i64_w, i32_w]
        rfl
      refine pure_ (i := 16) (N := some 47) (v := undef) (a' := ?_) #[true, true, true, true, true, true, true, true, true, true, true, true, true, true, true, true, true, false, false, false] rfl rfl (any_of HT_.out (by kernel_rfl)) (fun _ _ _ h => h) (Or.inr ⟨by rfl, rfl⟩) ?_ ?_
      rotate_left
      · simp only [Act.put, List.setIfInBounds_toArray, List.set_cons_zero, List.set_cons_succ, i64_w, i32_w]
        rfl
      refine pure_ (i := 17) (N := some 48) (v := undef) (a' := ?_) #[true, true, true, true, true, true, true, true, true, true, true, true, true, true, true, true, true, true, false, false] rfl rfl (any_of HT_.out (by kernel_rfl)) (fun _ _ _ h => h) (Or.inr ⟨by rfl, rfl⟩) ?_ ?_
      rotate_left
      · simp only [Act.put, List.setIfInBounds_toArray, List.set_cons_zero, List.set_cons_succ, i64_w, i32_w]
        rfl
      refine pure_ (i := 18) (N := some 49) (v := undef) (a' := ?_) #[true, true, true, true, true, true, true, true, true, true, true, true, true, true, true, true, true, true, true, false] rfl rfl (any_of HT_.out (by kernel_rfl)) (fun _ _ _ h => h) (Or.inr ⟨by rfl, rfl⟩) ?_ ?_
      rotate_left
      · simp only [Act.put, List.setIfInBounds_toArray, List.set_cons_zero, List.set_cons_succ, i64_w, i32_w]
        rfl
      refine pure_ (i := 19) (N := some 50) (v := ?_) (a' := ?_) #[true, true, true, true, true, true, true, true, true, true, true, true, true, true, true, true, true, true, true, true] rfl rfl (any_of HT_.out (by kernel_rfl)) (fun _ _ _ h => h) (Or.inl ⟨by rfl, ?_⟩) ?_ ?_
      rotate_left
      · intro w'
        go_simp
        with_reducible rfl
      rotate_left
      · simp only [Act.put, List.setIfInBounds_toArray, List.set_cons_zero, List.set_cons_succ, i64_w, i32_w]
        rfl
      refine done_ (done_of HT_.out (by kernel_rfl)) ?_
      have HO9 := Aside0.mk (Kd.R_below (Kd.R_below HO1.out HB12.out) hHeld)
      have HB9 := Aside0.mk (below_step HB2.out hHeld)
      clear hS0 hHeld HT_ HW_
      go_wp2
      go_ret2
      rw [HV.out]
      exact ⟨_, rfl, HO9.out, HB9.out⟩
    have e3 : decide ((b.length : Int) - (a : Int) < ((jform x).length : Int)) = false := decide_eq_false hlt
    replace HSR := Aside0.mk (show stepJ b a = if jform x = (b.drop a).take (jform x).length then some (x, a + (jform x).length) else none by rw [HSR.out, if_neg hlt])
    have han : a + (jform x).length ≤ b.length := by omega
    obtain ⟨A7, c7, hmid, hmr, hmc⟩ := midB A c b a (a + (jform x).length) (by omega) han hc
    have HM7a := hmr _ (Kd.C_below HR.out HB2.out)
    rw [take_drop_len] at hmid HM7a hmc
    have HM7 := Aside0.mk HM7a
    have hEQ := str_eqB HJB.out (show bys ((b.drop a).take (jform x).length) from Hand.bytes_take (Hand.bytes_drop HY.out a) _)
    obtain ⟨z, hz⟩ : ∃ z, decide (jform x = (b.drop a).take (jform x).length) = z := ⟨_, rfl⟩
    rw [hz] at hEQ
    have HEQ := Aside0.mk hEQ
    replace HSR := Aside0.mk (show stepJ b a = if z = false then none else some (x, a + (jform x).length) by
      rw [HSR.out, ← hz]
      by_cases h : jform x = (b.drop a).take (jform x).length
      · rw [if_pos h, decide_eq_true h, if_neg (by simp)]
      · rw [if_neg h, decide_eq_false h, if_pos rfl])
    clear HM7a hmr hz hEQ HJB hlt
    generalize (b.drop a).take (jform x).length = M8 at hmid HM7 hmc HEQ
    replace hmid : ∀ W : World, (Instr.slice 22 (.slice A b.length c) (some (.int .i64 (a : Int))) (some (.int .i64 ((a : Int) + ((jform x).length : Int)))) none).run Tryd.prog W = .ok (.slice A7 M8.length c7) W := hmid
    have hwa : Go.RowKit.wrap64 ((a : Int) + ((jform x).length : Int)) = (a : Int) + ((jform x).length : Int) := by have := HJL.out; unfold Go.RowKit.wrap64; omega
    go_upto_region 7 with (fail)
    refine start_ (n := 20) (S := fun w' => Below w2.heap.size w2 w') (ds := []) #[false, false, false, false, false, false, false, false, false, false, false, false, false, false, false, false, false, false, false, false] (by kernel_rfl) rfl rfl (by exact hS0) (fun hHeld => ?_)
    refine with_tabW rrj_tab7 rrj_bits7 (fun HT_ HW_ => ?_)
    generalize w2.drew = w3 at hHeld hS0 ⊢
    refine pure_ (i := 0) (N := some 31) (v := ?_) (a' := ?_) #[true, false, false, false, false, false, false, false, false, false, false, false, false, false, false, false, false, false, false, false] rfl rfl (any_of HT_.out (by kernel_rfl)) (fun _ _ _ h => h) (Or.inl ⟨by rfl, ?_⟩) ?_ ?_
    rotate_left
    · intro w'
      go_simp
      with_reducible rfl
    rotate_left
    · simp only [Act.put, List.setIfInBounds_toArray, List.set_cons_zero, List.set_cons_succ, i64_w, i32_w]
      rfl
    refine pure_ (i := 1) (N := some 32) (v := ?_) (a' := ?_) #[true, true, false, false, false, false, false, false, false, false, false, false, false, false, false, false, false, false, false, false] rfl rfl (any_of HT_.out (by kernel_rfl)) (fun _ _ _ h => h) (Or.inl ⟨by rfl, ?_⟩) ?_ ?_
    rotate_left
    · intro w'
      go_simp
      with_reducible rfl
    rotate_left
    · simp only [Act.put, List.setIfInBounds_toArray, List.set_cons_zero, List.set_cons_succ, i64_w, i32_w]
      rfl
    refine pure_ (i := 2) (N := some 33) (v := ?_) (a' := ?_) #[true, true, true, false, false, false, false, false, false, false, false, false, false, false, false, false, false, false, false, false] rfl rfl (any_of HT_.out (by kernel_rfl)) (fun _ _ _ h => h) (Or.inl ⟨by rfl, ?_⟩) ?_ ?_
    rotate_left
    · intro w'
      go_simp
      with_reducible rfl
    rotate_left
    · simp only [Act.put, List.setIfInBounds_toArray, List.set_cons_zero, List.set_cons_succ, i64_w, i32_w]
      rfl
    refine pure_ (i := 3) (N := some 34) (v := ?_) (a' := ?_) #[true, true, true, true, false, false, false, false, false, false, false, false, false, false, false, false, false, false, false, false] rfl rfl (any_of HT_.out (by kernel_rfl)) (fun _ _ _ h => h) (Or.inl ⟨by rfl, ?_⟩) ?_ ?_
    rotate_left
    · intro w'
      go_simp
      with_reducible rfl
    rotate_left
    · simp only [Act.put, List.setIfInBounds_toArray, List.set_cons_zero, List.set_cons_succ, i64_w, i32_w]
      rfl
    refine pure_ (i := 4) (N := some 35) (v := ?_) (a' := ?_) #[true, true, true, true, true, false, false, false, false, false, false, false, false, false, false, false, false, false, false, false] rfl rfl (any_of HT_.out (by kernel_rfl)) (fun _ _ _ h => h) (Or.inl ⟨by rfl, ?_⟩) ?_ ?_
    rotate_left
    · intro w'
      go_simp
      with_reducible rfl
    rotate_left
    · simp only [Act.put, List.setIfInBounds_toArray, List.set_cons_zero, List.set_cons_succ, i64_w, i32_w]
      rfl
    refine pure_ (i := 5) (N := some 36) (v := ?_) (a' := ?_) #[true, true, true, true, true, true, false, false, false, false, false, false, false, false, false, false, false, false, false, false] rfl rfl (any_of HT_.out (by kernel_rfl)) (fun _ _ _ h => h) (Or.inl ⟨by rfl, ?_⟩) ?_ ?_
    rotate_left
    · intro w'
      go_simp
      with_reducible rfl
    rotate_left
    · simp only [Act.put, List.setIfInBounds_toArray, List.set_cons_zero, List.set_cons_succ, i64_w, i32_w]
      rfl
    refine pure_ (i := 6) (N := some 37) (v := ?_) (a' := ?_) #[true, true, true, true, true, true, true, false, false, false, false, false, false, false, false, false, false, false, false, false] rfl rfl (any_of HT_.out (by kernel_rfl)) (fun _ _ _ h => h) (Or.inl ⟨by rfl, ?_⟩) ?_ ?_
    rotate_left
    · intro w'
      go_simp
      with_reducible rfl
    rotate_left
    · simp only [Act.put, List.setIfInBounds_toArray, List.set_cons_zero, List.set_cons_succ, i64_w, i32_w]
      rfl
    refine pure_ (i := 7) (N := some 38) (v := ?_) (a' := ?_) #[true, true, true, true, true, true, true, true, false, false, false, false, false, false, false, false, false, false, false, false] rfl rfl (any_of HT_.out (by kernel_rfl)) (fun _ _ _ h => h) (Or.inl ⟨by rfl, ?_⟩) ?_ ?_
    rotate_left
    · intro w'
      go_simp
      with_reducible rfl
    rotate_left
    · simp only [Act.put, List.setIfInBounds_toArray, List.set_cons_zero, List.set_cons_succ, i64_w, i32_w]
      rfl
    refine pure_ (i := 8) (N := some 39) (v := ?_) (a' := ?_) #[true, true, true, true, true, true, true, true, true, false, false, false, false, false, false, false, false, false, false, false] rfl rfl (any_of HT_.out (by kernel_rfl)) (fun _ _ _ h => h) (Or.inl ⟨by rfl, ?_⟩) ?_ ?_
    rotate_left
    · intro w'
      go_simp
      with_reducible rfl
    rotate_left
    · simp only [Act.put, List.setIfInBounds_toArray, List.set_cons_zero, List.set_cons_succ, i64_w, i32_w]
      rfl
    refine pure_ (i := 10) (N := some 41) (v := ?_) (a' := ?_) #[true, true, true, true, true, true, true, true, true, false, true, false, false, false, false, false, false, false, false, false] rfl rfl (any_of HT_.out (by kernel_rfl)) (fun _ _ _ h => h) (Or.inl ⟨by rfl, ?_⟩) ?_ ?_
    rotate_left
    · intro w'
      go_simp
      with_reducible rfl
    rotate_left
    · simp only [Act.put, List.setIfInBounds_toArray, List.set_cons_zero, List.set_cons_succ, i64_w, i32_w]
      rfl
    refine pure_ (i := 11) (N := some 42) (v := ?_) (a' := ?_) #[true, true, true, true, true, true, true, true, true, false, true, true, false, false, false, false, false, false, false, false] rfl rfl (any_of HT_.out (by kernel_rfl)) (fun _ _ _ h => h) (Or.inl ⟨by rfl, ?_⟩) ?_ ?_
    rotate_left
    · intro w'
      go_simp
      with_reducible rfl
    rotate_left
    · simp only [Act.put, List.setIfInBounds_toArray, List.set_cons_zero, List.set_cons_succ, i64_w, i32_w]
      rfl
    refine pure_ (i := 12) (N := some 43) (v := ?_) (a' := ?_) #[true, true, true, true, true, true, true, true, true, false, true, true, true, false, false, false, false, false, false, false] rfl rfl (any_of HT_.out (by kernel_rfl)) (fun _ _ _ h => h) (Or.inl ⟨by rfl, ?_⟩) ?_ ?_
    rotate_left
    · intro w'
      go_simp
      with_reducible rfl
    rotate_left
    · simp only [Act.put, List.setIfInBounds_toArray, List.set_cons_zero, List.set_cons_succ, i64_w, i32_w]
      rfl
    refine pure_ (i := 13) (N := some 44) (v := ?_) (a' := ?_) #[true, true, true, true, true, true, true, true, true, false, true, true, true, true, false, false, false, false, false, false] rfl rfl (any_of HT_.out (by kernel_rfl)) (fun _ _ _ h => h) (Or.inl ⟨by rfl, ?_⟩) ?_ ?_
    rotate_left
    · intro w'
      go_simp
      with_reducible rfl
    rotate_left
    · simp only [Act.put, List.setIfInBounds_toArray, List.set_cons_zero, List.set_cons_succ, i64_w, i32_w]
      rfl
    refine pure_ (i := 14) (N := some 45) (v := ?_) (a' := ?_) #[true, true, true, true, true, true, true, true, true, false, true, true, true, true, true, false, false, false, false, false] rfl rfl (any_of HT_.out (by kernel_rfl)) (fun _ _ _ h => h) (Or.inl ⟨by rfl, ?_⟩) ?_ ?_
    rotate_left
    · intro w'
      go_simp
      with_reducible rfl
    rotate_left
    · simp only [Act.put, List.setIfInBounds_toArray, List.set_cons_zero, List.set_cons_succ, i64_w, i32_w]
      rfl
    refine pure_ (i := 15) (N := some 46) (v := ?_) (a' := ?_) #[true, true, true, true, true, true, true, true, true, false, true, true, true, true, true, true, false, false, false, false] rfl rfl (any_of HT_.out (by kernel_rfl)) (fun _ _ _ h => h) (Or.inl ⟨by rfl, ?_⟩) ?_ ?_
    rotate_left
    · intro w'
      go_simp
      with_reducible rfl
    rotate_left
    · simp only [Act.put, List.setIfInBounds_toArray, List.set_cons_zero, List.set_cons_succ, i64_w, i32_w]
      rfl
    refine pure_ (i := 16) (N := some 47) (v := ?_) (a' := ?_) #[true, true, true, true, true, true, true, true, true, false, true, true, true, true, true, true, true, false, false, false] rfl rfl (any_of HT_.out (by kernel_rfl)) (fun _ _ _ h => h) (Or.inl ⟨by rfl, ?_⟩) ?_ ?_
    rotate_left
    · intro w'
      go_simp
      with_reducible rfl
    rotate_left
    · simp only [Act.put, List.setIfInBounds_toArray, List.set_cons_zero, List.set_cons_succ, i64_w, i32_w]
      rfl
    refine take_ (i := 9) (N := some 40) (v := ?_) (a' := ?_) #[true, true, true, true, true, true, true, true, true, true, true, true, true, true, true, true, true, false, false, false] rfl rfl (take_ofW HT_.out HW_.out (by kernel_rfl)) (fun _ _ _ h => h) (Or.inl ⟨by rfl, ?_⟩) hHeld ?_ ?_
    rotate_left
    · intro w' hSt
      have hcv : (convert 22 9 (.slice A6 (jform x).length c6)).run Tryd.prog w' = .ok (.string (strOfNums (jform x))) w' := Kd.C_string Tryd.underlying22 Tryd.underlying5 Tryd.underlying9 (Kd.C_below HC6.out hSt)
      go_simp
      with_reducible rfl
    rotate_left
    · simp only [Act.put, List.setIfInBounds_toArray, List.set_cons_zero, List.set_cons_succ, i64_w, i32_w]
      rfl
    refine take_ (i := 17) (N := some 48) (v := ?_) (a' := ?_) #[true, true, true, true, true, true, true, true, true, true, true, true, true, true, true, true, true, true, false, false] rfl rfl (take_ofW HT_.out HW_.out (by kernel_rfl)) (fun _ _ _ h => h) (Or.inl ⟨by rfl, ?_⟩) hHeld ?_ ?_
    rotate_left
    · intro w' hSt
      have hcv : (convert 22 9 (.slice A7 M8.length c7)).run Tryd.prog w' = .ok (.string (strOfNums M8)) w' := Kd.C_string Tryd.underlying22 Tryd.underlying5 Tryd.underlying9 (Kd.C_below HM7.out hSt)
      go_simp
      with_reducible rfl
    rotate_left
    · simp only [Act.put, List.setIfInBounds_toArray, List.set_cons_zero, List.set_cons_succ, i64_w, i32_w]
      rfl
    refine pure_ (i := 18) (N := some 49) (v := ?_) (a' := ?_) #[true, true, true, true, true, true, true, true, true, true, true, true, true, true, true, true, true, true, true, false] rfl rfl (any_of HT_.out (by kernel_rfl)) (fun _ _ _ h => h) (Or.inl ⟨by rfl, ?_⟩) ?_ ?_
    rotate_left
    · intro w'
      go_simp
      rw [HEQ.out]
    rotate_left
    · simp only [Act.put, List.setIfInBounds_toArray, List.set_cons_zero, List.set_cons_succ, i64_w, i32_w]
      rfl
    refine pure_ (i := 19) (N := some 50) (v := ?_) (a' := ?_) #[true, true, true, true, true, true, true, true, true, true, true, true, true, true, true, true, true, true, true, true] rfl rfl (any_of HT_.out (by kernel_rfl)) (fun _ _ _ h => h) (Or.inl ⟨by rfl, ?_⟩) ?_ ?_
    rotate_left
    · intro w'
      go_simp
      with_reducible rfl
    rotate_left
    · simp only [Act.put, List.setIfInBounds_toArray, List.set_cons_zero, List.set_cons_succ, i64_w, i32_w]
      rfl
    refine done_ (done_of HT_.out (by kernel_rfl)) ?_
    have HB23 := Aside0.mk hHeld
    have HO3 := Aside0.mk (Kd.R_below (Kd.R_below HO1.out HB12.out) hHeld)
    have HB3 := Aside0.mk (below_step HB2.out hHeld)
    have HX3 := Aside0.mk (Kd.R_below (Kd.R_below (Kd.R_below HXO.out (Below.refl _ _)) HB12.out) hHeld)
    clear hS0 hHeld HT_ HW_ HM7 HEQ hmid hmc HO1 HB1 HX HXO HC6 e3 hwn
    cases z with
    | false =>
      have HV := Aside0.mk (HGT.out.stop (by rw [HSR.out, if_pos rfl]))
      go_wp2
      go_ret2
      rw [HV.out]
      exact ⟨_, rfl, HO3.out, HB3.out⟩
    | true =>
    have HG2 := Aside0.mk (HGT.out.step HY.out (by omega) (show stepJ b a = some (x, a + (jform x).length) by rw [HSR.out, if_neg (by simp)]))
    have hpl9 : pre.length < 1000000000 := by have := HPA.out; omega
    go_wp2_with ((with_reducible refine gate_builtin (b := .append) (xs := #[.tmp 53, .tmp 55]) rfl ?_); at_builtin; refine Kd.R_append KB (w0 := w) w.heap.size rfl (.tmp 53) (.tmp 55) 31 22 (.slice none 0 0) 24 rfl Tryd.underlying31 infoB rfl (by decide) (by omega) _ pre x [.slice A1 x.length c1] (fun _ => True) _ rfl rfl ⟨_, rfl, HX3.out⟩ (fun _ h => ⟨trivial, h.2⟩) (fun _ _ => trivial) HO3.out HB3.out HB3.out.size ?aL ?_; (case aL => omega); intro v8 w8 ho hb2 hg hat; have HO8 := Aside0.mk ho; have HB8 := Aside0.mk hb2; clear ho hb2 hg hat)
    go_roundw
    case rel => exact ⟨pre ++ [x], a + (jform x).length, by first | rfl | go_num, HG2, ⟨by have := HPA.out; have := HJ1.out; simp; omega⟩, HO8, HB8⟩
    case measure => have := HJ1.out; simp [intOf]; omega
end Go.Proofs.YtebjibkgefgalaaDoor.Jr
