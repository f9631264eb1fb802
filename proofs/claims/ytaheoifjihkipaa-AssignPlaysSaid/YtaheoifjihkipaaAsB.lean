/- What calls of Go functions of this seat come to, as the rows need it: under the conditions that each theorem names. -/
import Derived.Test.YtaheoifjihkipaaAsA
import Derived.Test.YtaheoifjihkipaaWTab
namespace Go.Proofs.Ytaheoifjihkipaa.As
open Go.RowKit Go.Proofs.YtaheoifjihkipaaW.PrintWords Go.Proofs.YtaheoifjihkipaaW.PrintLast Go.Proofs.YtaheoifjihkipaaW.PrintMore
set_option linter.unusedVariables false
set_option linter.unusedSimpArgs false
def ask_T3 : Bool × List (List Nat × List Nat) := (true, [([], []), ([0], [0]), ([1], [1]), ([2], [2]), ([], []), ([3, 4], [3, 4]), ([5], [5]), ([6], [6]), ([], []), ([8], [8]), ([9], [9]), ([10], [10]), ([], []), ([11, 12], [11, 12]), ([13], [13]), ([14], [14]), ([7, 0, 1, 2, 3, 4, 5, 6, 7], [7]), ([15, 16, 0, 1, 2, 3, 4, 5, 6, 7, 8, 9, 10, 11, 12, 13, 14, 15, 16], [15]), ([17, 0, 1, 2, 3, 4, 5, 6, 7, 8, 9, 10, 11, 12, 13, 14, 15, 16, 17], [])])
def ask_B3 : List Nat := [0, 1, 3, 7, 0, 31, 63, 127, 0, 256, 768, 1792, 0, 7936, 16128, 32512, 255, 131071, 262143]
theorem ask_tab3 : rtab .any (opsOf Try.f18 3) = ask_T3 := by kernel_rfl
theorem ask_bits3 : waitsOk ask_T3.2 ask_B3 = true := by kernel_rfl
def stOf (S : Nat → U) (n : Nat) (i : Int) : Int := if 0 ≤ i ∧ i < n then (S i.toNat).1 else 0
theorem stOf_in {S : Nat → U} {n j : Nat} (h : j < n) : stOf S n (j : Int) = (S j).1 := by
  unfold stOf
  rw [if_pos ⟨by omega, by omega⟩, Int.toNat_natCast]
theorem state_calls {p gc gd gm cc cd n m : Nat} {win tm : Int} {S : Nat → U} {D : Nat → Int} (i : Int) (w : World) (h : Pl w p gc gd gm cc cd n m win tm S D) :
    Calls Try.prog 16 #[.pointer (some ⟨p, 0, none⟩), .int .i64 i] w fun e w' => e = .returned (.int .i64 (stOf S n i)) ∧ w' = w := by
  have hc := h.blk.c0
  have hn := h.n1
  have HP := Aside0.mk h
  have HC := Aside0.mk h.ch
  clear h
  by_cases h0 : 0 ≤ i ∧ i < n
  · obtain ⟨j, rfl⟩ := Int.eq_ofNat_of_zero_le h0.1
    have hj : j < n := by omega
    rw [stOf_in hj]
    have HH := Aside0.mk (decide_eq_true (p := 0 ≤ (j : Int) ∧ (j : Int) < n) ⟨by omega, by omega⟩)
    have hx := (HC.out.cu j hj).1
    clear h0
    go_enter Try.func16, Try.ntmps16
    go_wp2_with fail
    refine (has_calls (j : Int) w HP.out).mono ?_
    rw [HH.out]
    rintro e w1 ⟨rfl, hw⟩
    replace hw := hw.symm
    subst hw
    go_wp2
    go_ret
    exact ⟨rfl, rfl⟩
  · have HH := Aside0.mk (decide_eq_false (p := 0 ≤ i ∧ i < (n : Int)) h0)
    rw [show stOf S n i = 0 from if_neg h0]
    clear h0
    go_enter Try.func16, Try.ntmps16
    go_wp2_with fail
    refine (has_calls i w HP.out).mono ?_
    rw [HH.out]
    rintro e w1 ⟨rfl, hw⟩
    replace hw := hw.symm
    subst hw
    go_wp2
    go_ret
    exact ⟨rfl, rfl⟩

theorem Pl.below {w w' : World} {p gc gd gm cc cd n m : Nat} {win tm : Int} {S : Nat → U} {D : Nat → Int} (h : Pl w p gc gd gm cc cd n m win tm S D) (hb : Below w.heap.size w w') : Pl w' p gc gd gm cc cd n m win tm S D := by
  obtain ⟨cs, a1, a2⟩ := h.ch
  obtain ⟨ds, b1, b2⟩ := h.de
  exact ⟨heap_keep h.blk hb, ⟨cs, heap_keep a1 hb, a2⟩, ⟨ds, heap_keep b1 hb, b2⟩, h.n1, h.m1, h.e1, h.e2, h.e3, h.e4, h.e5, h.e6⟩
def deOf (D : Nat → Int) (m : Nat) (i : Int) : Int := if 0 ≤ i ∧ i < m then D i.toNat else 0
theorem demerits_calls {p gc gd gm cc cd n m : Nat} {win tm : Int} {S : Nat → U} {D : Nat → Int} (i : Int) (w : World) (h : Pl w p gc gd gm cc cd n m win tm S D) :
    Calls Try.prog 17 #[.pointer (some ⟨p, 0, none⟩), .int .i64 i] w fun e w' => e = .returned (.int .i64 (deOf D m i)) ∧ w' = w := by
  have hc := h.blk.c1
  have hm := h.m1
  have HB := Aside0.mk h.blk
  have HD := Aside0.mk h.de
  clear h
  by_cases h0 : 0 ≤ i
  · obtain ⟨j, rfl⟩ := Int.eq_ofNat_of_zero_le h0
    have e0 : decide ((j : Int) < 0) = false := decide_eq_false (by omega)
    by_cases hj : j < m
    · rw [show deOf D m (j : Int) = D j by unfold deOf; rw [if_pos ⟨by omega, by omega⟩, Int.toNat_natCast]]
      have e1 : decide ((j : Int) ≥ (m : Int)) = false := decide_eq_false (by omega)
      have e2 : decide (j ≥ m) = false := decide_eq_false (by omega)
      have e3 : decide (m ≤ j) = false := decide_eq_false (by omega)
      have hx := HD.out.cu j hj
      clear h0
      go_enter Try.func17, Try.ntmps17
      go_wp2_with fail
      refine (ready_calls p gc gd gm cc cd n m win tm w HB.out).mono ?_
      rintro e w1 ⟨rfl, hw⟩
      replace hw := hw.symm
      subst hw
      go_wp2
      go_ret
      exact ⟨rfl, rfl⟩
    · rw [show deOf D m (j : Int) = 0 from if_neg (by omega)]
      have e1 : decide ((j : Int) ≥ (m : Int)) = true := decide_eq_true (by omega)
      have e2 : decide (j ≥ m) = true := decide_eq_true (by omega)
      have e3 : decide (m ≤ j) = true := decide_eq_true (by omega)
      clear h0
      go_enter Try.func17, Try.ntmps17
      go_wp2_with fail
      refine (ready_calls p gc gd gm cc cd n m win tm w HB.out).mono ?_
      rintro e w1 ⟨rfl, hw⟩
      replace hw := hw.symm
      subst hw
      go_wp2
      go_ret
      exact ⟨rfl, rfl⟩
  · rw [show deOf D m i = 0 from if_neg (by omega)]
    have e0 : decide (i < 0) = true := decide_eq_true (by omega)
    clear h0
    go_enter Try.func17, Try.ntmps17
    go_wp2_with fail
    refine (ready_calls p gc gd gm cc cd n m win tm w HB.out).mono ?_
    rintro e w1 ⟨rfl, hw⟩
    replace hw := hw.symm
    subst hw
    go_wp2
    go_ret
    exact ⟨rfl, rfl⟩
theorem asked_no {p gc gd gm cc cd n m : Nat} {win tm : Int} {S : Nat → U} {D : Nat → Int} (i : Int) (w : World) (h : Pl w p gc gd gm cc cd n m win tm S D) (hs : stOf S n i ≠ 1) :
    Calls Try.prog 18 #[.pointer (some ⟨p, 0, none⟩), .int .i64 i] w fun e w' => e = .returned (.tuple #[.int .i64 0, .int .i64 0, .bool false]) ∧ w' = w := by
  have HP := Aside0.mk h
  have hn : (stOf S n i == 1) = false := by rw [beq_eq_false_iff_ne]; exact hs
  have hn2 : (stOf S n i != 1) = true := by simp [hs]
  clear h hs
  go_enter Try.func18, Try.ntmps18
  go_wp2_with fail
  refine (state_calls i w HP.out).mono ?_
  rintro e w1 ⟨rfl, hw⟩
  replace hw := hw.symm
  subst hw
  go_wp2
  go_ret3
  exact ⟨rfl, rfl⟩
theorem stOf_pos {S : Nat → U} {n : Nat} {i : Int} (h : stOf S n i = 1) : 0 ≤ i ∧ i < n := by
  unfold stOf at h
  by_cases h1 : 0 ≤ i ∧ i < (n : Int)
  · exact h1
  · rw [if_neg h1] at h; omega
theorem asked_yes {p gc gd gm cc cd n m : Nat} {win tm : Int} {S : Nat → U} {D : Nat → Int} (j : Nat) (hj : j < n) (w : World) (h : Pl w p gc gd gm cc cd n m win tm S D) (hs : (S j).1 = 1) :
    Calls Try.prog 18 #[.pointer (some ⟨p, 0, none⟩), .int .i64 (j : Int)] w fun e w' => e = .returned (.tuple #[.int .i64 (S j).2.1, .int .i64 (S j).2.2, .bool true]) ∧ Below w.heap.size w w' := by
  have HPW := Aside0.mk h
  have hn := h.n1
  have hs1 : stOf S n (j : Int) = 1 := by rw [stOf_in hj, hs]
  clear h hs
  go_enter Try.func18, Try.ntmps18
  go_wp2_with fail
  refine (state_calls (j : Int) w HPW.out).mono ?_
  rw [hs1]
  rintro e w1 ⟨rfl, hw⟩
  replace hw := hw.symm
  subst hw
  clear hs1
  go_upto_region 3 with (fail)
  have hS0 : Below w.heap.size w w.drew := below_drew1 (Below.refl _ _)
  refine start_ (n := 19) (S := fun w' => Below w.heap.size w w') (ds := []) #[false, false, false, false, false, false, false, false, false, false, false, false, false, false, false, false, false, false, false] (by kernel_rfl) rfl rfl (by exact hS0) (fun hHeld => ?_)
  refine with_tabW ask_tab3 ask_bits3 (fun HT_ HW_ => ?_)
  generalize w.drew = wd at hHeld hS0 ⊢
  refine pure_ (i := 0) (N := some 11) (v := ?_) (a' := ?_) #[true, false, false, false, false, false, false, false, false, false, false, false, false, false, false, false, false, false, false] rfl rfl (any_of HT_.out (by kernel_rfl)) (fun _ _ _ h => h) (Or.inl ⟨by rfl, ?_⟩) ?_ ?_
  rotate_left
  · intro w'
    go_simp
    with_reducible rfl
  rotate_left
  · simp only [Act.put, List.setIfInBounds_toArray, List.set_cons_zero, List.set_cons_succ, i64_w, i32_w]
    rfl
  refine pure_ (i := 1) (N := some 12) (v := ?_) (a' := ?_) #[true, true, false, false, false, false, false, false, false, false, false, false, false, false, false, false, false, false, false] rfl rfl (any_of HT_.out (by kernel_rfl)) (fun _ _ _ h => h) (Or.inl ⟨by rfl, ?_⟩) ?_ ?_
  rotate_left
  · intro w'
    go_simp
    with_reducible rfl
  rotate_left
  · simp only [Act.put, List.setIfInBounds_toArray, List.set_cons_zero, List.set_cons_succ, i64_w, i32_w]
    rfl
  refine pure_ (i := 2) (N := some 13) (v := ?_) (a' := ?_) #[true, true, true, false, false, false, false, false, false, false, false, false, false, false, false, false, false, false, false] rfl rfl (any_of HT_.out (by kernel_rfl)) (fun _ _ _ h => h) (Or.inl ⟨by rfl, ?_⟩) ?_ ?_
  rotate_left
  · intro w'
    go_simp
    with_reducible rfl
  rotate_left
  · simp only [Act.put, List.setIfInBounds_toArray, List.set_cons_zero, List.set_cons_succ, i64_w, i32_w]
    rfl
  refine pure_ (i := 4) (N := some 15) (v := ?_) (a' := ?_) #[true, true, true, false, true, false, false, false, false, false, false, false, false, false, false, false, false, false, false] rfl rfl (any_of HT_.out (by kernel_rfl)) (fun _ _ _ h => h) (Or.inl ⟨by rfl, ?_⟩) ?_ ?_
  rotate_left
  · intro w'
    go_simp
    with_reducible rfl
  rotate_left
  · simp only [Act.put, List.setIfInBounds_toArray, List.set_cons_zero, List.set_cons_succ, i64_w, i32_w]
    rfl
  refine pure_ (i := 8) (N := some 19) (v := ?_) (a' := ?_) #[true, true, true, false, true, false, false, false, true, false, false, false, false, false, false, false, false, false, false] rfl rfl (any_of HT_.out (by kernel_rfl)) (fun _ _ _ h => h) (Or.inl ⟨by rfl, ?_⟩) ?_ ?_
  rotate_left
  · intro w'
    go_simp
    with_reducible rfl
  rotate_left
  · simp only [Act.put, List.setIfInBounds_toArray, List.set_cons_zero, List.set_cons_succ, i64_w, i32_w]
    rfl
  refine pure_ (i := 9) (N := some 20) (v := ?_) (a' := ?_) #[true, true, true, false, true, false, false, false, true, true, false, false, false, false, false, false, false, false, false] rfl rfl (any_of HT_.out (by kernel_rfl)) (fun _ _ _ h => h) (Or.inl ⟨by rfl, ?_⟩) ?_ ?_
  rotate_left
  · intro w'
    go_simp
    with_reducible rfl
  rotate_left
  · simp only [Act.put, List.setIfInBounds_toArray, List.set_cons_zero, List.set_cons_succ, i64_w, i32_w]
    rfl
  refine pure_ (i := 10) (N := some 21) (v := ?_) (a' := ?_) #[true, true, true, false, true, false, false, false, true, true, true, false, false, false, false, false, false, false, false] rfl rfl (any_of HT_.out (by kernel_rfl)) (fun _ _ _ h => h) (Or.inl ⟨by rfl, ?_⟩) ?_ ?_
  rotate_left
  · intro w'
    go_simp
    with_reducible rfl
  rotate_left
  · simp only [Act.put, List.setIfInBounds_toArray, List.set_cons_zero, List.set_cons_succ, i64_w, i32_w]
    rfl
  refine pure_ (i := 12) (N := some 23) (v := ?_) (a' := ?_) #[true, true, true, false, true, false, false, false, true, true, true, false, true, false, false, false, false, false, false] rfl rfl (any_of HT_.out (by kernel_rfl)) (fun _ _ _ h => h) (Or.inl ⟨by rfl, ?_⟩) ?_ ?_
  rotate_left
  · intro w'
    go_simp
    with_reducible rfl
  rotate_left
  · simp only [Act.put, List.setIfInBounds_toArray, List.set_cons_zero, List.set_cons_succ, i64_w, i32_w]
    rfl
  refine take_ (i := 3) (N := some 14) (v := ?_) (a' := ?_) #[true, true, true, true, true, false, false, false, true, true, true, false, true, false, false, false, false, false, false] rfl rfl (take_ofW HT_.out HW_.out (by kernel_rfl)) (fun _ _ _ h => h) (Or.inl ⟨by rfl, ?_⟩) hHeld ?_ ?_
  rotate_left
  · intro w' hSt
    have hx0 := (HPW.out.below hSt).blk.c0
    go_simp
    with_reducible rfl
  rotate_left
  · simp only [Act.put, List.setIfInBounds_toArray, List.set_cons_zero, List.set_cons_succ, i64_w, i32_w]
    rfl
  refine take_ (i := 11) (N := some 22) (v := ?_) (a' := ?_) #[true, true, true, true, true, false, false, false, true, true, true, true, true, false, false, false, false, false, false] rfl rfl (take_ofW HT_.out HW_.out (by kernel_rfl)) (fun _ _ _ h => h) (Or.inl ⟨by rfl, ?_⟩) hHeld ?_ ?_
  rotate_left
  · intro w' hSt
    have hx0 := (HPW.out.below hSt).blk.c0
    go_simp
    with_reducible rfl
  rotate_left
  · simp only [Act.put, List.setIfInBounds_toArray, List.set_cons_zero, List.set_cons_succ, i64_w, i32_w]
    rfl
  refine pure_ (i := 5) (N := some 16) (v := ?_) (a' := ?_) #[true, true, true, true, true, true, false, false, true, true, true, true, true, false, false, false, false, false, false] rfl rfl (any_of HT_.out (by kernel_rfl)) (fun _ _ _ h => h) (Or.inl ⟨by rfl, ?_⟩) ?_ ?_
  rotate_left
  · intro w'
    go_simp
    with_reducible rfl
  rotate_left
  · simp only [Act.put, List.setIfInBounds_toArray, List.set_cons_zero, List.set_cons_succ, i64_w, i32_w]
    rfl
  refine pure_ (i := 6) (N := some 17) (v := ?_) (a' := ?_) #[true, true, true, true, true, true, true, false, true, true, true, true, true, false, false, false, false, false, false] rfl rfl (any_of HT_.out (by kernel_rfl)) (fun _ _ _ h => h) (Or.inl ⟨by rfl, ?_⟩) ?_ ?_
  rotate_left
  · intro w'
    go_simp
    with_reducible rfl
  rotate_left
  · simp only [Act.put, List.setIfInBounds_toArray, List.set_cons_zero, List.set_cons_succ, i64_w, i32_w]
    rfl
  refine take_ (i := 7) (N := some 18) (v := ?_) (a' := ?_) #[true, true, true, true, true, true, true, true, true, true, true, true, true, false, false, false, false, false, false] rfl rfl (take_ofW HT_.out HW_.out (by kernel_rfl)) (fun _ _ _ h => h) (Or.inl ⟨by rfl, ?_⟩) hHeld ?_ ?_
  rotate_left
  · intro w' hSt
    have hx1 := ((HPW.out.below hSt).ch.cu j hj).2.1
    go_simp
    with_reducible rfl
  rotate_left
  · simp only [Act.put, List.setIfInBounds_toArray, List.set_cons_zero, List.set_cons_succ, i64_w, i32_w]
    rfl
  refine pure_ (i := 13) (N := some 24) (v := ?_) (a' := ?_) #[true, true, true, true, true, true, true, true, true, true, true, true, true, true, false, false, false, false, false] rfl rfl (any_of HT_.out (by kernel_rfl)) (fun _ _ _ h => h) (Or.inl ⟨by rfl, ?_⟩) ?_ ?_
  rotate_left
  · intro w'
    go_simp
    with_reducible rfl
  rotate_left
  · simp only [Act.put, List.setIfInBounds_toArray, List.set_cons_zero, List.set_cons_succ, i64_w, i32_w]
    rfl
  refine pure_ (i := 14) (N := some 25) (v := ?_) (a' := ?_) #[true, true, true, true, true, true, true, true, true, true, true, true, true, true, true, false, false, false, false] rfl rfl (any_of HT_.out (by kernel_rfl)) (fun _ _ _ h => h) (Or.inl ⟨by rfl, ?_⟩) ?_ ?_
  rotate_left
  · intro w'
    go_simp
    with_reducible rfl
  rotate_left
  · simp only [Act.put, List.setIfInBounds_toArray, List.set_cons_zero, List.set_cons_succ, i64_w, i32_w]
    rfl
  refine take_ (i := 15) (N := some 26) (v := ?_) (a' := ?_) #[true, true, true, true, true, true, true, true, true, true, true, true, true, true, true, true, false, false, false] rfl rfl (take_ofW HT_.out HW_.out (by kernel_rfl)) (fun _ _ _ h => h) (Or.inl ⟨by rfl, ?_⟩) hHeld ?_ ?_
  rotate_left
  · intro w' hSt
    have hx2 := ((HPW.out.below hSt).ch.cu j hj).2.2
    go_simp
    with_reducible rfl
  rotate_left
  · simp only [Act.put, List.setIfInBounds_toArray, List.set_cons_zero, List.set_cons_succ, i64_w, i32_w]
    rfl
  refine pure_ (i := 16) (N := some 4) (v := ?_) (a' := ?_) #[true, true, true, true, true, true, true, true, true, true, true, true, true, true, true, true, true, false, false] rfl rfl (any_of HT_.out (by kernel_rfl)) (fun _ _ _ h => h) (Or.inl ⟨by rfl, ?_⟩) ?_ ?_
  rotate_left
  · intro w'
    go_simp
    with_reducible rfl
  rotate_left
  · simp only [Act.put, List.setIfInBounds_toArray, List.set_cons_zero, List.set_cons_succ, i64_w, i32_w]
    rfl
  refine pure_ (i := 17) (N := some 5) (v := ?_) (a' := ?_) #[true, true, true, true, true, true, true, true, true, true, true, true, true, true, true, true, true, true, false] rfl rfl (any_of HT_.out (by kernel_rfl)) (fun _ _ _ h => h) (Or.inl ⟨by rfl, ?_⟩) ?_ ?_
  rotate_left
  · intro w'
    go_simp
    with_reducible rfl
  rotate_left
  · simp only [Act.put, List.setIfInBounds_toArray, List.set_cons_zero, List.set_cons_succ, i64_w, i32_w]
    rfl
  refine pure_ (i := 18) (N := some 6) (v := ?_) (a' := ?_) #[true, true, true, true, true, true, true, true, true, true, true, true, true, true, true, true, true, true, true] rfl rfl (any_of HT_.out (by kernel_rfl)) (fun _ _ _ h => h) (Or.inl ⟨by rfl, ?_⟩) ?_ ?_
  rotate_left
  · intro w'
    go_simp
    with_reducible rfl
  rotate_left
  · simp only [Act.put, List.setIfInBounds_toArray, List.set_cons_zero, List.set_cons_succ, i64_w, i32_w]
    rfl
  refine done_ (done_of HT_.out (by kernel_rfl)) ?_
  go_wp2
  go_ret3
  exact ⟨rfl, hHeld⟩
end Go.Proofs.Ytaheoifjihkipaa.As
