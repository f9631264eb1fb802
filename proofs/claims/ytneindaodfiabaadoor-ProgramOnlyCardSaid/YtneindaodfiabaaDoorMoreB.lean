/- What calls of Go functions of this seat come to, as the rows need it: under the conditions that each theorem names. -/
import Derived.Test.YtneindaodfiabaaDoorMoreA
namespace Go.Proofs.YtneindaodfiabaaDoor.Prog6
open Go.RowKit Go.Proofs.YtneindaodfiabaaDoorW.PrintWords Go.Proofs.YtneindaodfiabaaDoorW.PrintLast Go.Proofs.YtneindaodfiabaaDoorW.PrintMore
set_option linter.unusedVariables false
set_option linter.unusedSimpArgs false
theorem C_noneP (w : World) : KP.C w none 0 [] := ⟨rfl, by omega, fun h => absurd h (by omega)⟩
set_option maxHeartbeats 1600000 in
set_option maxRecDepth 100000 in
theorem known_calls (w : World) (hT : Tab w) : Calls Tryd.prog 9 #[] w fun e w' => e = .returned (.bool true) ∧ Below w.heap.size w w' := by
  have HTAB := Aside0.mk hT
  clear hT
  go_enter Tryd.func9, Tryd.ntmps9
  go_wp2_with fail
  refine (may_calls none 0 [] _ (C_noneP _) (by simp) HTAB.out (fun x hx => absurd hx (by simp))).mono ?_
  rintro e w1 ⟨rfl, hb⟩
  rw [k1]
  have HB := Aside0.mk hb
  clear hb
  go_wp2_with fail
  have hal := HB.out.alloc HB.out.size (.cells #[.int .u8 8, .string ⟨#[]⟩, .string ⟨#[]⟩, .string ⟨#[]⟩, .int .i64 1, .int .i64 0] 26 (0, 0))
  refine (may_calls _ 1 [((8, ⟨#[]⟩, ⟨#[]⟩, ⟨#[]⟩, 1, 0) : Ins)] _ (C_oneP w1 (8, ⟨#[]⟩, ⟨#[]⟩, ⟨#[]⟩, 1, 0)) (by simp) (HTAB.out.below hal) (fun x hx => by have := List.mem_singleton.1 hx; subst this; exact ⟨by simp [ByteArray.size], by simp [ByteArray.size], by simp [ByteArray.size]⟩)).mono ?_
  rintro e w2 ⟨rfl, hb⟩
  rw [k2]
  replace HB := Aside0.mk (below_step hal hb)
  clear hb hal
  go_wp2_with fail
  have hal := HB.out.alloc HB.out.size (.cells #[.int .u8 8, .string ⟨#[]⟩, .string ⟨#[]⟩, .string ⟨#[]⟩, .int .i64 2, .int .i64 0] 26 (0, 0))
  refine (may_calls _ 1 [((8, ⟨#[]⟩, ⟨#[]⟩, ⟨#[]⟩, 2, 0) : Ins)] _ (C_oneP w2 (8, ⟨#[]⟩, ⟨#[]⟩, ⟨#[]⟩, 2, 0)) (by simp) (HTAB.out.below hal) (fun x hx => by have := List.mem_singleton.1 hx; subst this; exact ⟨by simp [ByteArray.size], by simp [ByteArray.size], by simp [ByteArray.size]⟩)).mono ?_
  rintro e w3 ⟨rfl, hb⟩
  rw [k3]
  replace HB := Aside0.mk (below_step hal hb)
  clear hb hal
  go_wp2_with fail
  have hal := HB.out.alloc HB.out.size (.cells #[.int .u8 1, .string ⟨#[97]⟩, .string ⟨#[65]⟩, .string ⟨#[]⟩, .int .i64 0, .int .i64 0] 26 (0, 0))
  refine (may_calls _ 1 [((1, ⟨#[97]⟩, ⟨#[65]⟩, ⟨#[]⟩, 0, 0) : Ins)] _ (C_oneP w3 (1, ⟨#[97]⟩, ⟨#[65]⟩, ⟨#[]⟩, 0, 0)) (by simp) (HTAB.out.below hal) (fun x hx => by have := List.mem_singleton.1 hx; subst this; exact ⟨by simp [ByteArray.size], by simp [ByteArray.size], by simp [ByteArray.size]⟩)).mono ?_
  rintro e w4 ⟨rfl, hb⟩
  rw [k4]
  replace HB := Aside0.mk (below_step hal hb)
  clear hb hal
  go_wp2_with fail
  have hal := HB.out.alloc HB.out.size (.cells #[.int .u8 4, .string ⟨#[97]⟩, .string ⟨#[]⟩, .string ⟨#[]⟩, .int .i64 0, .int .i64 0] 26 (0, 0))
  refine (may_calls _ 1 [((4, ⟨#[97]⟩, ⟨#[]⟩, ⟨#[]⟩, 0, 0) : Ins)] _ (C_oneP w4 (4, ⟨#[97]⟩, ⟨#[]⟩, ⟨#[]⟩, 0, 0)) (by simp) (HTAB.out.below hal) (fun x hx => by have := List.mem_singleton.1 hx; subst this; exact ⟨by simp [ByteArray.size], by simp [ByteArray.size], by simp [ByteArray.size]⟩)).mono ?_
  rintro e w5 ⟨rfl, hb⟩
  rw [k5]
  replace HB := Aside0.mk (below_step hal hb)
  clear hb hal
  go_wp2
  go_ret
  exact ⟨rfl, HB.out⟩
def great_T6 : Bool × List (List Nat × List Nat) := (true, [([], []), ([], []), ([0, 1], [0, 1]), ([2], [2]), ([3], [3]), ([4], [4]), ([], []), ([], []), ([6, 7], [6, 7]), ([8], [8]), ([9], [9]), ([10], [10]), ([5, 11], [5, 11]), ([], []), ([], []), ([13, 14], [13, 14]), ([15], [15]), ([16], [16]), ([17], [17]), ([12, 18], [12, 18]), ([19], [19])])
def great_B6 : List Nat := [0, 0, 3, 7, 15, 31, 0, 0, 192, 448, 960, 1984, 4095, 0, 0, 24576, 57344, 122880, 253952, 524287, 1048575]
theorem great_tab6 : rtab .any (opsOf Tryd.f7 6) = great_T6 := by kernel_rfl
theorem great_bits6 : waitsOk great_T6.2 great_B6 = true := by kernel_rfl
set_option maxHeartbeats 1600000 in
set_option maxRecDepth 100000 in
theorem great_calls (A : Option Addr) (c : Nat) (xs : List Ins) (w : World) (hr : KP.C w A xs.length xs) (hc : xs.length ≤ c) :
    Calls Tryd.prog 7 #[.slice A xs.length c] w fun e w' => ∃ b : Bool, e = .returned (.bool b) ∧ (b = false → xs.length ≤ 60) ∧ Below w.heap.size w w' := by
  have HR := Aside0.mk hr
  have hl63 : xs.length ≤ 9223372036854775807 := hr.2.1
  clear hr
  by_cases h60 : xs.length ≤ 60
  rotate_left
  · have e1 : decide ((xs.length : Int) > 60) = true := decide_eq_true (by omega)
    clear h60
    go_enter Tryd.func7, Tryd.ntmps7
    go_wp2
    go_ret
    exact ⟨true, rfl, (fun h => by cases h), Below.refl _ _⟩
  have e1 : decide ((xs.length : Int) > 60) = false := decide_eq_false (by omega)
  have H60 := Aside0.mk h60
  go_enter Tryd.func7, Tryd.ntmps7
  go_wp2
  go_loopw [3] (fun i wr => ∃ k : Nat, k ≤ xs.length ∧ i = .int .i64 k ∧ Aside0 (Below w.heap.size w wr)) (fun i _ => xs.length - (intOf i).toNat)
  case atStart => exact ⟨0, Nat.zero_le _, rfl, ⟨Below.refl _ _⟩⟩
  case round =>
    obtain ⟨k, hk, rfl, HB⟩ := hrel
    by_cases hlt : k < xs.length
    · have HRX := Aside0.mk (Kd.C_below HR.out HB.out)
      obtain ⟨ad, rfl, x0, x1, x2, x3, x4, x5⟩ := row_cp HRX.out k hlt xs[k] (List.getElem?_eq_getElem hlt)
      have HX := Aside0.mk (List.getElem?_eq_getElem hlt)
      generalize xs[k] = x at x0 x1 x2 x3 x4 x5 HX
      clear x0 x1 x2 x3 x4 x5
      go_upto_region 6 with (fail)
      have hS0 : Below wr.heap.size wr wr.drew := below_drew1 (Below.refl _ _)
      refine start_ (n := 21) (S := fun w' => Below wr.heap.size wr w') (ds := []) #[false, false, false, false, false, false, false, false, false, false, false, false, false, false, false, false, false, false, false, false, false] (by kernel_rfl) rfl rfl (by exact hS0) (fun hHeld => ?_)
      refine with_tabW great_tab6 great_bits6 (fun HT_ HW_ => ?_)
      refine pure_ (i := 0) (N := some 13) (v := ?_) (a' := ?_) #[true, false, false, false, false, false, false, false, false, false, false, false, false, false, false, false, false, false, false, false, false] rfl rfl (any_of HT_.out (by kernel_rfl)) (fun _ _ _ h => h) (Or.inl ⟨by rfl, ?_⟩) ?_ ?_
      rotate_left
      · intro w'
        go_simp
        with_reducible rfl
      rotate_left
      · simp only [Act.put, List.setIfInBounds_toArray, List.set_cons_zero, List.set_cons_succ, i64_w, i32_w]
        rfl
      refine pure_ (i := 1) (N := some 14) (v := ?_) (a' := ?_) #[true, true, false, false, false, false, false, false, false, false, false, false, false, false, false, false, false, false, false, false, false] rfl rfl (any_of HT_.out (by kernel_rfl)) (fun _ _ _ h => h) (Or.inl ⟨by rfl, ?_⟩) ?_ ?_
      rotate_left
      · intro w'
        go_simp
        with_reducible rfl
      rotate_left
      · simp only [Act.put, List.setIfInBounds_toArray, List.set_cons_zero, List.set_cons_succ, i64_w, i32_w]
        rfl
      refine pure_ (i := 2) (N := some 15) (v := ?_) (a' := ?_) #[true, true, true, false, false, false, false, false, false, false, false, false, false, false, false, false, false, false, false, false, false] rfl rfl (any_of HT_.out (by kernel_rfl)) (fun _ _ _ h => h) (Or.inl ⟨by rfl, ?_⟩) ?_ ?_
      rotate_left
      · intro w'
        go_simp
        with_reducible rfl
      rotate_left
      · simp only [Act.put, List.setIfInBounds_toArray, List.set_cons_zero, List.set_cons_succ, i64_w, i32_w]
        rfl
      refine pure_ (i := 3) (N := some 16) (v := ?_) (a' := ?_) #[true, true, true, true, false, false, false, false, false, false, false, false, false, false, false, false, false, false, false, false, false] rfl rfl (any_of HT_.out (by kernel_rfl)) (fun _ _ _ h => h) (Or.inl ⟨by rfl, ?_⟩) ?_ ?_
      rotate_left
      · intro w'
        go_simp
        with_reducible rfl
      rotate_left
      · simp only [Act.put, List.setIfInBounds_toArray, List.set_cons_zero, List.set_cons_succ, i64_w, i32_w]
        rfl
      refine take_ (i := 4) (N := some 17) (v := ?_) (a' := ?_) #[true, true, true, true, true, false, false, false, false, false, false, false, false, false, false, false, false, false, false, false, false] rfl rfl (take_ofW HT_.out HW_.out (by kernel_rfl)) (fun _ _ _ h => h) (Or.inl ⟨by rfl, ?_⟩) hHeld ?_ ?_
      rotate_left
      · intro w' hSt
        obtain ⟨ad', e, x0, x1, x2, x3, x4, x5⟩ := row_cp (Kd.C_below HRX.out hSt) k hlt x HX.out
        cases e
        go_simp
        with_reducible rfl
      rotate_left
      · simp only [Act.put, List.setIfInBounds_toArray, List.set_cons_zero, List.set_cons_succ, i64_w, i32_w]
        rfl
      refine pure_ (i := 5) (N := some 18) (v := ?_) (a' := ?_) #[true, true, true, true, true, true, false, false, false, false, false, false, false, false, false, false, false, false, false, false, false] rfl rfl (any_of HT_.out (by kernel_rfl)) (fun _ _ _ h => h) (Or.inl ⟨by rfl, ?_⟩) ?_ ?_
      rotate_left
      · intro w'
        go_simp
        with_reducible rfl
      rotate_left
      · simp only [Act.put, List.setIfInBounds_toArray, List.set_cons_zero, List.set_cons_succ, i64_w, i32_w]
        rfl
      refine pure_ (i := 6) (N := some 19) (v := ?_) (a' := ?_) #[true, true, true, true, true, true, true, false, false, false, false, false, false, false, false, false, false, false, false, false, false] rfl rfl (any_of HT_.out (by kernel_rfl)) (fun _ _ _ h => h) (Or.inl ⟨by rfl, ?_⟩) ?_ ?_
      rotate_left
      · intro w'
        go_simp
        with_reducible rfl
      rotate_left
      · simp only [Act.put, List.setIfInBounds_toArray, List.set_cons_zero, List.set_cons_succ, i64_w, i32_w]
        rfl
      refine pure_ (i := 7) (N := some 20) (v := ?_) (a' := ?_) #[true, true, true, true, true, true, true, true, false, false, false, false, false, false, false, false, false, false, false, false, false] rfl rfl (any_of HT_.out (by kernel_rfl)) (fun _ _ _ h => h) (Or.inl ⟨by rfl, ?_⟩) ?_ ?_
      rotate_left
      · intro w'
        go_simp
        with_reducible rfl
      rotate_left
      · simp only [Act.put, List.setIfInBounds_toArray, List.set_cons_zero, List.set_cons_succ, i64_w, i32_w]
        rfl
      refine pure_ (i := 8) (N := some 21) (v := ?_) (a' := ?_) #[true, true, true, true, true, true, true, true, true, false, false, false, false, false, false, false, false, false, false, false, false] rfl rfl (any_of HT_.out (by kernel_rfl)) (fun _ _ _ h => h) (Or.inl ⟨by rfl, ?_⟩) ?_ ?_
      rotate_left
      · intro w'
        go_simp
        with_reducible rfl
      rotate_left
      · simp only [Act.put, List.setIfInBounds_toArray, List.set_cons_zero, List.set_cons_succ, i64_w, i32_w]
        rfl
      refine pure_ (i := 9) (N := some 22) (v := ?_) (a' := ?_) #[true, true, true, true, true, true, true, true, true, true, false, false, false, false, false, false, false, false, false, false, false] rfl rfl (any_of HT_.out (by kernel_rfl)) (fun _ _ _ h => h) (Or.inl ⟨by rfl, ?_⟩) ?_ ?_
      rotate_left
      · intro w'
        go_simp
        with_reducible rfl
      rotate_left
      · simp only [Act.put, List.setIfInBounds_toArray, List.set_cons_zero, List.set_cons_succ, i64_w, i32_w]
        rfl
      refine take_ (i := 10) (N := some 23) (v := ?_) (a' := ?_) #[true, true, true, true, true, true, true, true, true, true, true, false, false, false, false, false, false, false, false, false, false] rfl rfl (take_ofW HT_.out HW_.out (by kernel_rfl)) (fun _ _ _ h => h) (Or.inl ⟨by rfl, ?_⟩) hHeld ?_ ?_
      rotate_left
      · intro w' hSt
        obtain ⟨ad', e, x0, x1, x2, x3, x4, x5⟩ := row_cp (Kd.C_below HRX.out hSt) k hlt x HX.out
        cases e
        go_simp
        with_reducible rfl
      rotate_left
      · simp only [Act.put, List.setIfInBounds_toArray, List.set_cons_zero, List.set_cons_succ, i64_w, i32_w]
        rfl
      refine pure_ (i := 11) (N := some 24) (v := ?_) (a' := ?_) #[true, true, true, true, true, true, true, true, true, true, true, true, false, false, false, false, false, false, false, false, false] rfl rfl (any_of HT_.out (by kernel_rfl)) (fun _ _ _ h => h) (Or.inl ⟨by rfl, ?_⟩) ?_ ?_
      rotate_left
      · intro w'
        go_simp
        with_reducible rfl
      rotate_left
      · simp only [Act.put, List.setIfInBounds_toArray, List.set_cons_zero, List.set_cons_succ, i64_w, i32_w]
        rfl
      refine pure_ (i := 12) (N := some 25) (v := ?_) (a' := ?_) #[true, true, true, true, true, true, true, true, true, true, true, true, true, false, false, false, false, false, false, false, false] rfl rfl (any_of HT_.out (by kernel_rfl)) (fun _ _ _ h => h) (Or.inl ⟨by rfl, ?_⟩) ?_ ?_
      rotate_left
      · intro w'
        go_simp
        with_reducible rfl
      rotate_left
      · simp only [Act.put, List.setIfInBounds_toArray, List.set_cons_zero, List.set_cons_succ, i64_w, i32_w]
        rfl
      refine pure_ (i := 13) (N := some 26) (v := ?_) (a' := ?_) #[true, true, true, true, true, true, true, true, true, true, true, true, true, true, false, false, false, false, false, false, false] rfl rfl (any_of HT_.out (by kernel_rfl)) (fun _ _ _ h => h) (Or.inl ⟨by rfl, ?_⟩) ?_ ?_
      rotate_left
      · intro w'
        go_simp
        with_reducible rfl
      rotate_left
      · simp only [Act.put, List.setIfInBounds_toArray, List.set_cons_zero, List.set_cons_succ, i64_w, i32_w]
        rfl
      refine pure_ (i := 14) (N := some 27) (v := ?_) (a' := ?_) #[true, true, true, true, true, true, true, true, true, true, true, true, true, true, true, false, false, false, false, false, false] rfl rfl (any_of HT_.out (by kernel_rfl)) (fun _ _ _ h => h) (Or.inl ⟨by rfl, ?_⟩) ?_ ?_
      rotate_left
      · intro w'
        go_simp
        with_reducible rfl
      rotate_left
      · simp only [Act.put, List.setIfInBounds_toArray, List.set_cons_zero, List.set_cons_succ, i64_w, i32_w]
        rfl
      refine pure_ (i := 15) (N := some 28) (v := ?_) (a' := ?_) #[true, true, true, true, true, true, true, true, true, true, true, true, true, true, true, true, false, false, false, false, false] rfl rfl (any_of HT_.out (by kernel_rfl)) (fun _ _ _ h => h) (Or.inl ⟨by rfl, ?_⟩) ?_ ?_
      rotate_left
      · intro w'
        go_simp
        with_reducible rfl
      rotate_left
      · simp only [Act.put, List.setIfInBounds_toArray, List.set_cons_zero, List.set_cons_succ, i64_w, i32_w]
        rfl
      refine pure_ (i := 16) (N := some 29) (v := ?_) (a' := ?_) #[true, true, true, true, true, true, true, true, true, true, true, true, true, true, true, true, true, false, false, false, false] rfl rfl (any_of HT_.out (by kernel_rfl)) (fun _ _ _ h => h) (Or.inl ⟨by rfl, ?_⟩) ?_ ?_
      rotate_left
      · intro w'
        go_simp
        with_reducible rfl
      rotate_left
      · simp only [Act.put, List.setIfInBounds_toArray, List.set_cons_zero, List.set_cons_succ, i64_w, i32_w]
        rfl
      refine take_ (i := 17) (N := some 30) (v := ?_) (a' := ?_) #[true, true, true, true, true, true, true, true, true, true, true, true, true, true, true, true, true, true, false, false, false] rfl rfl (take_ofW HT_.out HW_.out (by kernel_rfl)) (fun _ _ _ h => h) (Or.inl ⟨by rfl, ?_⟩) hHeld ?_ ?_
      rotate_left
      · intro w' hSt
        obtain ⟨ad', e, x0, x1, x2, x3, x4, x5⟩ := row_cp (Kd.C_below HRX.out hSt) k hlt x HX.out
        cases e
        go_simp
        with_reducible rfl
      rotate_left
      · simp only [Act.put, List.setIfInBounds_toArray, List.set_cons_zero, List.set_cons_succ, i64_w, i32_w]
        rfl
      refine pure_ (i := 18) (N := some 31) (v := ?_) (a' := ?_) #[true, true, true, true, true, true, true, true, true, true, true, true, true, true, true, true, true, true, true, false, false] rfl rfl (any_of HT_.out (by kernel_rfl)) (fun _ _ _ h => h) (Or.inl ⟨by rfl, ?_⟩) ?_ ?_
      rotate_left
      · intro w'
        go_simp
        with_reducible rfl
      rotate_left
      · simp only [Act.put, List.setIfInBounds_toArray, List.set_cons_zero, List.set_cons_succ, i64_w, i32_w]
        rfl
      refine pure_ (i := 19) (N := some 32) (v := ?_) (a' := ?_) #[true, true, true, true, true, true, true, true, true, true, true, true, true, true, true, true, true, true, true, true, false] rfl rfl (any_of HT_.out (by kernel_rfl)) (fun _ _ _ h => h) (Or.inl ⟨by rfl, ?_⟩) ?_ ?_
      rotate_left
      · intro w'
        go_simp
        with_reducible rfl
      rotate_left
      · simp only [Act.put, List.setIfInBounds_toArray, List.set_cons_zero, List.set_cons_succ, i64_w, i32_w]
        rfl
      refine pure_ (i := 20) (N := some 33) (v := ?_) (a' := ?_) #[true, true, true, true, true, true, true, true, true, true, true, true, true, true, true, true, true, true, true, true, true] rfl rfl (any_of HT_.out (by kernel_rfl)) (fun _ _ _ h => h) (Or.inl ⟨by rfl, ?_⟩) ?_ ?_
      rotate_left
      · intro w'
        go_simp
        with_reducible rfl
      rotate_left
      · simp only [Act.put, List.setIfInBounds_toArray, List.set_cons_zero, List.set_cons_succ, i64_w, i32_w]
        rfl
      refine done_ (done_of HT_.out (by kernel_rfl)) ?_
      replace HB := Aside0.mk (below_step HB.out hHeld)
      clear hS0 hHeld HT_ HW_
      generalize (decide ((300 : Int) < wrap64 (wrap64 ((x.2.1.size : Int) + (x.2.2.1.size : Int)) + (x.2.2.2.1.size : Int))) : Bool) = z
      cases z with
      | true =>
        go_wp2
        go_ret
        exact ⟨true, rfl, (fun h => by cases h), HB.out⟩
      | false =>
        go_wp2
        go_roundw
        case rel => exact ⟨k + 1, by omega, by go_num, HB⟩
        case measure => simp [intOf]; omega
    · obtain rfl : k = xs.length := by omega
      clear hlt hk
      go_wp2
      go_ret
      exact ⟨false, rfl, fun _ => H60.out, HB.out⟩
end Go.Proofs.YtneindaodfiabaaDoor.Prog6
