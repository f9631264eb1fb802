/- What calls of Go functions of this seat come to, as the rows need it: under the conditions that each theorem names. -/
import Derived.Test.YticpifhnfpnibaaHear
namespace Go.Proofs.Yticpifhnfpnibaa.Mem
open Go.RowKit Go.Proofs.YticpifhnfpnibaaW.PrintWords Go.Proofs.YticpifhnfpnibaaW.PrintLast Go.Proofs.YticpifhnfpnibaaW.PrintMore
set_option linter.unusedVariables false
set_option linter.unusedSimpArgs false
theorem kill_calls (m s n : Nat) (f : Nat → U) (i : Int) (w : World) (h : Mem w m s n f) (hn : n ≤ 16) :
    Calls Try.prog 14 #[.pointer (some ⟨m, 0, none⟩), .int .i64 i] w fun e w' =>
      e = .returned (.bool (decide ((0 ≤ i ∧ i < n) ∧ i ≠ s ∧ (f i.toNat).2.1 = 2))) ∧ Ch m w w' ∧
      Mem w' m s n (if (0 ≤ i ∧ i < n) ∧ i ≠ s ∧ (f i.toNat).2.1 = 2 then upd f i.toNat ((f i.toNat).1, 3, (f i.toNat).2.2) else f) := by
  have H := Aside0.mk (turn_calls m s n f i 2 3 w h hn)
  clear h
  generalize decide ((0 ≤ i ∧ i < n) ∧ i ≠ s ∧ (f i.toNat).2.1 = 2) = b at H ⊢
  generalize (if (0 ≤ i ∧ i < n) ∧ i ≠ s ∧ (f i.toNat).2.1 = 2 then upd f i.toNat ((f i.toNat).1, 3, (f i.toNat).2.2) else f) = g at H ⊢
  go_enter Try.func14, Try.ntmps14
  go_wp2_with fail
  refine H.out.mono ?_
  rintro e w1 ⟨rfl, hc, hm⟩
  go_wp2
  go_ret
  exact ⟨rfl, hc, hm⟩
theorem suspect_calls (m s n : Nat) (f : Nat → U) (i : Int) (w : World) (h : Mem w m s n f) (hn : n ≤ 16) :
    Calls Try.prog 13 #[.pointer (some ⟨m, 0, none⟩), .int .i64 i] w fun e w' =>
      e = .returned (.bool (decide ((0 ≤ i ∧ i < n) ∧ i ≠ s ∧ (f i.toNat).2.1 = 1))) ∧ Ch m w w' ∧
      Mem w' m s n (if (0 ≤ i ∧ i < n) ∧ i ≠ s ∧ (f i.toNat).2.1 = 1 then upd f i.toNat ((f i.toNat).1, 2, (f i.toNat).2.2) else f) := by
  have H := Aside0.mk (turn_calls m s n f i 1 2 w h hn)
  clear h
  generalize decide ((0 ≤ i ∧ i < n) ∧ i ≠ s ∧ (f i.toNat).2.1 = 1) = b at H ⊢
  generalize (if (0 ≤ i ∧ i < n) ∧ i ≠ s ∧ (f i.toNat).2.1 = 1 then upd f i.toNat ((f i.toNat).1, 2, (f i.toNat).2.2) else f) = g at H ⊢
  go_enter Try.func13, Try.ntmps13
  go_wp2_with fail
  refine H.out.mono ?_
  rintro e w1 ⟨rfl, hc, hm⟩
  go_wp2
  go_ret
  exact ⟨rfl, hc, hm⟩
/-- May there be such members? -/
def mayNew (s n inc : Int) : Prop := 1 ≤ n ∧ n ≤ 16 ∧ 0 ≤ s ∧ s < n ∧ inc ≤ 1099511627776
/-- What stands of each at first. -/
def first (s n : Nat) (inc : Int) : Nat → U := fun i => if i < n then ((i : Int), 1, if i = s then inc else 0) else (0, 0, 0)
/-- The block as it is built. -/
def zeros (s n : Int) : Array Value := #[.int .i64 s, .int .i64 n, .int .i64 0, .int .u8 0, .int .u64 0, .int .i64 0, .int .u8 0, .int .u64 0, .int .i64 0, .int .u8 0, .int .u64 0, .int .i64 0, .int .u8 0, .int .u64 0, .int .i64 0, .int .u8 0, .int .u64 0, .int .i64 0, .int .u8 0, .int .u64 0, .int .i64 0, .int .u8 0, .int .u64 0, .int .i64 0, .int .u8 0, .int .u64 0, .int .i64 0, .int .u8 0, .int .u64 0, .int .i64 0, .int .u8 0, .int .u64 0, .int .i64 0, .int .u8 0, .int .u64 0, .int .i64 0, .int .u8 0, .int .u64 0, .int .i64 0, .int .u8 0, .int .u64 0, .int .i64 0, .int .u8 0, .int .u64 0, .int .i64 0, .int .u8 0, .int .u64 0, .int .i64 0, .int .u8 0, .int .u64 0]
theorem zero_mem (s n : Nat) : MemC (zeros s n) s n (fun _ => (0, 0, 0)) :=
  ⟨rfl, rfl, rfl, fun i hi => match i, hi with
    | 0, _ => ⟨rfl, rfl, rfl⟩
    | 1, _ => ⟨rfl, rfl, rfl⟩
    | 2, _ => ⟨rfl, rfl, rfl⟩
    | 3, _ => ⟨rfl, rfl, rfl⟩
    | 4, _ => ⟨rfl, rfl, rfl⟩
    | 5, _ => ⟨rfl, rfl, rfl⟩
    | 6, _ => ⟨rfl, rfl, rfl⟩
    | 7, _ => ⟨rfl, rfl, rfl⟩
    | 8, _ => ⟨rfl, rfl, rfl⟩
    | 9, _ => ⟨rfl, rfl, rfl⟩
    | 10, _ => ⟨rfl, rfl, rfl⟩
    | 11, _ => ⟨rfl, rfl, rfl⟩
    | 12, _ => ⟨rfl, rfl, rfl⟩
    | 13, _ => ⟨rfl, rfl, rfl⟩
    | 14, _ => ⟨rfl, rfl, rfl⟩
    | 15, _ => ⟨rfl, rfl, rfl⟩
    | i + 16, h => absurd h (by omega)⟩
def part (k : Nat) : Nat → U := fun i => if i < k then ((i : Int), 1, 0) else (0, 0, 0)
theorem part_succ (k : Nat) : upd (part k) k ((k : Int), 1, 0) = part (k + 1) := by
  funext i
  unfold upd part
  by_cases h : i = k
  · subst h
    rw [if_pos rfl, if_pos (by omega)]
  · rw [if_neg h]
    by_cases h2 : i < k
    · rw [if_pos h2, if_pos (by omega)]
    · rw [if_neg h2, if_neg (by omega)]
theorem first_part (s n : Nat) (inc : Int) (h : s < n) : upd (part n) s ((part n s).1, (part n s).2.1, inc) = first s n inc := by
  funext i
  unfold upd part first
  by_cases h1 : i = s
  · subst h1
    rw [if_pos rfl, if_pos h, if_pos h, if_pos rfl]
  · rw [if_neg h1]
    by_cases h2 : i < n
    · rw [if_pos h2, if_pos h2, if_neg h1]
    · rw [if_neg h2, if_neg h2]
set_option maxHeartbeats 1600000 in
set_option maxRecDepth 100000 in
theorem new_calls (s n inc : Int) (w : World) (hmay : mayNew s n inc) (h0 : 0 ≤ inc) :
    Calls Try.prog 8 #[.int .i64 s, .int .i64 n, .int .u64 inc] w fun e w' => e = .returned (.pointer (some ⟨w.heap.size, 0, none⟩)) ∧ Below w.heap.size w w' ∧ Mem w' w.heap.size s.toNat n.toNat (first s.toNat n.toNat inc) := by
  obtain ⟨h1, h2, h3, h4, h5⟩ := hmay
  obtain ⟨s, rfl⟩ := Int.eq_ofNat_of_zero_le h3
  obtain ⟨n, rfl⟩ := Int.eq_ofNat_of_zero_le (a := n) (by omega)
  simp only [Int.toNat_natCast]
  have e1 : decide ((n : Int) < 1) = false := decide_eq_false (by omega)
  have e2 : decide ((n : Int) > 16) = false := decide_eq_false (by omega)
  have e3 : decide ((s : Int) < 0) = false := decide_eq_false (by omega)
  have e4 : decide ((s : Int) ≥ n) = false := decide_eq_false (by omega)
  have e5 : decide (inc > 1099511627776) = false := decide_eq_false (by omega)
  have e6 : decide (n ≤ s) = false := decide_eq_false (by omega)
  go_enter Try.func8, Try.ntmps8
  go_upto_block 0 with (fail)
  have HB := Aside0.mk ((Below.refl w.heap.size w).alloc (Nat.le_refl _) (.cells (zeros s n) 51 (0, 0)))
  have HM := Aside0.mk (show Mem (w.alloc (.cells (zeros s n) 51 (0, 0))) w.heap.size s n (part 0) from ⟨_, heap_new _ _, zero_mem s n⟩)
  unfold zeros at HB HM
  generalize w.alloc _ = w1 at HB HM ⊢
  have hn16 : n ≤ 16 := by omega
  have hsn : s < n := by omega
  clear e1 e2 e3 e4 e5 e6 h1 h2 h3 h4 h5 h0
  go_wp2
  go_loopw [33] (fun i wr => ∃ k : Nat, k ≤ n ∧ i = .int .i64 k ∧ Aside0 (Below w.heap.size w wr) ∧ Aside0 (Mem wr w.heap.size s n (part k))) (fun i _ => n - (intOf i).toNat)
  case atStart => exact ⟨0, Nat.zero_le _, rfl, HB, HM⟩
  case round =>
    clear HB HM
    obtain ⟨k, hk, rfl, HB, HM⟩ := hrel
    by_cases hlt : k < n
    · have hk16 : k < 16 := by omega
      have hki : (k : Int) < 16 := by omega
      have M1 := HM.out.setNode k hk16 (k : Int)
      have M2 := M1.setSt k hk16 1
      have M3 := M2.setInc k hk16 0
      have x0 := (HM.out.cu k hk16).1
      have x1 := (M1.cu k hk16).2.1
      have x2 := (M2.cu k hk16).2.2
      have z0 := HM.out.fz (2 + k * 3)
      have z1 := M1.fz (2 + k * 3 + 1)
      have z2 := M2.fz (2 + k * 3 + 2)
      replace M3 := Aside0.mk M3
      clear M1 M2
      go_wp2
      go_roundw
      case rel => exact ⟨k + 1, by omega, by go_num, ⟨((HB.out.setCell (Nat.le_refl _) _).setCell (Nat.le_refl _) _).setCell (Nat.le_refl _) _⟩, ⟨by rw [← part_succ, ← upd_three (part k) k]; exact M3.out⟩⟩
      case measure => simp [intOf]; omega
    · obtain rfl : k = n := by omega
      clear hlt hk
      have hs16 : s < 16 := by omega
      have hsi : (s : Int) < 16 := by omega
      have M1 := Aside0.mk (HM.out.setInc s hs16 inc)
      have x0 := (HM.out.cu s hs16).2.2
      have z0 := HM.out.fz (2 + s * 3 + 2)
      go_wp2
      go_ret
      exact ⟨rfl, HB.out.setCell (Nat.le_refl _) _, by rw [← first_part s k inc hsn]; exact M1.out⟩
theorem new_nil (s n inc : Int) (w : World) (hmay : ¬ mayNew s n inc) :
    Calls Try.prog 8 #[.int .i64 s, .int .i64 n, .int .u64 inc] w fun e w' => e = .returned (.pointer none) ∧ w' = w := by
  unfold mayNew at hmay
  by_cases h1 : n < 1
  · have e1 : decide (n < 1) = true := decide_eq_true h1
    clear hmay h1
    go_enter Try.func8, Try.ntmps8
    go_wp2
    go_ret
    exact ⟨rfl, rfl⟩
  have e1 : decide (n < 1) = false := decide_eq_false h1
  by_cases h2 : n > 16
  · have e2 : decide (n > 16) = true := decide_eq_true h2
    clear hmay h1 h2
    go_enter Try.func8, Try.ntmps8
    go_wp2
    go_ret
    exact ⟨rfl, rfl⟩
  have e2 : decide (n > 16) = false := decide_eq_false h2
  by_cases h3 : s < 0
  · have e3 : decide (s < 0) = true := decide_eq_true h3
    clear hmay h1 h2 h3
    go_enter Try.func8, Try.ntmps8
    go_wp2
    go_ret
    exact ⟨rfl, rfl⟩
  have e3 : decide (s < 0) = false := decide_eq_false h3
  by_cases h4 : s ≥ n
  · have e4 : decide (s ≥ n) = true := decide_eq_true h4
    clear hmay h1 h2 h3 h4
    go_enter Try.func8, Try.ntmps8
    go_wp2
    go_ret
    exact ⟨rfl, rfl⟩
  have e4 : decide (s ≥ n) = false := decide_eq_false h4
  have e5 : decide (inc > 1099511627776) = true := decide_eq_true (by omega)
  clear hmay h1 h2 h3 h4
  go_enter Try.func8, Try.ntmps8
  go_wp2
  go_ret
  exact ⟨rfl, rfl⟩
theorem Box.fz {w : World} {b : Nat} {u : U} (h : Box w b u) (j : Nat) : w.frozen? ⟨b, j, none⟩ = false := by
  unfold Box at h
  simp [World.frozen?, h]
theorem Box.set3 {w : World} {b : Nat} {u v : U} (h : Box w b v) : Box (((w.setCell ⟨b, 0, none⟩ (.int .i64 u.1)).setCell ⟨b, 1, none⟩ (.int .u8 u.2.1)).setCell ⟨b, 2, none⟩ (.int .u64 u.2.2)) b u := by
  have := blk_set (blk_set (blk_set h 0 (.int .i64 u.1)) 1 (.int .u8 u.2.1)) 2 (.int .u64 u.2.2)
  exact this
def self_T3 : Bool × List (List Nat × List Nat) := (true, [([], []), ([], []), ([1], [1]), ([2], [2]), ([3], [3]), ([0], [0]), ([5], [5]), ([6, 4], [4, 6]), ([7], [7]), ([8, 0, 1, 2, 3, 4, 5, 6, 7, 8], [8])])
def self_B3 : List Nat := [0, 0, 2, 6, 14, 1, 33, 127, 255, 511]
theorem self_tab3 : rtab .any (opsOf Try.f15 3) = self_T3 := by kernel_rfl
theorem self_bits3 : waitsOk self_T3.2 self_B3 = true := by kernel_rfl
def all_T3 : Bool × List (List Nat × List Nat) := (true, [([], []), ([0], [0]), ([1], [1]), ([], []), ([3], [3]), ([4], [4]), ([5], [5]), ([2, 6], [2, 6]), ([7], [7]), ([8, 8, 0, 1, 2, 3, 4, 5, 6, 7, 8], [8])])
def all_B3 : List Nat := [0, 1, 3, 0, 8, 24, 56, 127, 255, 511]
theorem all_tab3 : rtab .any (opsOf Try.f11 3) = all_T3 := by kernel_rfl
theorem all_bits3 : waitsOk all_T3.2 all_B3 = true := by kernel_rfl
set_option maxHeartbeats 1600000 in
theorem self_calls (m s n : Nat) (f : Nat → U) (w : World) (h : Mem w m s n f) (hs : s < 16) :
    Calls Try.prog 15 #[.pointer (some ⟨m, 0, none⟩)] w fun e w' => e = .returned (uv (f s)) ∧ Below w.heap.size w w' := by
  have HM := Aside0.mk h
  have hsi : (s : Int) < 16 := by omega
  clear h
  go_enter Try.func15, Try.ntmps15
  go_upto_region 3 with (fail)
  have HB := Aside0.mk ((Below.refl w.heap.size w).alloc (Nat.le_refl _) (.cells #[.int .i64 0, .int .u8 0, .int .u64 0] 32 (0, 0)))
  have HY := Aside0.mk (show Box (w.alloc (.cells #[.int .i64 0, .int .u8 0, .int .u64 0] 32 (0, 0))) w.heap.size (0, 0, 0) from heap_new _ _)
  replace HM := Aside0.mk (HM.out.below HB.out)
  have hle := Nat.le_refl w.heap.size
  generalize w.alloc _ = w1 at HB HY HM ⊢
  generalize hb : w.heap.size = b at HY ⊢
  have hS0 := below_drew1 (Below.refl w1.heap.size w1)
  refine start_ (n := 10) (S := fun w' => Below w1.heap.size w1 w') (ds := [9]) #[false, false, false, false, false, false, false, false, false, false] (by kernel_rfl) rfl rfl (by exact hS0) (fun hHeld => ?_)
  refine with_tabW self_tab3 self_bits3 (fun HT_ HW_ => ?_)
  refine pure_ (i := 0) (N := some 6) (v := ?_) (a' := ?_) #[true, false, false, false, false, false, false, false, false, false] rfl rfl (any_of HT_.out (by kernel_rfl)) (fun _ _ _ h => h) (Or.inl ⟨by rfl, ?_⟩) ?_ ?_
  rotate_left
  · intro w'
    go_simp
    with_reducible rfl
  rotate_left
  · simp only [Act.put, List.setIfInBounds_toArray, List.set_cons_zero, List.set_cons_succ, i64_w, i32_w]
    rfl
  refine pure_ (i := 1) (N := some 7) (v := ?_) (a' := ?_) #[true, true, false, false, false, false, false, false, false, false] rfl rfl (any_of HT_.out (by kernel_rfl)) (fun _ _ _ h => h) (Or.inl ⟨by rfl, ?_⟩) ?_ ?_
  rotate_left
  · intro w'
    go_simp
    with_reducible rfl
  rotate_left
  · simp only [Act.put, List.setIfInBounds_toArray, List.set_cons_zero, List.set_cons_succ, i64_w, i32_w]
    rfl
  refine pure_ (i := 2) (N := some 8) (v := ?_) (a' := ?_) #[true, true, true, false, false, false, false, false, false, false] rfl rfl (any_of HT_.out (by kernel_rfl)) (fun _ _ _ h => h) (Or.inl ⟨by rfl, ?_⟩) ?_ ?_
  rotate_left
  · intro w'
    go_simp
    with_reducible rfl
  rotate_left
  · simp only [Act.put, List.setIfInBounds_toArray, List.set_cons_zero, List.set_cons_succ, i64_w, i32_w]
    rfl
  refine pure_ (i := 3) (N := some 9) (v := ?_) (a' := ?_) #[true, true, true, true, false, false, false, false, false, false] rfl rfl (any_of HT_.out (by kernel_rfl)) (fun _ _ _ h => h) (Or.inl ⟨by rfl, ?_⟩) ?_ ?_
  rotate_left
  · intro w'
    go_simp
    with_reducible rfl
  rotate_left
  · simp only [Act.put, List.setIfInBounds_toArray, List.set_cons_zero, List.set_cons_succ, i64_w, i32_w]
    rfl
  refine take_ (i := 4) (N := some 10) (v := ?_) (a' := ?_) #[true, true, true, true, true, false, false, false, false, false] rfl rfl (take_ofW HT_.out HW_.out (by kernel_rfl)) (fun _ _ _ h => h) (Or.inl ⟨by rfl, ?_⟩) hHeld ?_ ?_
  rotate_left
  · intro w' hSt
    have qm := HM.out.below hSt
    have c0 := qm.c0
    have c1 := qm.c1
    obtain ⟨x0, x1, x2⟩ := qm.cu s hs
    clear qm
    go_simp
    with_reducible rfl
  rotate_left
  · simp only [Act.put, List.setIfInBounds_toArray, List.set_cons_zero, List.set_cons_succ, i64_w, i32_w]
    rfl
  refine pure_ (i := 5) (N := some 11) (v := ?_) (a' := ?_) #[true, true, true, true, true, true, false, false, false, false] rfl rfl (any_of HT_.out (by kernel_rfl)) (fun _ _ _ h => h) (Or.inl ⟨by rfl, ?_⟩) ?_ ?_
  rotate_left
  · intro w'
    go_simp
    with_reducible rfl
  rotate_left
  · simp only [Act.put, List.setIfInBounds_toArray, List.set_cons_zero, List.set_cons_succ, i64_w, i32_w]
    rfl
  refine pure_ (i := 6) (N := some 12) (v := ?_) (a' := ?_) #[true, true, true, true, true, true, true, false, false, false] rfl rfl (any_of HT_.out (by kernel_rfl)) (fun _ _ _ h => h) (Or.inl ⟨by rfl, ?_⟩) ?_ ?_
  rotate_left
  · intro w'
    go_simp
    with_reducible rfl
  rotate_left
  · simp only [Act.put, List.setIfInBounds_toArray, List.set_cons_zero, List.set_cons_succ, i64_w, i32_w]
    rfl
  refine pure_ (i := 7) (N := some 13) (v := ?_) (a' := ?_) #[true, true, true, true, true, true, true, true, false, false] rfl rfl (any_of HT_.out (by kernel_rfl)) (fun _ _ _ h => h) (Or.inl ⟨by rfl, ?_⟩) ?_ ?_
  rotate_left
  · intro w'
    go_simp
    with_reducible rfl
  rotate_left
  · simp only [Act.put, List.setIfInBounds_toArray, List.set_cons_zero, List.set_cons_succ, i64_w, i32_w]
    rfl
  refine take_ (i := 8) (N := some 14) (v := ?_) (a' := ?_) #[true, true, true, true, true, true, true, true, true, false] rfl rfl (take_ofW HT_.out HW_.out (by kernel_rfl)) (fun _ _ _ h => h) (Or.inl ⟨by rfl, ?_⟩) hHeld ?_ ?_
  rotate_left
  · intro w' hSt
    have qm := HM.out.below hSt
    have c0 := qm.c0
    have c1 := qm.c1
    obtain ⟨x0, x1, x2⟩ := qm.cu s hs
    clear qm
    go_simp
    with_reducible rfl
  rotate_left
  · simp only [Act.put, List.setIfInBounds_toArray, List.set_cons_zero, List.set_cons_succ, i64_w, i32_w]
    rfl
  refine last_ (i := 9) (N := none) #[true, true, true, true, true, true, true, true, true, true] rfl rfl (one_of HT_.out (by kernel_rfl)) (by decide) (fun K hK => ?_)
  obtain ⟨y0, y1, y2⟩ := HY.out.cu
  have z0 : w1.frozen? ⟨b, 0, none⟩ = false := HY.out.fz 0
  have z1 : w1.frozen? ⟨b, 1, none⟩ = false := HY.out.fz 1
  have z2 : w1.frozen? ⟨b, 2, none⟩ = false := HY.out.fz 2
  refine skip_ (w1 := ?_) (by rfl) rfl ?_ ?_
  rotate_left
  · go_simp
    rfl
  clear y0 y1 y2 z0 z1 z2
  refine hK.out _ _ ?_
  clear hK K
  refine norm_ (a' := ?_) ?_ ?_
  rotate_left
  · first
    | (show Act.put _ none _ = _; simp only [Act.put, List.setIfInBounds_toArray, List.set_cons_zero, List.set_cons_succ, i64_w, i32_w]; rfl)
    | rfl
  refine done_ (done_of HT_.out (by kernel_rfl)) ?_
  go_wp2
  have HY3 := (Box.set3 (u := f s) HY.out).below (below_drew1 (Below.refl _ _))
  obtain ⟨y0, y1, y2⟩ := HY3.cu
  have HB3 := ((((HB.out.setCell (p := ⟨b, 0, none⟩) (Nat.le_of_eq hb) (.int .i64 (f s).1)).setCell (p := ⟨b, 1, none⟩) (Nat.le_of_eq hb) (.int .u8 (f s).2.1)).setCell (p := ⟨b, 2, none⟩) (Nat.le_of_eq hb) (.int .u64 (f s).2.2))).drew
  exact bodyPost_ret (v := uv (f s)) (by simp only [uv]; simp [results, Try.results15, go_sem, y0, y1, y2]) rfl ⟨rfl, HB3⟩
abbrev KU : Kd U := Kd.pair (Kd.int .i64) (Kd.pair (Kd.int .u8) (Kd.int .u64))
theorem info32 : (Try.prog.info? 32).map (fun i => (i.zero, i.size, i.bytes)) = some (some (.agg #[.int .i64 0, .int .u8 0, .int .u64 0]), 3, 24) := by kernel_rfl
def lst (f : Nat → U) (n : Nat) : List U := (List.range n).map f
theorem Mem.row {w : World} {m s n : Nat} {f : Nat → U} (h : Mem w m s n f) (k : Nat) (hk : k ≤ 16) : KU.C w (some ⟨m, 2, none⟩) k (lst f k) := by
  refine ⟨by simp [lst], by omega, fun _ => ⟨_, rfl, fun j p hj => ?_⟩⟩
  have hjk : j < k := by have := (List.getElem?_eq_some_iff.1 hj).1; simpa [lst] using this
  have hp : f j = p := by simpa [lst, hjk] using hj
  obtain ⟨c0, c1, c2⟩ := h.cu j (by omega)
  refine ⟨[.int .i64 p.1, .int .u8 p.2.1, .int .u64 p.2.2], rfl, ⟨[.int .i64 p.1], [.int .u8 p.2.1, .int .u64 p.2.2], rfl, rfl, ⟨[.int .u8 p.2.1], [.int .u64 p.2.2], rfl, rfl, rfl⟩⟩, fun i u hu => ?_⟩
  subst hp
  have e : (⟨m, 2, none⟩ : Addr).add (j * 3 + i) = ⟨m, 2 + (j * 3 + i), none⟩ := by simp [Addr.add_lit]
  show w.cell? ((⟨m, 2, none⟩ : Addr).add (j * 3 + i)) = _
  rw [e, ← Nat.add_assoc]
  rcases i with _ | _ | _ | i
  · have hu0 : Value.int .i64 (f j).1 = u := by simpa using hu
    rw [← hu0]
    exact c0
  · have hu0 : Value.int .u8 (f j).2.1 = u := by simpa using hu
    rw [← hu0]
    exact c1
  · have hu0 : Value.int .u64 (f j).2.2 = u := by simpa using hu
    rw [← hu0]
    exact c2
  · simp at hu
set_option maxHeartbeats 1600000 in
theorem all_calls (m s n : Nat) (f : Nat → U) (w : World) (h : Mem w m s n f) (hn : n ≤ 16) :
    Calls Try.prog 11 #[.pointer (some ⟨m, 0, none⟩)] w fun e w' => ∃ v, e = .returned v ∧ Kd.R KU 32 w' w.heap.size (fun _ => True) v (lst f n) ∧ Below w.heap.size w w' := by
  have HM := Aside0.mk h
  clear h
  have hni : (n : Int) ≤ 16 := by omega
  go_enter Try.func11, Try.ntmps11
  go_upto_region 3 with (fail)
  have hS0 := below_drew1 (Below.refl w.heap.size w)
  refine start_ (n := 10) (S := fun w' => Below w.heap.size w w') (ds := []) #[false, false, false, false, false, false, false, false, false, false] (by kernel_rfl) rfl rfl (by exact hS0) (fun hHeld => ?_)
  refine with_tabW all_tab3 all_bits3 (fun HT_ HW_ => ?_)
  refine pure_ (i := 0) (N := some 5) (v := ?_) (a' := ?_) #[true, false, false, false, false, false, false, false, false, false] rfl rfl (any_of HT_.out (by kernel_rfl)) (fun _ _ _ h => h) (Or.inl ⟨by rfl, ?_⟩) ?_ ?_
  rotate_left
  · intro w'
    go_simp
    with_reducible rfl
  rotate_left
  · simp only [Act.put, List.setIfInBounds_toArray, List.set_cons_zero, List.set_cons_succ, i64_w, i32_w]
    rfl
  refine pure_ (i := 1) (N := some 6) (v := ?_) (a' := ?_) #[true, true, false, false, false, false, false, false, false, false] rfl rfl (any_of HT_.out (by kernel_rfl)) (fun _ _ _ h => h) (Or.inl ⟨by rfl, ?_⟩) ?_ ?_
  rotate_left
  · intro w'
    go_simp
    with_reducible rfl
  rotate_left
  · simp only [Act.put, List.setIfInBounds_toArray, List.set_cons_zero, List.set_cons_succ, i64_w, i32_w]
    rfl
  refine pure_ (i := 2) (N := some 7) (v := ?_) (a' := ?_) #[true, true, true, false, false, false, false, false, false, false] rfl rfl (any_of HT_.out (by kernel_rfl)) (fun _ _ _ h => h) (Or.inl ⟨by rfl, ?_⟩) ?_ ?_
  rotate_left
  · intro w'
    go_simp
    with_reducible rfl
  rotate_left
  · simp only [Act.put, List.setIfInBounds_toArray, List.set_cons_zero, List.set_cons_succ, i64_w, i32_w]
    rfl
  refine pure_ (i := 3) (N := some 8) (v := ?_) (a' := ?_) #[true, true, true, true, false, false, false, false, false, false] rfl rfl (any_of HT_.out (by kernel_rfl)) (fun _ _ _ h => h) (Or.inl ⟨by rfl, ?_⟩) ?_ ?_
  rotate_left
  · intro w'
    go_simp
    with_reducible rfl
  rotate_left
  · simp only [Act.put, List.setIfInBounds_toArray, List.set_cons_zero, List.set_cons_succ, i64_w, i32_w]
    rfl
  refine pure_ (i := 4) (N := some 9) (v := ?_) (a' := ?_) #[true, true, true, true, true, false, false, false, false, false] rfl rfl (any_of HT_.out (by kernel_rfl)) (fun _ _ _ h => h) (Or.inl ⟨by rfl, ?_⟩) ?_ ?_
  rotate_left
  · intro w'
    go_simp
    with_reducible rfl
  rotate_left
  · simp only [Act.put, List.setIfInBounds_toArray, List.set_cons_zero, List.set_cons_succ, i64_w, i32_w]
    rfl
  refine pure_ (i := 5) (N := some 10) (v := ?_) (a' := ?_) #[true, true, true, true, true, true, false, false, false, false] rfl rfl (any_of HT_.out (by kernel_rfl)) (fun _ _ _ h => h) (Or.inl ⟨by rfl, ?_⟩) ?_ ?_
  rotate_left
  · intro w'
    go_simp
    with_reducible rfl
  rotate_left
  · simp only [Act.put, List.setIfInBounds_toArray, List.set_cons_zero, List.set_cons_succ, i64_w, i32_w]
    rfl
  refine take_ (i := 6) (N := some 11) (v := ?_) (a' := ?_) #[true, true, true, true, true, true, true, false, false, false] rfl rfl (take_ofW HT_.out HW_.out (by kernel_rfl)) (fun _ _ _ h => h) (Or.inl ⟨by rfl, ?_⟩) hHeld ?_ ?_
  rotate_left
  · intro w' hSt
    have qm := HM.out.below hSt
    have c0 := qm.c0
    have c1 := qm.c1
    clear qm
    go_simp
    with_reducible rfl
  rotate_left
  · simp only [Act.put, List.setIfInBounds_toArray, List.set_cons_zero, List.set_cons_succ, i64_w, i32_w]
    rfl
  refine pure_ (i := 7) (N := some 12) (v := ?_) (a' := ?_) #[true, true, true, true, true, true, true, true, false, false] rfl rfl (any_of HT_.out (by kernel_rfl)) (fun _ _ _ h => h) (Or.inl ⟨by rfl, ?_⟩) ?_ ?_
  rotate_left
  · intro w'
    go_simp
    with_reducible rfl
  rotate_left
  · simp only [Act.put, List.setIfInBounds_toArray, List.set_cons_zero, List.set_cons_succ, i64_w, i32_w]
    rfl
  refine one_ (i := 8) (N := some 13) #[true, true, true, true, true, true, true, true, true, false] rfl rfl (one_of HT_.out (by kernel_rfl)) (by decide) (fun K hK => ?_)
  refine Kd.R_append_rows_step KU (w0 := w) w.heap.size (by rfl) (.const (.slice none 0 0)) (.tmp 12) 23 32 (.agg #[.int .i64 0, .int .u8 0, .int .u64 0]) 24 rfl Try.underlying23 info32 rfl (by decide) (by omega) _ [] (lst f n) _ _ _ (fun _ => True) (fun _ => False) rfl rfl (Kd.R_nil _ _ _ _ _) ((HM.out.below hHeld).row n hn) (fun _ _ h => h) (fun _ h => h.elim) (fun _ _ => trivial) hHeld hHeld.size ?aL ?_
  case aL => simp; omega
  intro v1 w2 ho hb2 _ _
  rw [List.nil_append] at ho
  have HO := Aside0.mk ho
  clear ho
  refine hK.out _ _ (by exact hb2) (fun hHeld => ?_)
  clear hK K
  refine norm_ (a' := ?_) ?_ ?_
  rotate_left
  · first
    | (show Act.put _ (some 13) _ = _; simp only [Act.put, List.setIfInBounds_toArray, List.set_cons_zero, List.set_cons_succ, i64_w, i32_w]; rfl)
    | rfl
  refine pure_ (i := 9) (N := some 2) (v := ?_) (a' := ?_) #[true, true, true, true, true, true, true, true, true, true] rfl rfl (any_of HT_.out (by kernel_rfl)) (fun _ _ _ h => h) (Or.inl ⟨by rfl, ?_⟩) ?_ ?_
  rotate_left
  · intro w'
    go_simp
    with_reducible rfl
  rotate_left
  · simp only [Act.put, List.setIfInBounds_toArray, List.set_cons_zero, List.set_cons_succ, i64_w, i32_w]
    rfl
  refine done_ (done_of HT_.out (by kernel_rfl)) ?_
  go_wp2
  go_ret
  exact ⟨_, rfl, HO.out, hHeld⟩
set_option maxHeartbeats 1600000 in
theorem get_calls (m s n : Nat) (f : Nat → U) (i : Int) (w : World) (h : Mem w m s n f) (hn : n ≤ 16) :
    Calls Try.prog 21 #[.pointer (some ⟨m, 0, none⟩), .int .i64 i] w fun e w' => e = .returned (.tuple #[uv (if 0 ≤ i ∧ i < n then f i.toNat else (0, 0, 0)), .bool (decide (0 ≤ i ∧ i < n))]) ∧ Below w.heap.size w w' := by
  have HM := Aside0.mk h
  clear h
  by_cases hi : 0 ≤ i ∧ i < n
  · rw [if_pos hi, decide_eq_true hi]
    have ht : decide (0 ≤ i ∧ i < n) = true := decide_eq_true hi
    obtain ⟨k, rfl⟩ := Int.eq_ofNat_of_zero_le hi.1
    rw [Int.toNat_natCast]
    have hk : k < 16 := by omega
    have hki : (k : Int) < 16 := by omega
    clear hi
    go_enter Try.func21, Try.ntmps21
    go_upto_region 1 with (fail)
    have HB := Aside0.mk ((Below.refl w.heap.size w).alloc (Nat.le_refl _) (.cells #[.int .i64 0, .int .u8 0, .int .u64 0] 32 (0, 0)))
    have HY := Aside0.mk (show Box (w.alloc (.cells #[.int .i64 0, .int .u8 0, .int .u64 0] 32 (0, 0))) w.heap.size (0, 0, 0) from heap_new _ _)
    replace HM := Aside0.mk (HM.out.below HB.out)
    generalize w.alloc _ = w1 at HB HY HM ⊢
    generalize hb : w.heap.size = b at HY ⊢
    go_wp2_with fail
    refine (there_calls m s n f k _ HM.out).mono ?_
    rintro e w1 ⟨rfl, rfl⟩
    rw [ht]
    obtain ⟨y0, y1, y2⟩ := HY.out.cu
    have z0 : w1.frozen? ⟨b, 0, none⟩ = false := HY.out.fz 0
    have z1 : w1.frozen? ⟨b, 1, none⟩ = false := HY.out.fz 1
    have z2 : w1.frozen? ⟨b, 2, none⟩ = false := HY.out.fz 2
    obtain ⟨x0, x1, x2⟩ := HM.out.cu k hk
    go_wp2
    have HY3 := Box.set3 (u := f k) HY.out
    clear y0 y1 y2
    obtain ⟨y0, y1, y2⟩ := HY3.cu
    have HB3 := (((HB.out.setCell (p := ⟨b, 0, none⟩) (Nat.le_of_eq hb) (.int .i64 (f k).1)).setCell (p := ⟨b, 1, none⟩) (Nat.le_of_eq hb) (.int .u8 (f k).2.1)).setCell (p := ⟨b, 2, none⟩) (Nat.le_of_eq hb) (.int .u64 (f k).2.2))
    exact bodyPost_ret (v := .tuple #[uv (f k), .bool true]) (by simp only [uv]; simp [results, Try.results21, go_sem, y0, y1, y2]) rfl ⟨rfl, HB3⟩
  · rw [if_neg hi, decide_eq_false hi]
    have ht : decide (0 ≤ i ∧ i < n) = false := decide_eq_false hi
    clear hi
    go_enter Try.func21, Try.ntmps21
    go_upto_region 1 with (fail)
    have HB := Aside0.mk ((Below.refl w.heap.size w).alloc (Nat.le_refl _) (.cells #[.int .i64 0, .int .u8 0, .int .u64 0] 32 (0, 0)))
    have HY := Aside0.mk (show Box (w.alloc (.cells #[.int .i64 0, .int .u8 0, .int .u64 0] 32 (0, 0))) w.heap.size (0, 0, 0) from heap_new _ _)
    replace HM := Aside0.mk (HM.out.below HB.out)
    generalize w.alloc _ = w1 at HB HY HM ⊢
    generalize hb : w.heap.size = b at HY ⊢
    go_wp2_with fail
    refine (there_calls m s n f i _ HM.out).mono ?_
    rintro e w1 ⟨rfl, rfl⟩
    rw [ht]
    obtain ⟨y0, y1, y2⟩ := HY.out.cu
    have z0 : w1.frozen? ⟨b, 0, none⟩ = false := HY.out.fz 0
    have z1 : w1.frozen? ⟨b, 1, none⟩ = false := HY.out.fz 1
    have z2 : w1.frozen? ⟨b, 2, none⟩ = false := HY.out.fz 2
    go_wp2
    have HY3 := Box.set3 (u := ((0, 0, 0) : U)) HY.out
    clear y0 y1 y2
    obtain ⟨y0, y1, y2⟩ := HY3.cu
    have HB3 := (((HB.out.setCell (p := ⟨b, 0, none⟩) (Nat.le_of_eq hb) (.int .i64 0)).setCell (p := ⟨b, 1, none⟩) (Nat.le_of_eq hb) (.int .u8 0)).setCell (p := ⟨b, 2, none⟩) (Nat.le_of_eq hb) (.int .u64 0))
    exact bodyPost_ret (v := .tuple #[uv (0, 0, 0), .bool false]) (by simp only [uv]; simp [results, Try.results21, go_sem, y0, y1, y2]) rfl ⟨rfl, HB3⟩
end Go.Proofs.Yticpifhnfpnibaa.Mem
