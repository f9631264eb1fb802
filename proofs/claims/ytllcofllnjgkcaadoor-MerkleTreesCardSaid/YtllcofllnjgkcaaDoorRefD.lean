/- What calls of Go functions of this seat come to, as the rows need it: under the conditions that each theorem names. -/
import Derived.Test.YtllcofllnjgkcaaDoorRefC
namespace Go.Proofs.YtllcofllnjgkcaaDoor.Ref
open Go.RowKit Go.Proofs.YtllcofllnjgkcaaDoorW.PrintWords Go.Proofs.YtllcofllnjgkcaaDoorW.PrintLast Go.Proofs.YtllcofllnjgkcaaDoorW.PrintMore
set_option linter.unusedVariables false
set_option linter.unusedSimpArgs false
open Go.Proofs.YtllcofllnjgkcaaDoor.Sha
/-- The digits of a number, as far as k of them. -/
def dg (n : Nat) : Nat → List Nat
  | 0 => z10
  | k + 1 => (dg n k).set k (n / 65536 ^ k % 65536)
theorem dg_len (n k : Nat) : (dg n k).length = 10 := by
  induction k with
  | zero => rfl
  | succ k ih => simp [dg, ih]
theorem dg_small (n k : Nat) : small (dg n k) := by
  induction k with
  | zero => intro x hx; obtain ⟨_, rfl⟩ := List.mem_replicate.1 hx; omega
  | succ k ih => exact small_set ih _ _ (by omega)
theorem dg_num (n : Nat) (h : n < 18446744073709551616) : num (dg n 4) = n := by
  simp [dg, z10, List.replicate, num]
  omega
structure Dm (w0 w : World) (z o : List Nat) : Prop where
  z : w.heap[w0.heap.size]? = some (.cells (c10 z) 77 (0, 0))
  o : w.heap[w0.heap.size + 1]? = some (.cells (c10 o) 77 (0, 0))
  l : Below w0.heap.size w0 w
theorem Dm.set {w0 w : World} {z o : List Nat} (h : Dm w0 w z o) (j x : Nat) : Dm w0 (w.setCell ⟨w0.heap.size + 1, j, none⟩ (.int .u64 (x : Int))) z (o.set j x) :=
  ⟨blk_far h.z (p := ⟨w0.heap.size + 1, j, none⟩) (by show _ ≠ _; simp) _, by rw [← c10_set]; exact blk_set h.o j _, h.l.setCell (p := ⟨w0.heap.size + 1, j, none⟩) (by show w0.heap.size ≤ w0.heap.size + 1; omega) _⟩
theorem Dm.start (w : World) (a b : List Nat) : Dm w ((w.alloc (.cells (c10 a) 77)).alloc (.cells (c10 b) 77)) a b :=
  ⟨by rw [Below.heap_alloc _ _ _ (by simp)]; exact Sha.heap_new _ _, Sha.heap_new' _ _ _ (by simp), ((Below.refl w.heap.size w).alloc (Nat.le_refl _) _).alloc (by simp) _⟩
set_option maxHeartbeats 1600000 in
set_option maxRecDepth 100000 in
theorem digits_calls (n : Nat) (w : World) (hn : n < 18446744073709551616) :
    Calls Tryd.prog 47 #[.int .u64 n] w fun e w' => e = .returned (v10 (dg n 4)) ∧ Below w.heap.size w w' := by
  go_enter Tryd.func47, Tryd.ntmps47
  go_wp2
  go_loopw [0, 4] (fun v0 v wr => ∃ k m : Nat, k ≤ 4 ∧ m < 18446744073709551616 ∧ v0 = .int .u64 (m : Int) ∧ v = .int .i64 (k : Int) ∧ Aside0 (m = n / 65536 ^ k) ∧ Aside0 (Dm w wr z10 (dg n k))) (fun _ v _ => 4 - (intOf v).toNat)
  case atStart => exact ⟨0, n, by omega, hn, rfl, rfl, ⟨by simp⟩, ⟨Dm.start w z10 z10⟩⟩
  case round =>
    clear hn
    obtain ⟨k, m, hk, hm, rfl, rfl, HM, HD⟩ := hrel
    by_cases hlt : k < 4
    · have hk10 : (k : Int) < 10 := by omega
      have hx := (cell_of HD.out.o).2 (c10_get (l := dg n k) (j := k) (by rw [dg_len]; omega))
      have hf : wr.frozen? ⟨w.heap.size + 1, k, none⟩ = false := by simp [World.frozen?, HD.out.o]
      generalize (dg n k).getD k 0 = od at hx
      have HD2 := Aside0.mk (HD.out.set k (m % 65536))
      rw [show (dg n k).set k (m % 65536) = dg n (k + 1) by rw [HM.out]; rfl] at HD2
      rw [show ((m % 65536 : Nat) : Int) = (m : Int) % 65536 from rfl] at HD2
      have HM2 := Aside0.mk (show m / 65536 = n / 65536 ^ (k + 1) by rw [HM.out, Nat.div_div_eq_div_mul, Nat.pow_succ])
      go_wp2
      go_roundw
      case rel => exact ⟨k + 1, m / 65536, by omega, by omega, by go_num, by go_num, HM2, HD2⟩
      case measure => simp [intOf]; omega
    · obtain rfl : k = 4 := by omega
      have HI := Aside0.mk (info10 (dg n 4) (dg_len _ _))
      have HL := Aside0.mk (dg_len n 4)
      clear hlt hk HM
      generalize hD : dg n 4 = D at *
      have HDD := Aside0.mk hD
      clear hD
      rw [show ((4 : Nat) : Int) = 4 from rfl]
      go_wp2_with (first | (refine wpList_load_row rfl 77 (.tmp 3) rfl (w.heap.size + 1) rfl 77 (c10 D) (0, 0) _ HD.out.o Tryd.underlying77 rfl HI.out ?_) | (refine wpList_store_row rfl 77 (.tmp 2) (.tmp 15) rfl w.heap.size (c10 D) rfl rfl 77 _ HD.out.z HI.out (by rw [c10_size, c10_size, HL.out]; rfl) (c10_one _) ?_))
      have HF := Aside0.mk (setRow_heap _ _ _ (c10 D) _ _ HD.out.z)
      have HB := Aside0.mk (below_setRow HD.out.l (Nat.le_refl _) (c10 D))
      (try simp only [Exit.inBlock, Exit.then])
      refine bodyPost_ret (results_cell_row rfl _ _ w.heap.size 77 (c10 D) (0, 0) _ rfl HF.out Tryd.underlying77 rfl HI.out) rfl ?_
      exact ⟨by first | rfl | rw [HDD.out], HB.out⟩
theorem num_top {a b : List Nat} {q : Nat} (la : a.length = 10) (lb : b.length = 10) (sa : small a) (hq : q < 10) (hd : a.drop (q + 1) = b.drop (q + 1)) (h : a.getD q 0 < b.getD q 0) : num a < num b := by
  have h1 := num_split a (q + 1) (by omega)
  have h2 := num_split b (q + 1) (by omega)
  have h3 := num_take_succ a q (by omega)
  have h4 := num_take_succ b q (by omega)
  have h5 := num_lt (a.take q) (fun x hx => sa x (List.mem_of_mem_take hx))
  rw [List.length_take, show min q a.length = q by omega] at h5
  rw [h1, h2, hd, h3, h4]
  have h6 : (a.getD q 0 + 1) * 65536 ^ q ≤ b.getD q 0 * 65536 ^ q := Nat.mul_le_mul_right _ h
  rw [Nat.add_mul, Nat.one_mul] at h6
  omega
theorem drop_step {a b : List Nat} {q : Nat} (la : a.length = 10) (lb : b.length = 10) (hq : q < 10) (hd : a.drop (q + 1) = b.drop (q + 1)) (h : a.getD q 0 = b.getD q 0) : a.drop q = b.drop q := by
  rw [List.drop_eq_getElem_cons (show q < a.length by omega), List.drop_eq_getElem_cons (show q < b.length by omega), hd]
  congr 1
  rw [List.getD_eq_getElem?_getD, List.getD_eq_getElem?_getD, List.getElem?_eq_getElem (by omega), List.getElem?_eq_getElem (by omega)] at h
  simpa using h
def abv_T4 : Bool × List (List Nat × List Nat) := (true, [([], []), ([0], [0]), ([1], [1]), ([], []), ([3], [3]), ([4], [4]), ([2, 5], [2, 5])])
def abv_B4 : List Nat := [0, 1, 3, 0, 8, 24, 63]
theorem abv_tab4 : rtab .any (opsOf Tryd.f49 4) = abv_T4 := by kernel_rfl
theorem abv_bits4 : waitsOk abv_T4.2 abv_B4 = true := by kernel_rfl
def abv_T5 : Bool × List (List Nat × List Nat) := (true, [([], []), ([0], [0]), ([1], [1]), ([], []), ([3], [3]), ([4], [4]), ([2, 5], [2, 5]), ([6, 0, 1, 2, 3, 4, 5, 6], [6])])
def abv_B5 : List Nat := [0, 1, 3, 0, 8, 24, 63, 127]
theorem abv_tab5 : rtab .any (opsOf Tryd.f49 5) = abv_T5 := by kernel_rfl
theorem abv_bits5 : waitsOk abv_T5.2 abv_B5 = true := by kernel_rfl
set_option maxHeartbeats 1600000 in
set_option maxRecDepth 100000 in
theorem above_calls (a b : List Nat) (w : World) (ha : a.length = 10) (hb : b.length = 10) (hsa : small a) (hsb : small b) :
    Calls Tryd.prog 49 #[v10 a, v10 b] w fun e w' => e = .returned (.bool (decide (num b < num a))) ∧ Below w.heap.size w w' := by
  have HLA := Aside0.mk ha
  have HLB := Aside0.mk hb
  have HSA := Aside0.mk hsa
  have HSB := Aside0.mk hsb
  clear ha hb hsa hsb
  go_enter Tryd.func49, Tryd.ntmps49
  go_wp2
  go_loopw [5] (fun v wr => ∃ k : Nat, k ≤ 10 ∧ v = .int .i64 ((k : Int) - 1) ∧ Aside0 (a.drop k = b.drop k) ∧ Aside0 (Dm w wr a b)) (fun v _ => ((intOf v) + 1).toNat)
  case atStart => exact ⟨10, by omega, rfl, ⟨by rw [List.drop_eq_nil_of_le (by rw [HLA.out]; omega), List.drop_eq_nil_of_le (by rw [HLB.out]; omega)]⟩, ⟨Dm.start w a b⟩⟩
  case round =>
    obtain ⟨k, hk, rfl, HE, HD⟩ := hrel
    rcases k with _ | q
    · rw [show ((0 : Nat) : Int) - 1 = -1 from rfl]
      have HF := Aside0.mk (show decide (num b < num a) = false by
        have h := HE.out
        rw [List.drop_zero, List.drop_zero] at h
        rw [h]
        simp)
      go_wp2
      go_ret
      exact ⟨by rw [HF.out]; rfl, HD.out.l⟩
    · rw [show ((q + 1 : Nat) : Int) - 1 = (q : Int) by omega]
      have hq10 : (q : Int) < 10 := by omega
      obtain ⟨x, hx⟩ : ∃ x, x = a.getD q 0 := ⟨_, rfl⟩
      obtain ⟨y, hy⟩ : ∃ y, y = b.getD q 0 := ⟨_, rfl⟩
      have HLD := Aside0.mk (show (∀ w' : World, w'.heap = wr.heap → w'.cell? ⟨w.heap.size, q, none⟩ = some (.int .u64 (x : Int))) ∧ (∀ w' : World, w'.heap = wr.heap → w'.cell? ⟨w.heap.size + 1, q, none⟩ = some (.int .u64 (y : Int))) from
        ⟨fun w' hh => by rw [hx]; exact (cell_of (show w'.heap[w.heap.size]? = _ by rw [hh]; exact HD.out.z)).2 (c10_get (by rw [HLA.out]; omega)), fun w' hh => by rw [hy]; exact (cell_of (show w'.heap[w.heap.size + 1]? = _ by rw [hh]; exact HD.out.o)).2 (c10_get (by rw [HLB.out]; omega))⟩)
      have hS0 : wr.drew.heap = wr.heap := rfl
      have HBW := Aside0.mk (below_drew1 HD.out.l)
      by_cases hxy : x = y
      · have HE2 := Aside0.mk (drop_step HLA.out HLB.out (by omega) HE.out (by rw [← hx, ← hy]; exact hxy))
        subst hxy
        clear hx hy
        go_upto_region 4 with (fail)
        refine start_ (n := 7) (S := fun w' => w'.heap = wr.heap) (ds := []) #[false, false, false, false, false, false, false] (by kernel_rfl) rfl rfl (by exact hS0) (fun hHeld => ?_)
        refine with_tabW abv_tab4 abv_bits4 (fun HT_ HW_ => ?_)
        refine pure_ (i := 0) (N := some 10) (v := ?_) (a' := ?_) #[true, false, false, false, false, false, false] rfl rfl (any_of HT_.out (by kernel_rfl)) (fun _ _ _ h => h) (Or.inl ⟨by rfl, ?_⟩) ?_ ?_
        rotate_left
        · intro w'
          go_simp
          with_reducible rfl
        rotate_left
        · simp only [Act.put, List.setIfInBounds_toArray, List.set_cons_zero, List.set_cons_succ, i64_w, i32_w]
          rfl
        refine pure_ (i := 1) (N := some 11) (v := ?_) (a' := ?_) #[true, true, false, false, false, false, false] rfl rfl (any_of HT_.out (by kernel_rfl)) (fun _ _ _ h => h) (Or.inl ⟨by rfl, ?_⟩) ?_ ?_
        rotate_left
        · intro w'
          go_simp
          with_reducible rfl
        rotate_left
        · simp only [Act.put, List.setIfInBounds_toArray, List.set_cons_zero, List.set_cons_succ, i64_w, i32_w]
          rfl
        refine take_ (i := 2) (N := some 12) (v := ?_) (a' := ?_) #[true, true, true, false, false, false, false] rfl rfl (take_ofW HT_.out HW_.out (by kernel_rfl)) (fun _ _ _ h => h) (Or.inl ⟨by rfl, ?_⟩) hHeld ?_ ?_
        rotate_left
        · intro w' hSt
          have hx := HLD.out.1 w' hSt
          go_simp
          with_reducible rfl
        rotate_left
        · simp only [Act.put, List.setIfInBounds_toArray, List.set_cons_zero, List.set_cons_succ, i64_w, i32_w]
          rfl
        refine pure_ (i := 3) (N := some 13) (v := ?_) (a' := ?_) #[true, true, true, true, false, false, false] rfl rfl (any_of HT_.out (by kernel_rfl)) (fun _ _ _ h => h) (Or.inl ⟨by rfl, ?_⟩) ?_ ?_
        rotate_left
        · intro w'
          go_simp
          with_reducible rfl
        rotate_left
        · simp only [Act.put, List.setIfInBounds_toArray, List.set_cons_zero, List.set_cons_succ, i64_w, i32_w]
          rfl
        refine pure_ (i := 4) (N := some 14) (v := ?_) (a' := ?_) #[true, true, true, true, true, false, false] rfl rfl (any_of HT_.out (by kernel_rfl)) (fun _ _ _ h => h) (Or.inl ⟨by rfl, ?_⟩) ?_ ?_
        rotate_left
        · intro w'
          go_simp
          with_reducible rfl
        rotate_left
        · simp only [Act.put, List.setIfInBounds_toArray, List.set_cons_zero, List.set_cons_succ, i64_w, i32_w]
          rfl
        refine take_ (i := 5) (N := some 15) (v := ?_) (a' := ?_) #[true, true, true, true, true, true, false] rfl rfl (take_ofW HT_.out HW_.out (by kernel_rfl)) (fun _ _ _ h => h) (Or.inl ⟨by rfl, ?_⟩) hHeld ?_ ?_
        rotate_left
        · intro w' hSt
          have hx := HLD.out.2 w' hSt
          go_simp
          with_reducible rfl
        rotate_left
        · simp only [Act.put, List.setIfInBounds_toArray, List.set_cons_zero, List.set_cons_succ, i64_w, i32_w]
          rfl
        refine pure_ (i := 6) (N := some 16) (v := ?_) (a' := ?_) #[true, true, true, true, true, true, true] rfl rfl (any_of HT_.out (by kernel_rfl)) (fun _ _ _ h => h) (Or.inl ⟨by rfl, ?_⟩) ?_ ?_
        rotate_left
        · intro w'
          go_simp
          with_reducible rfl
        rotate_left
        · simp only [Act.put, List.setIfInBounds_toArray, List.set_cons_zero, List.set_cons_succ, i64_w, i32_w]
          rfl
        refine done_ (done_of HT_.out (by kernel_rfl)) ?_
        clear hS0 hHeld HT_ HW_ HLD
        have HD2 := Aside0.mk (show Dm w wr.drew a b from ⟨HD.out.z, HD.out.o, HBW.out⟩)
        generalize wr.drew = w5 at HD2 ⊢
        go_wp2
        go_roundw
        case rel => exact ⟨q, by omega, by go_num, HE2, HD2⟩
        case measure => simp [intOf]
      · have HF := Aside0.mk (show decide (num b < num a) = decide (y < x) by
          rw [decide_eq_decide]
          rcases Nat.lt_or_ge y x with h | h
          · have := num_top HLB.out HLA.out HSB.out (by omega) HE.out.symm (by rw [← hx, ← hy]; exact h)
            omega
          · have := num_top HLA.out HLB.out HSA.out (by omega) HE.out (by rw [← hx, ← hy]; omega)
            omega)
        have hxy2 : ((x : Int) == (y : Int)) = false := by rw [beq_eq_false_iff_ne]; omega
        have hxy3 : (x == y) = false := by rw [beq_eq_false_iff_ne]; exact hxy
        have hxy4 : ((x : Int) != (y : Int)) = true := by simp [bne, hxy2]
        clear hx hy
        go_upto_region 4 with (fail)
        refine start_ (n := 7) (S := fun w' => w'.heap = wr.heap) (ds := []) #[false, false, false, false, false, false, false] (by kernel_rfl) rfl rfl (by exact hS0) (fun hHeld => ?_)
        refine with_tabW abv_tab4 abv_bits4 (fun HT_ HW_ => ?_)
        refine pure_ (i := 0) (N := some 10) (v := ?_) (a' := ?_) #[true, false, false, false, false, false, false] rfl rfl (any_of HT_.out (by kernel_rfl)) (fun _ _ _ h => h) (Or.inl ⟨by rfl, ?_⟩) ?_ ?_
        rotate_left
        · intro w'
          go_simp
          with_reducible rfl
        rotate_left
        · simp only [Act.put, List.setIfInBounds_toArray, List.set_cons_zero, List.set_cons_succ, i64_w, i32_w]
          rfl
        refine pure_ (i := 1) (N := some 11) (v := ?_) (a' := ?_) #[true, true, false, false, false, false, false] rfl rfl (any_of HT_.out (by kernel_rfl)) (fun _ _ _ h => h) (Or.inl ⟨by rfl, ?_⟩) ?_ ?_
        rotate_left
        · intro w'
          go_simp
          with_reducible rfl
        rotate_left
        · simp only [Act.put, List.setIfInBounds_toArray, List.set_cons_zero, List.set_cons_succ, i64_w, i32_w]
          rfl
        refine take_ (i := 2) (N := some 12) (v := ?_) (a' := ?_) #[true, true, true, false, false, false, false] rfl rfl (take_ofW HT_.out HW_.out (by kernel_rfl)) (fun _ _ _ h => h) (Or.inl ⟨by rfl, ?_⟩) hHeld ?_ ?_
        rotate_left
        · intro w' hSt
          have hx := HLD.out.1 w' hSt
          go_simp
          with_reducible rfl
        rotate_left
        · simp only [Act.put, List.setIfInBounds_toArray, List.set_cons_zero, List.set_cons_succ, i64_w, i32_w]
          rfl
        refine pure_ (i := 3) (N := some 13) (v := ?_) (a' := ?_) #[true, true, true, true, false, false, false] rfl rfl (any_of HT_.out (by kernel_rfl)) (fun _ _ _ h => h) (Or.inl ⟨by rfl, ?_⟩) ?_ ?_
        rotate_left
        · intro w'
          go_simp
          with_reducible rfl
        rotate_left
        · simp only [Act.put, List.setIfInBounds_toArray, List.set_cons_zero, List.set_cons_succ, i64_w, i32_w]
          rfl
        refine pure_ (i := 4) (N := some 14) (v := ?_) (a' := ?_) #[true, true, true, true, true, false, false] rfl rfl (any_of HT_.out (by kernel_rfl)) (fun _ _ _ h => h) (Or.inl ⟨by rfl, ?_⟩) ?_ ?_
        rotate_left
        · intro w'
          go_simp
          with_reducible rfl
        rotate_left
        · simp only [Act.put, List.setIfInBounds_toArray, List.set_cons_zero, List.set_cons_succ, i64_w, i32_w]
          rfl
        refine take_ (i := 5) (N := some 15) (v := ?_) (a' := ?_) #[true, true, true, true, true, true, false] rfl rfl (take_ofW HT_.out HW_.out (by kernel_rfl)) (fun _ _ _ h => h) (Or.inl ⟨by rfl, ?_⟩) hHeld ?_ ?_
        rotate_left
        · intro w' hSt
          have hx := HLD.out.2 w' hSt
          go_simp
          with_reducible rfl
        rotate_left
        · simp only [Act.put, List.setIfInBounds_toArray, List.set_cons_zero, List.set_cons_succ, i64_w, i32_w]
          rfl
        refine pure_ (i := 6) (N := some 16) (v := ?_) (a' := ?_) #[true, true, true, true, true, true, true] rfl rfl (any_of HT_.out (by kernel_rfl)) (fun _ _ _ h => h) (Or.inl ⟨by rfl, ?_⟩) ?_ ?_
        rotate_left
        · intro w'
          go_simp
          with_reducible rfl
        rotate_left
        · simp only [Act.put, List.setIfInBounds_toArray, List.set_cons_zero, List.set_cons_succ, i64_w, i32_w]
          rfl
        refine done_ (done_of HT_.out (by kernel_rfl)) ?_
        clear hS0 hHeld HT_ HW_
        have hS0 : wr.drew.drew.heap = wr.heap := rfl
        go_upto_region 5 with (fail)
        refine start_ (n := 8) (S := fun w' => w'.heap = wr.heap) (ds := []) #[false, false, false, false, false, false, false, false] (by kernel_rfl) rfl rfl (by exact hS0) (fun hHeld => ?_)
        refine with_tabW abv_tab5 abv_bits5 (fun HT_ HW_ => ?_)
        refine pure_ (i := 0) (N := some 17) (v := ?_) (a' := ?_) #[true, false, false, false, false, false, false, false] rfl rfl (any_of HT_.out (by kernel_rfl)) (fun _ _ _ h => h) (Or.inl ⟨by rfl, ?_⟩) ?_ ?_
        rotate_left
        · intro w'
          go_simp
          with_reducible rfl
        rotate_left
        · simp only [Act.put, List.setIfInBounds_toArray, List.set_cons_zero, List.set_cons_succ, i64_w, i32_w]
          rfl
        refine pure_ (i := 1) (N := some 18) (v := ?_) (a' := ?_) #[true, true, false, false, false, false, false, false] rfl rfl (any_of HT_.out (by kernel_rfl)) (fun _ _ _ h => h) (Or.inl ⟨by rfl, ?_⟩) ?_ ?_
        rotate_left
        · intro w'
          go_simp
          with_reducible rfl
        rotate_left
        · simp only [Act.put, List.setIfInBounds_toArray, List.set_cons_zero, List.set_cons_succ, i64_w, i32_w]
          rfl
        refine take_ (i := 2) (N := some 19) (v := ?_) (a' := ?_) #[true, true, true, false, false, false, false, false] rfl rfl (take_ofW HT_.out HW_.out (by kernel_rfl)) (fun _ _ _ h => h) (Or.inl ⟨by rfl, ?_⟩) hHeld ?_ ?_
        rotate_left
        · intro w' hSt
          have hx := HLD.out.1 w' hSt
          go_simp
          with_reducible rfl
        rotate_left
        · simp only [Act.put, List.setIfInBounds_toArray, List.set_cons_zero, List.set_cons_succ, i64_w, i32_w]
          rfl
        refine pure_ (i := 3) (N := some 20) (v := ?_) (a' := ?_) #[true, true, true, true, false, false, false, false] rfl rfl (any_of HT_.out (by kernel_rfl)) (fun _ _ _ h => h) (Or.inl ⟨by rfl, ?_⟩) ?_ ?_
        rotate_left
        · intro w'
          go_simp
          with_reducible rfl
        rotate_left
        · simp only [Act.put, List.setIfInBounds_toArray, List.set_cons_zero, List.set_cons_succ, i64_w, i32_w]
          rfl
        refine pure_ (i := 4) (N := some 21) (v := ?_) (a' := ?_) #[true, true, true, true, true, false, false, false] rfl rfl (any_of HT_.out (by kernel_rfl)) (fun _ _ _ h => h) (Or.inl ⟨by rfl, ?_⟩) ?_ ?_
        rotate_left
        · intro w'
          go_simp
          with_reducible rfl
        rotate_left
        · simp only [Act.put, List.setIfInBounds_toArray, List.set_cons_zero, List.set_cons_succ, i64_w, i32_w]
          rfl
        refine take_ (i := 5) (N := some 22) (v := ?_) (a' := ?_) #[true, true, true, true, true, true, false, false] rfl rfl (take_ofW HT_.out HW_.out (by kernel_rfl)) (fun _ _ _ h => h) (Or.inl ⟨by rfl, ?_⟩) hHeld ?_ ?_
        rotate_left
        · intro w' hSt
          have hx := HLD.out.2 w' hSt
          go_simp
          with_reducible rfl
        rotate_left
        · simp only [Act.put, List.setIfInBounds_toArray, List.set_cons_zero, List.set_cons_succ, i64_w, i32_w]
          rfl
        refine pure_ (i := 6) (N := some 23) (v := ?_) (a' := ?_) #[true, true, true, true, true, true, true, false] rfl rfl (any_of HT_.out (by kernel_rfl)) (fun _ _ _ h => h) (Or.inl ⟨by rfl, ?_⟩) ?_ ?_
        rotate_left
        · intro w'
          go_simp
          with_reducible rfl
        rotate_left
        · simp only [Act.put, List.setIfInBounds_toArray, List.set_cons_zero, List.set_cons_succ, i64_w, i32_w]
          rfl
        refine pure_ (i := 7) (N := some 4) (v := ?_) (a' := ?_) #[true, true, true, true, true, true, true, true] rfl rfl (any_of HT_.out (by kernel_rfl)) (fun _ _ _ h => h) (Or.inl ⟨by rfl, ?_⟩) ?_ ?_
        rotate_left
        · intro w'
          go_simp
          with_reducible rfl
        rotate_left
        · simp only [Act.put, List.setIfInBounds_toArray, List.set_cons_zero, List.set_cons_succ, i64_w, i32_w]
          rfl
        refine done_ (done_of HT_.out (by kernel_rfl)) ?_
        clear hS0 hHeld HT_ HW_
        go_wp2
        go_ret
        exact ⟨by rw [HF.out]; first | rfl | simp, below_drew1 HBW.out⟩
end Go.Proofs.YtllcofllnjgkcaaDoor.Ref
