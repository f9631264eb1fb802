/- What calls of Go functions of this seat come to, as the rows need it: under the conditions that each theorem names. -/
import Derived.Test.YticpifhnfpnibaaRef
namespace Go.Proofs.Yticpifhnfpnibaa.Mem
open Go.RowKit Go.Proofs.YticpifhnfpnibaaW.PrintWords Go.Proofs.YticpifhnfpnibaaW.PrintLast Go.Proofs.YticpifhnfpnibaaW.PrintMore
set_option linter.unusedVariables false
set_option linter.unusedSimpArgs false
def rhear_T3 : Bool × List (List Nat × List Nat) := (true, [([], []), ([0], [0]), ([1], [1]), ([2], [2]), ([], []), ([4], [4]), ([3, 5], [3, 5]), ([6], [6]), ([], []), ([8, 7, 0, 1, 2, 3, 4, 5, 6, 7, 8], [7, 8])])
def rhear_B3 : List Nat := [0, 1, 3, 7, 0, 16, 63, 127, 0, 511]
theorem rhear_tab3 : rtab .any (opsOf Try.f19 3) = rhear_T3 := by kernel_rfl
theorem rhear_bits3 : waitsOk rhear_T3.2 rhear_B3 = true := by kernel_rfl
def rhear_T5 : Bool × List (List Nat × List Nat) := (true, [([], []), ([0], [0]), ([], []), ([2], [2]), ([3], [3]), ([4], [4]), ([1, 5], [1, 5]), ([6], [6])])
def rhear_B5 : List Nat := [0, 1, 0, 4, 12, 28, 63, 127]
theorem rhear_tab5 : rtab .any (opsOf Try.f19 5) = rhear_T5 := by kernel_rfl
theorem rhear_bits5 : waitsOk rhear_T5.2 rhear_B5 = true := by kernel_rfl
def rhear_T15 : Bool × List (List Nat × List Nat) := (true, [([], []), ([0], [0]), ([1], [1]), ([2], [2]), ([], []), ([4], [4]), ([], []), ([3, 5, 0, 1, 2, 3, 4, 5, 6], [3, 5]), ([7, 6, 0, 1, 2, 3, 4, 5, 6], [6, 7])])
def rhear_B15 : List Nat := [0, 1, 3, 7, 0, 16, 0, 127, 255]
theorem rhear_tab15 : rtab .any (opsOf Try.f19 15) = rhear_T15 := by kernel_rfl
theorem rhear_bits15 : waitsOk rhear_T15.2 rhear_B15 = true := by kernel_rfl
theorem endE_no {s n : Nat} {f : Nat → U} {u : U} (hno : ¬ may n u) : Ending.returned (.tuple #[.bool false, .int .i64 2]) = .returned (.tuple #[.bool (hearB s n f u), .int .i64 (hearE n u)]) := by
  unfold hearB hearE
  rw [decide_eq_false (fun h => hno h.1), if_neg hno]
theorem endE_same {s n : Nat} {f : Nat → U} {u : U} (hy : may n u) (h : next s (f u.1.toNat) u = f u.1.toNat) : Ending.returned (.tuple #[.bool false, .int .i64 0]) = .returned (.tuple #[.bool (hearB s n f u), .int .i64 (hearE n u)]) := by
  unfold hearB hearE
  rw [decide_eq_false (fun h' => h'.2 h), if_pos hy]
theorem endE_new {s n : Nat} {f : Nat → U} {u : U} (hy : may n u) (h : ¬ next s (f u.1.toNat) u = f u.1.toNat) : Ending.returned (.tuple #[.bool true, .int .i64 0]) = .returned (.tuple #[.bool (hearB s n f u), .int .i64 (hearE n u)]) := by
  unfold hearB hearE
  rw [decide_eq_true ⟨hy, h⟩, if_pos hy]
theorem next_gt {s k : Nat} {x : U} {v1 v2 : Int} (h : (k : Int) ≠ s) (hg : gt ((k : Int), v1, v2) x = true) : next s x ((k : Int), v1, v2) = ((k : Int), v1, v2) := next_greater h (of_decide_eq_true hg)
theorem next_ngt {s k : Nat} {x : U} {v1 v2 : Int} (h : (k : Int) ≠ s) (hg : gt ((k : Int), v1, v2) x = false) : next s x ((k : Int), v1, v2) = x := next_lesser h (of_decide_eq_false hg)
theorem next_al {s k : Nat} {x : U} {v1 v2 : Int} (h : k = s) (h1 : v1 = 1) (h2 : x.2.2 < v2) : next s x ((k : Int), v1, v2) = (x.1, x.2.1, v2) := by
  rw [next_max (mx := v2) h h1 (by rw [if_pos h2])]
theorem next_al_no {s k : Nat} {x : U} {v1 v2 : Int} (h : k = s) (h1 : v1 = 1) (h2 : ¬ x.2.2 < v2) : next s x ((k : Int), v1, v2) = x := by
  rw [next_max (mx := x.2.2) h h1 (by rw [if_neg h2])]
theorem Box.inc {w : World} {b : Nat} {x : U} (h : Box w b x) (v : Int) : Box (w.setCell ⟨b, 2, none⟩ (.int .u64 v)) b (x.1, x.2.1, v) := by
  have := blk_set h 2 (.int .u64 v)
  exact this
theorem rm_fin {w : World} {r g cap s n k : Nat} {f : Nat → U} {v1 v2 : Int} {nw : U} (hm : may n ((k : Int), v1, v2)) (hn : nw = next s (f k) ((k : Int), v1, v2)) (h : RM w r g cap s n (upd f k (nw.1, nw.2.1, nw.2.2))) : RM w r g cap s n (hearF s n f ((k : Int), v1, v2)) := by
  rw [hearF_yes hm]
  show RM w r g cap s n (upd f k (next s (f k) ((k : Int), v1, v2)))
  rw [← hn]
  exact h
set_option maxHeartbeats 6400000 in
set_option maxRecDepth 100000 in
theorem rhear_calls (r g cap s n : Nat) (f : Nat → U) (v0 v1 v2 : Int) (w : World) (h : RM w r g cap s n f) (hn16 : n ≤ 16) (hv : 0 ≤ v2) :
    Calls Try.prog 19 #[.pointer (some ⟨r, 0, none⟩), .agg #[.int .i64 v0, .int .u8 v1, .int .u64 v2]] w fun e w' =>
      e = .returned (.tuple #[.bool (hearB s n f (v0, v1, v2)), .int .i64 (hearE n (v0, v1, v2))]) ∧ Ch g w w' ∧ RM w' r g cap s n (hearF s n f (v0, v1, v2)) := by
  have HM := Aside0.mk h
  have hgl := h.lt.2
  have hrl := h.lt.1
  have hcap := h.2.2.1
  have hn63 : n ≤ 9223372036854775807 := by omega
  clear h
  go_enter Try.func19, Try.ntmps19
  go_upto_region 1 with (fail)
  have HB := Aside0.mk ((Below.refl w.heap.size w).alloc (Nat.le_refl _) (.cells #[.int .i64 v0, .int .u8 v1, .int .u64 v2] 32 (0, 0)))
  have HX := Aside0.mk (show Box (w.alloc (.cells #[.int .i64 v0, .int .u8 v1, .int .u64 v2] 32 (0, 0))) w.heap.size (v0, v1, v2) from heap_new _ _)
  replace HM := Aside0.mk (HM.out.below HB.out)
  generalize w.alloc _ = wa at HB HX HM ⊢
  generalize hgb : w.heap.size = b at HX ⊢
  have hbw : w.heap.size ≤ b := Nat.le_of_eq hgb
  clear hgb
  obtain ⟨o0, o1, o2⟩ := HX.out.cu
  go_wp2_with fail
  refine (rmay_calls r g cap s n f (v0, v1, v2) _ HM.out hn16).mono ?_
  rintro e w1 ⟨rfl, hb⟩
  have hbl := (Array.getElem?_eq_some_iff.1 HX.out).1
  replace HB := Aside0.mk (below_step HB.out hb)
  replace HX := Aside0.mk (HX.out.below hb)
  replace HM := Aside0.mk (HM.out.below hb)
  have hbl1 : b < w1.heap.size := Nat.lt_of_lt_of_le hbl hb.size
  clear hb o0 o1 o2 hbl
  by_cases hmay : may n (v0, v1, v2)
  rotate_left
  · rw [decide_eq_false hmay]
    have HNO := Aside0.mk hmay
    clear hmay
    go_wp2
    go_ret2
    exact ⟨endE_no HNO.out, Ch.of_below HB.out, by rw [hearF_no HNO.out]; exact HM.out⟩
  rw [decide_eq_true hmay]
  have HMAY := Aside0.mk hmay
  have h00 : 0 ≤ v0 ∧ v0 < n := hmay.1
  have HL := Aside0.mk (show v2 ≤ 1099511627776 from hmay.2.2.2)
  clear hmay
  obtain ⟨k, rfl⟩ := Int.eq_ofNat_of_zero_le h00.1
  have hk : k < n := by omega
  have hki : (k : Int) < n := by omega
  clear h00
  go_wp2_with fail
  have hS0 := below_drew1 (Below.refl w1.heap.size w1)
  refine start_ (n := 10) (S := fun w' => Below w1.heap.size w1 w') (ds := []) #[false, false, false, false, false, false, false, false, false, false] (by kernel_rfl) rfl rfl (by exact hS0) (fun hHeld => ?_)
  refine with_tabW rhear_tab3 rhear_bits3 (fun HT_ HW_ => ?_)
  generalize w1.drew = wB at hHeld ⊢
  refine pure_ (i := 0) (N := some 12) (v := ?_) (a' := ?_) #[true, false, false, false, false, false, false, false, false, false] rfl rfl (any_of HT_.out (by kernel_rfl)) (fun _ _ _ h => h) (Or.inl ⟨by rfl, ?_⟩) ?_ ?_
  rotate_left
  · intro w'
    go_simp
    with_reducible rfl
  rotate_left
  · simp only [Act.put, List.setIfInBounds_toArray, List.set_cons_zero, List.set_cons_succ, i64_w, i32_w]
    rfl
  refine pure_ (i := 1) (N := some 13) (v := ?_) (a' := ?_) #[true, true, false, false, false, false, false, false, false, false] rfl rfl (any_of HT_.out (by kernel_rfl)) (fun _ _ _ h => h) (Or.inl ⟨by rfl, ?_⟩) ?_ ?_
  rotate_left
  · intro w'
    go_simp
    with_reducible rfl
  rotate_left
  · simp only [Act.put, List.setIfInBounds_toArray, List.set_cons_zero, List.set_cons_succ, i64_w, i32_w]
    rfl
  refine pure_ (i := 2) (N := some 14) (v := ?_) (a' := ?_) #[true, true, true, false, false, false, false, false, false, false] rfl rfl (any_of HT_.out (by kernel_rfl)) (fun _ _ _ h => h) (Or.inl ⟨by rfl, ?_⟩) ?_ ?_
  rotate_left
  · intro w'
    go_simp
    with_reducible rfl
  rotate_left
  · simp only [Act.put, List.setIfInBounds_toArray, List.set_cons_zero, List.set_cons_succ, i64_w, i32_w]
    rfl
  refine take_ (i := 3) (N := some 15) (v := ?_) (a' := ?_) #[true, true, true, true, false, false, false, false, false, false] rfl rfl (take_ofW HT_.out HW_.out (by kernel_rfl)) (fun _ _ _ h => h) (Or.inl ⟨by rfl, ?_⟩) hHeld ?_ ?_
  rotate_left
  · intro w' hSt
    obtain ⟨o0, o1, o2⟩ := (HX.out.below hSt).cu
    have c0 := (HM.out.below hSt).c0
    have c1 := (HM.out.below hSt).c1
    obtain ⟨x0, x1, x2⟩ := (HM.out.below hSt).cu k hk
    go_simp
    with_reducible rfl
  rotate_left
  · simp only [Act.put, List.setIfInBounds_toArray, List.set_cons_zero, List.set_cons_succ, i64_w, i32_w]
    rfl
  refine pure_ (i := 4) (N := some 16) (v := ?_) (a' := ?_) #[true, true, true, true, true, false, false, false, false, false] rfl rfl (any_of HT_.out (by kernel_rfl)) (fun _ _ _ h => h) (Or.inl ⟨by rfl, ?_⟩) ?_ ?_
  rotate_left
  · intro w'
    go_simp
    with_reducible rfl
  rotate_left
  · simp only [Act.put, List.setIfInBounds_toArray, List.set_cons_zero, List.set_cons_succ, i64_w, i32_w]
    rfl
  refine take_ (i := 5) (N := some 17) (v := ?_) (a' := ?_) #[true, true, true, true, true, true, false, false, false, false] rfl rfl (take_ofW HT_.out HW_.out (by kernel_rfl)) (fun _ _ _ h => h) (Or.inl ⟨by rfl, ?_⟩) hHeld ?_ ?_
  rotate_left
  · intro w' hSt
    obtain ⟨o0, o1, o2⟩ := (HX.out.below hSt).cu
    have c0 := (HM.out.below hSt).c0
    have c1 := (HM.out.below hSt).c1
    obtain ⟨x0, x1, x2⟩ := (HM.out.below hSt).cu k hk
    go_simp
    with_reducible rfl
  rotate_left
  · simp only [Act.put, List.setIfInBounds_toArray, List.set_cons_zero, List.set_cons_succ, i64_w, i32_w]
    rfl
  refine pure_ (i := 6) (N := some 18) (v := ?_) (a' := ?_) #[true, true, true, true, true, true, true, false, false, false] rfl rfl (any_of HT_.out (by kernel_rfl)) (fun _ _ _ h => h) (Or.inl ⟨by rfl, ?_⟩) ?_ ?_
  rotate_left
  · intro w'
    go_simp
    with_reducible rfl
  rotate_left
  · simp only [Act.put, List.setIfInBounds_toArray, List.set_cons_zero, List.set_cons_succ, i64_w, i32_w]
    rfl
  refine take_ (i := 7) (N := some 19) (v := ?_) (a' := ?_) #[true, true, true, true, true, true, true, true, false, false] rfl rfl (take_ofW HT_.out HW_.out (by kernel_rfl)) (fun _ _ _ h => h) (Or.inl ⟨by rfl, ?_⟩) hHeld ?_ ?_
  rotate_left
  · intro w' hSt
    obtain ⟨o0, o1, o2⟩ := (HX.out.below hSt).cu
    have c0 := (HM.out.below hSt).c0
    have c1 := (HM.out.below hSt).c1
    obtain ⟨x0, x1, x2⟩ := (HM.out.below hSt).cu k hk
    go_simp
    with_reducible rfl
  rotate_left
  · simp only [Act.put, List.setIfInBounds_toArray, List.set_cons_zero, List.set_cons_succ, i64_w, i32_w]
    rfl
  refine one_ (i := 8) (N := some 6) #[true, true, true, true, true, true, true, true, true, false] rfl rfl (one_of HT_.out (by kernel_rfl)) (by decide) (fun K hK => ?_)
  have hB0 := hHeld
  refine value_ (w1 := ?_) (v := ?_) (by rfl) rfl ?_ ?_
  rotate_left 2
  · go_simp
    constructor
    · rfl
    · rfl
  refine hK.out _ _ (by first | exact hHeld.alloc hHeld.size _ | exact ((hHeld.setCell hge _).setCell hge _).setCell hge _) (fun hHeld => ?_)
  clear hK K
  refine norm_ (a' := ?_) ?_ ?_
  rotate_left
  · first
    | (show Act.put _ (some 6) _ = _; simp only [Act.put, List.setIfInBounds_toArray, List.set_cons_zero, List.set_cons_succ, i64_w, i32_w]; rfl)
    | rfl
  refine one_ (i := 9) (N := none) #[true, true, true, true, true, true, true, true, true, true] rfl rfl (one_of HT_.out (by kernel_rfl)) (by decide) (fun K hK => ?_)
  have HZ := Aside0.mk (show Box (wB.alloc (.cells #[.int .i64 0, .int .u8 0, .int .u64 0] 32 (0, 0))) wB.heap.size (0, 0, 0) from heap_new _ _)
  have hge := hB0.size
  generalize wB.alloc (.cells #[.int .i64 0, .int .u8 0, .int .u64 0] 32 (0, 0)) = wC at HZ hHeld ⊢
  generalize wB.heap.size = bz at HZ hge ⊢
  obtain ⟨y0, y1, y2⟩ := HZ.out.cu
  have z0 : wC.frozen? ⟨bz, 0, none⟩ = false := HZ.out.fz 0
  have z1 : wC.frozen? ⟨bz, 1, none⟩ = false := HZ.out.fz 1
  have z2 : wC.frozen? ⟨bz, 2, none⟩ = false := HZ.out.fz 2
  refine skip_ (w1 := ?_) (by rfl) rfl ?_ ?_
  rotate_left
  · go_simp
    rfl
  clear y0 y1 y2 z0 z1 z2
  refine hK.out _ _ (by first | exact hHeld.alloc hHeld.size _ | exact ((hHeld.setCell hge _).setCell hge _).setCell hge _) (fun hHeld => ?_)
  clear hK K
  refine norm_ (a' := ?_) ?_ ?_
  rotate_left
  · first
    | (show Act.put _ none _ = _; simp only [Act.put, List.setIfInBounds_toArray, List.set_cons_zero, List.set_cons_succ, i64_w, i32_w]; rfl)
    | rfl
  refine done_ (done_of HT_.out (by kernel_rfl)) ?_
  have HV := Aside0.mk (Box.set3 (u := f k) HZ.out)
  replace HB := Aside0.mk (below_step HB.out hHeld)
  replace HX := Aside0.mk (HX.out.below hHeld)
  replace HM := Aside0.mk (HM.out.below hHeld)
  have hzb : b < bz := Nat.lt_of_lt_of_le hbl1 hge
  have hgw := HM.out.lt.2
  have hgz : g ≠ bz := by have := hgl; omega
  clear hgw
  clear hS0 hHeld HT_ HW_ HZ hB0 hge hbl1
  generalize ((wC.setCell ⟨bz, 0, none⟩ (.int .i64 (f k).1)).setCell ⟨bz, 1, none⟩ (.int .u8 (f k).2.1)).setCell ⟨bz, 2, none⟩ (.int .u64 (f k).2.2) = wD at HV HB HX HM ⊢
  obtain ⟨y0, y1, y2⟩ := HV.out.cu
  go_upto_block 0 with (fail)
  have hbz := (Array.getElem?_eq_some_iff.1 HV.out).1
  have hb2 := (Below.refl wD.heap.size wD).alloc (Nat.le_refl _) (.cells #[.int .i64 (f k).1, .int .u8 (f k).2.1, .int .u64 (f k).2.2] 32 (0, 0))
  have HNW := Aside0.mk (show Box (wD.alloc (.cells #[.int .i64 (f k).1, .int .u8 (f k).2.1, .int .u64 (f k).2.2] 32 (0, 0))) wD.heap.size (f k) from heap_new _ _)
  have hbnw := HB.out.size
  replace HB := Aside0.mk (below_step HB.out hb2)
  replace HX := Aside0.mk (HX.out.below hb2)
  replace HM := Aside0.mk (HM.out.below hb2)
  replace HV := Aside0.mk (HV.out.below hb2)
  clear hb2 y0 y1 y2
  generalize wD.alloc _ = w4 at HB HX HM HV HNW ⊢
  generalize wD.heap.size = bn at HNW hbz hbnw ⊢
  have hnr : bn ≠ r := by omega
  have hng : bn ≠ g := by omega
  have hbx : bn ≠ b := by omega
  have hbv : bn ≠ bz := by omega
  clear hbz hzb
  go_cut [] (fun wc => ∃ nw, nw = next s (f k) ((k : Int), v1, v2) ∧ Aside0 (Below w.heap.size w wc) ∧ Aside0 (RM wc r g cap s n f) ∧ Aside0 (Box wc b ((k : Int), v1, v2)) ∧ Aside0 (Box wc bz (f k)) ∧ Aside0 (Box wc bn nw))
  case first =>
    go_wp2_with fail
    have hS0 := below_drew1 (Below.refl w4.heap.size w4)
    refine start_ (n := 8) (S := fun w' => Below w4.heap.size w4 w') (ds := []) #[false, false, false, false, false, false, false, false] (by kernel_rfl) rfl rfl (by exact hS0) (fun hHeld => ?_)
    refine with_tabW rhear_tab5 rhear_bits5 (fun HT_ HW_ => ?_)
    refine pure_ (i := 0) (N := some 22) (v := ?_) (a' := ?_) #[true, false, false, false, false, false, false, false] rfl rfl (any_of HT_.out (by kernel_rfl)) (fun _ _ _ h => h) (Or.inl ⟨by rfl, ?_⟩) ?_ ?_
    rotate_left
    · intro w'
      go_simp
      with_reducible rfl
    rotate_left
    · simp only [Act.put, List.setIfInBounds_toArray, List.set_cons_zero, List.set_cons_succ, i64_w, i32_w]
      rfl
    refine take_ (i := 1) (N := some 23) (v := ?_) (a' := ?_) #[true, true, false, false, false, false, false, false] rfl rfl (take_ofW HT_.out HW_.out (by kernel_rfl)) (fun _ _ _ h => h) (Or.inl ⟨by rfl, ?_⟩) hHeld ?_ ?_
    rotate_left
    · intro w' hSt
      obtain ⟨o0, o1, o2⟩ := (HX.out.below hSt).cu
      have c0 := (HM.out.below hSt).c0
      have c1 := (HM.out.below hSt).c1
      obtain ⟨x0, x1, x2⟩ := (HM.out.below hSt).cu k hk
      go_simp
      with_reducible rfl
    rotate_left
    · simp only [Act.put, List.setIfInBounds_toArray, List.set_cons_zero, List.set_cons_succ, i64_w, i32_w]
      rfl
    refine pure_ (i := 2) (N := some 24) (v := ?_) (a' := ?_) #[true, true, true, false, false, false, false, false] rfl rfl (any_of HT_.out (by kernel_rfl)) (fun _ _ _ h => h) (Or.inl ⟨by rfl, ?_⟩) ?_ ?_
    rotate_left
    · intro w'
      go_simp
      with_reducible rfl
    rotate_left
    · simp only [Act.put, List.setIfInBounds_toArray, List.set_cons_zero, List.set_cons_succ, i64_w, i32_w]
      rfl
    refine pure_ (i := 3) (N := some 25) (v := ?_) (a' := ?_) #[true, true, true, true, false, false, false, false] rfl rfl (any_of HT_.out (by kernel_rfl)) (fun _ _ _ h => h) (Or.inl ⟨by rfl, ?_⟩) ?_ ?_
    rotate_left
    · intro w'
      go_simp
      with_reducible rfl
    rotate_left
    · simp only [Act.put, List.setIfInBounds_toArray, List.set_cons_zero, List.set_cons_succ, i64_w, i32_w]
      rfl
    refine pure_ (i := 4) (N := some 26) (v := ?_) (a' := ?_) #[true, true, true, true, true, false, false, false] rfl rfl (any_of HT_.out (by kernel_rfl)) (fun _ _ _ h => h) (Or.inl ⟨by rfl, ?_⟩) ?_ ?_
    rotate_left
    · intro w'
      go_simp
      with_reducible rfl
    rotate_left
    · simp only [Act.put, List.setIfInBounds_toArray, List.set_cons_zero, List.set_cons_succ, i64_w, i32_w]
      rfl
    refine take_ (i := 5) (N := some 27) (v := ?_) (a' := ?_) #[true, true, true, true, true, true, false, false] rfl rfl (take_ofW HT_.out HW_.out (by kernel_rfl)) (fun _ _ _ h => h) (Or.inl ⟨by rfl, ?_⟩) hHeld ?_ ?_
    rotate_left
    · intro w' hSt
      obtain ⟨o0, o1, o2⟩ := (HX.out.below hSt).cu
      have c0 := (HM.out.below hSt).c0
      have c1 := (HM.out.below hSt).c1
      obtain ⟨x0, x1, x2⟩ := (HM.out.below hSt).cu k hk
      go_simp
      with_reducible rfl
    rotate_left
    · simp only [Act.put, List.setIfInBounds_toArray, List.set_cons_zero, List.set_cons_succ, i64_w, i32_w]
      rfl
    refine pure_ (i := 6) (N := some 28) (v := ?_) (a' := ?_) #[true, true, true, true, true, true, true, false] rfl rfl (any_of HT_.out (by kernel_rfl)) (fun _ _ _ h => h) (Or.inl ⟨by rfl, ?_⟩) ?_ ?_
    rotate_left
    · intro w'
      go_simp
      with_reducible rfl
    rotate_left
    · simp only [Act.put, List.setIfInBounds_toArray, List.set_cons_zero, List.set_cons_succ, i64_w, i32_w]
      rfl
    refine pure_ (i := 7) (N := some 21) (v := ?_) (a' := ?_) #[true, true, true, true, true, true, true, true] rfl rfl (any_of HT_.out (by kernel_rfl)) (fun _ _ _ h => h) (Or.inl ⟨by rfl, ?_⟩) ?_ ?_
    rotate_left
    · intro w'
      go_simp
      with_reducible rfl
    rotate_left
    · simp only [Act.put, List.setIfInBounds_toArray, List.set_cons_zero, List.set_cons_succ, i64_w, i32_w]
      rfl
    refine done_ (done_of HT_.out (by kernel_rfl)) ?_
    have hD := below_drew1 (Below.refl w4.heap.size w4)
    replace HB := Aside0.mk (below_step HB.out hD)
    replace HX := Aside0.mk (HX.out.below hD)
    replace HM := Aside0.mk (HM.out.below hD)
    replace HV := Aside0.mk (HV.out.below hD)
    replace HNW := Aside0.mk (HNW.out.below hD)
    clear hS0 hHeld HT_ HW_ hD
    generalize w4.drew = w5 at HB HX HM HV HNW ⊢
    obtain ⟨o0, o1, o2⟩ := HX.out.cu
    obtain ⟨y0, y1, y2⟩ := HV.out.cu
    obtain ⟨n0, n1, n2⟩ := HNW.out.cu
    by_cases hks : k = s
    · have hk1 : ((k : Int) != s) = false := by simp; omega
      have HKS := Aside0.mk hks
      clear hks
      have z0 : w5.frozen? ⟨bn, 0, none⟩ = false := HNW.out.fz 0
      have z1 : w5.frozen? ⟨bn, 1, none⟩ = false := HNW.out.fz 1
      have z2 : w5.frozen? ⟨bn, 2, none⟩ = false := HNW.out.fz 2
      by_cases hal : v1 = 1
      · have hal1 : (v1 == 1) = true := by simp [hal]
        have HAL := Aside0.mk hal
        clear hal
        by_cases hgt : (f k).2.2 < v2
        · have hgt1 : decide (v2 > (f k).2.2) = true := decide_eq_true hgt
          have HN_ := Aside0.mk (next_al (s := s) (x := f k) HKS.out HAL.out hgt)
          go_wp2
          go_meet
          case rel => exact ⟨_, HN_.out.symm, ⟨HB.out.setCell hbnw _⟩, ⟨(HM.out).ch (Ch.set bn 2 _ _) hnr hng⟩, ⟨HX.out.far (fun e => hbx e) _ _⟩, ⟨HV.out.far (fun e => hbv e) _ _⟩, ⟨HNW.out.inc _⟩⟩
        · have hgt1 : decide (v2 > (f k).2.2) = false := decide_eq_false hgt
          have HN_ := Aside0.mk (next_al_no (s := s) (x := f k) (v2 := v2) HKS.out HAL.out hgt)
          go_wp2
          go_meet
          case rel => exact ⟨_, rfl, HB, HM, HX, HV, ⟨by rw [HN_.out]; exact HNW.out⟩⟩
      · have hal1 : (v1 == 1) = false := by simp [hal]
        have HAL := Aside0.mk hal
        clear hal
        by_cases hge : (f k).2.2 ≤ v2
        · have hge1 : decide (v2 ≥ (f k).2.2) = true := decide_eq_true hge
          have hge2 : decide ((f k).2.2 ≤ v2) = true := decide_eq_true hge
          have HGE := Aside0.mk hge
          have HW := Aside0.mk (u64_succ v2 hv HL.out)
          have N1 := HNW.out.inc (IntKind.u64.wrap (v2 + 1))
          have q2 := N1.cu.2.2
          have zz : (w5.setCell ⟨bn, 2, none⟩ (.int .u64 (IntKind.u64.wrap (v2 + 1)))).frozen? ⟨bn, 2, none⟩ = false := N1.fz 2
          have HN1 := Aside0.mk N1
          clear N1
          by_cases hbig : IntKind.u64.wrap (v2 + 1) > 1099511627776
          · have hbig1 : decide (IntKind.u64.wrap (v2 + 1) > 1099511627776) = true := decide_eq_true hbig
            have HN_ := Aside0.mk (next_min_big (s := s) (x := f k) HKS.out HAL.out HGE.out hv HL.out hbig)
            go_wp2
            go_meet
            case rel => exact ⟨_, HN_.out.symm, ⟨(HB.out.setCell hbnw _).setCell hbnw _⟩, ⟨((HM.out).ch (Ch.set bn 2 _ _) hnr hng).ch (Ch.set bn 2 _ _) hnr hng⟩, ⟨(HX.out.far (fun e => hbx e) _ _).far (fun e => hbx e) _ _⟩, ⟨(HV.out.far (fun e => hbv e) _ _).far (fun e => hbv e) _ _⟩, ⟨HN1.out.inc _⟩⟩
          · have hbig1 : decide (IntKind.u64.wrap (v2 + 1) > 1099511627776) = false := decide_eq_false hbig
            have HN_ := Aside0.mk (next_min (s := s) (x := f k) HKS.out HAL.out HGE.out hv HL.out (by omega))
            go_wp2
            go_meet
            case rel => exact ⟨_, HN_.out.symm, ⟨HB.out.setCell hbnw _⟩, ⟨(HM.out).ch (Ch.set bn 2 _ _) hnr hng⟩, ⟨HX.out.far (fun e => hbx e) _ _⟩, ⟨HV.out.far (fun e => hbv e) _ _⟩, ⟨HNW.out.inc _⟩⟩
        · have hge1 : decide (v2 ≥ (f k).2.2) = false := decide_eq_false hge
          have hge2 : decide ((f k).2.2 ≤ v2) = false := decide_eq_false hge
          have HN_ := Aside0.mk (next_less (x := f k) (u2 := v2) HKS.out HAL.out hge)
          go_wp2
          go_meet
          case rel => exact ⟨_, rfl, HB, HM, HX, HV, ⟨by rw [HN_.out]; exact HNW.out⟩⟩
    · have hk1 : ((k : Int) != s) = true := by simp; omega
      have HKS := Aside0.mk (show (k : Int) ≠ s by omega)
      clear hks
      go_wp2_with fail
      refine (greater_calls ((k : Int), v1, v2) (f k) _).mono ?_
      rintro e w6 ⟨rfl, hb6⟩
      replace HB := Aside0.mk (below_step HB.out hb6)
      replace HX := Aside0.mk (HX.out.below hb6)
      replace HM := Aside0.mk (HM.out.below hb6)
      replace HV := Aside0.mk (HV.out.below hb6)
      replace HNW := Aside0.mk (HNW.out.below hb6)
      clear hb6 o0 o1 o2 y0 y1 y2 n0 n1 n2
      by_cases hg : gt ((k : Int), v1, v2) (f k) = true
      · rw [hg]
        have HN_ := Aside0.mk (next_gt (s := s) HKS.out hg)
        clear hg
        obtain ⟨o0, o1, o2⟩ := HX.out.cu
        obtain ⟨y0, y1, y2⟩ := HV.out.cu
        obtain ⟨n0, n1, n2⟩ := HNW.out.cu
        have z0 : w6.frozen? ⟨bn, 0, none⟩ = false := HNW.out.fz 0
        have z1 : w6.frozen? ⟨bn, 1, none⟩ = false := HNW.out.fz 1
        have z2 : w6.frozen? ⟨bn, 2, none⟩ = false := HNW.out.fz 2
        go_wp2
        go_meet
        case rel => exact ⟨_, HN_.out.symm, ⟨((HB.out.setCell hbnw _).setCell hbnw _).setCell hbnw _⟩, ⟨(((HM.out).ch (Ch.set bn 0 _ _) hnr hng).ch (Ch.set bn 1 _ _) hnr hng).ch (Ch.set bn 2 _ _) hnr hng⟩, ⟨((HX.out.far (fun e => hbx e) _ _).far (fun e => hbx e) _ _).far (fun e => hbx e) _ _⟩, ⟨((HV.out.far (fun e => hbv e) _ _).far (fun e => hbv e) _ _).far (fun e => hbv e) _ _⟩, ⟨Box.set3 (u := ((k : Int), v1, v2)) HNW.out⟩⟩
      · have hg' : gt ((k : Int), v1, v2) (f k) = false := by simpa using hg
        rw [hg']
        have HN_ := Aside0.mk (next_ngt (s := s) HKS.out hg')
        clear hg hg'
        go_wp2
        go_meet
        case rel => exact ⟨_, rfl, HB, HM, HX, HV, ⟨by rw [HN_.out]; exact HNW.out⟩⟩
  case rest =>
    obtain ⟨nw, hnw, HB, HM, HX, HV, HNW⟩ := hcut
    have HNX := Aside0.mk hnw
    clear hnw
    go_wp2_with fail
    have hS0 := below_drew1 (Below.refl wc.heap.size wc)
    refine start_ (n := 9) (S := fun w' => Below wc.heap.size wc w') (ds := [8]) #[false, false, false, false, false, false, false, false, false] (by kernel_rfl) rfl rfl (by exact hS0) (fun hHeld => ?_)
    refine with_tabW rhear_tab15 rhear_bits15 (fun HT_ HW_ => ?_)
    generalize wc.drew = wE at hHeld ⊢
    refine pure_ (i := 0) (N := some 59) (v := ?_) (a' := ?_) #[true, false, false, false, false, false, false, false, false] rfl rfl (any_of HT_.out (by kernel_rfl)) (fun _ _ _ h => h) (Or.inl ⟨by rfl, ?_⟩) ?_ ?_
    rotate_left
    · intro w'
      go_simp
      with_reducible rfl
    rotate_left
    · simp only [Act.put, List.setIfInBounds_toArray, List.set_cons_zero, List.set_cons_succ, i64_w, i32_w]
      rfl
    refine pure_ (i := 1) (N := some 60) (v := ?_) (a' := ?_) #[true, true, false, false, false, false, false, false, false] rfl rfl (any_of HT_.out (by kernel_rfl)) (fun _ _ _ h => h) (Or.inl ⟨by rfl, ?_⟩) ?_ ?_
    rotate_left
    · intro w'
      go_simp
      with_reducible rfl
    rotate_left
    · simp only [Act.put, List.setIfInBounds_toArray, List.set_cons_zero, List.set_cons_succ, i64_w, i32_w]
      rfl
    refine pure_ (i := 2) (N := some 61) (v := ?_) (a' := ?_) #[true, true, true, false, false, false, false, false, false] rfl rfl (any_of HT_.out (by kernel_rfl)) (fun _ _ _ h => h) (Or.inl ⟨by rfl, ?_⟩) ?_ ?_
    rotate_left
    · intro w'
      go_simp
      with_reducible rfl
    rotate_left
    · simp only [Act.put, List.setIfInBounds_toArray, List.set_cons_zero, List.set_cons_succ, i64_w, i32_w]
      rfl
    refine take_ (i := 3) (N := some 62) (v := ?_) (a' := ?_) #[true, true, true, true, false, false, false, false, false] rfl rfl (take_ofW HT_.out HW_.out (by kernel_rfl)) (fun _ _ _ h => h) (Or.inl ⟨by rfl, ?_⟩) hHeld ?_ ?_
    rotate_left
    · intro w' hSt
      obtain ⟨o0, o1, o2⟩ := (HX.out.below hSt).cu
      obtain ⟨n0, n1, n2⟩ := (HNW.out.below hSt).cu
      have c1 := (HM.out.below hSt).c1
      go_simp
      with_reducible rfl
    rotate_left
    · simp only [Act.put, List.setIfInBounds_toArray, List.set_cons_zero, List.set_cons_succ, i64_w, i32_w]
      rfl
    refine pure_ (i := 4) (N := some 63) (v := ?_) (a' := ?_) #[true, true, true, true, true, false, false, false, false] rfl rfl (any_of HT_.out (by kernel_rfl)) (fun _ _ _ h => h) (Or.inl ⟨by rfl, ?_⟩) ?_ ?_
    rotate_left
    · intro w'
      go_simp
      with_reducible rfl
    rotate_left
    · simp only [Act.put, List.setIfInBounds_toArray, List.set_cons_zero, List.set_cons_succ, i64_w, i32_w]
      rfl
    refine take_ (i := 5) (N := some 64) (v := ?_) (a' := ?_) #[true, true, true, true, true, true, false, false, false] rfl rfl (take_ofW HT_.out HW_.out (by kernel_rfl)) (fun _ _ _ h => h) (Or.inl ⟨by rfl, ?_⟩) hHeld ?_ ?_
    rotate_left
    · intro w' hSt
      obtain ⟨o0, o1, o2⟩ := (HX.out.below hSt).cu
      obtain ⟨n0, n1, n2⟩ := (HNW.out.below hSt).cu
      have c1 := (HM.out.below hSt).c1
      go_simp
      with_reducible rfl
    rotate_left
    · simp only [Act.put, List.setIfInBounds_toArray, List.set_cons_zero, List.set_cons_succ, i64_w, i32_w]
      rfl
    refine take_ (i := 6) (N := some 65) (v := ?_) (a' := ?_) #[true, true, true, true, true, true, true, false, false] rfl rfl (take_ofW HT_.out HW_.out (by kernel_rfl)) (fun _ _ _ h => h) (Or.inl ⟨by rfl, ?_⟩) hHeld ?_ ?_
    rotate_left
    · intro w' hSt
      obtain ⟨o0, o1, o2⟩ := (HX.out.below hSt).cu
      obtain ⟨n0, n1, n2⟩ := (HNW.out.below hSt).cu
      have c1 := (HM.out.below hSt).c1
      go_simp
      with_reducible rfl
    rotate_left
    · simp only [Act.put, List.setIfInBounds_toArray, List.set_cons_zero, List.set_cons_succ, i64_w, i32_w]
      rfl
    refine pure_ (i := 7) (N := some 66) (v := ?_) (a' := ?_) #[true, true, true, true, true, true, true, true, false] rfl rfl (any_of HT_.out (by kernel_rfl)) (fun _ _ _ h => h) (Or.inl ⟨by rfl, ?_⟩) ?_ ?_
    rotate_left
    · intro w'
      go_simp
      with_reducible rfl
    rotate_left
    · simp only [Act.put, List.setIfInBounds_toArray, List.set_cons_zero, List.set_cons_succ, i64_w, i32_w]
      rfl
    refine last_ (i := 8) (N := none) #[true, true, true, true, true, true, true, true, true] rfl rfl (one_of HT_.out (by kernel_rfl)) (by decide) (fun K hK => ?_)
    have M0 := HM.out.below hHeld
    have M1 := M0.setNode k hk nw.1
    have M2 := M1.setSt k hk nw.2.1
    have M3 := M2.setInc k hk nw.2.2
    have x0 := (M0.cu k hk).1
    have x1 := (M1.cu k hk).2.1
    have x2 := (M2.cu k hk).2.2
    have z0 := M0.fz (k * 3)
    have z1 := M1.fz (k * 3 + 1)
    have z2 := M2.fz (k * 3 + 2)
    replace M3 := Aside0.mk M3
    clear M0 M1 M2
    refine skip_ (w1 := ?_) (by rfl) rfl ?_ ?_
    rotate_left
    · go_simp
      rfl
    clear x0 x1 x2 z0 z1 z2
    refine hK.out _ _ ?_
    clear hK K
    refine norm_ (a' := ?_) ?_ ?_
    rotate_left
    · first
      | (show Act.put _ none _ = _; simp only [Act.put, List.setIfInBounds_toArray, List.set_cons_zero, List.set_cons_succ, i64_w, i32_w]; rfl)
      | rfl
    refine done_ (done_of HT_.out (by kernel_rfl)) ?_
    have HWR := Aside0.mk ((((Ch.of_below (m := g) (below_step HB.out hHeld)).trans (Ch.set g (k * 3) _ (.int .i64 nw.1))).trans (Ch.set g (k * 3 + 1) _ (.int .u8 nw.2.1))).trans (Ch.set g (k * 3 + 2) _ (.int .u64 nw.2.2)))
    have HV3 := Aside0.mk ((((HV.out.below hHeld).far (m := g) (fun e => hgz e) (k * 3) (.int .i64 nw.1)).far (m := g) (fun e => hgz e) (k * 3 + 1) (.int .u8 nw.2.1)).far (m := g) (fun e => hgz e) (k * 3 + 2) (.int .u64 nw.2.2))
    have HN3 := Aside0.mk ((((HNW.out.below hHeld).far (m := g) (fun e => hng e.symm) (k * 3) (.int .i64 nw.1)).far (m := g) (fun e => hng e.symm) (k * 3 + 1) (.int .u8 nw.2.1)).far (m := g) (fun e => hng e.symm) (k * 3 + 2) (.int .u64 nw.2.2))
    have HM3 := Aside0.mk (rm_fin HMAY.out HNX.out (by have h := M3.out; rwa [upd_three f k] at h))
    clear hS0 hHeld HT_ HW_ M3 HM HX HV HNW HB
    generalize ((wE.setCell ⟨g, k * 3, none⟩ (.int .i64 nw.1)).setCell ⟨g, k * 3 + 1, none⟩ (.int .u8 nw.2.1)).setCell ⟨g, k * 3 + 2, none⟩ (.int .u64 nw.2.2) = w9 at HWR HV3 HN3 HM3 ⊢
    obtain ⟨y0, y1, y2⟩ := HV3.out.cu
    obtain ⟨n0, n1, n2⟩ := HN3.out.cu
    by_cases hsame : nw = f k
    · have HE := Aside0.mk (show next s (f k) ((k : Int), v1, v2) = f k by rw [← HNX.out]; exact hsame)
      rw [hsame] at n0 n1 n2
      clear hsame
      go_wp2
      go_ret2
      exact ⟨endE_same HMAY.out HE.out, HWR.out, HM3.out⟩
    · have HE := Aside0.mk (show ¬ next s (f k) ((k : Int), v1, v2) = f k by rw [← HNX.out]; exact hsame)
      by_cases c1 : nw.1 = (f k).1
      · by_cases c2 : nw.2.1 = (f k).2.1
        · have c3 : ¬ nw.2.2 = (f k).2.2 := fun c3 => hsame (pair3 c1 c2 c3)
          clear hsame
          go_wp2
          go_ret2
          exact ⟨endE_new HMAY.out HE.out, HWR.out, HM3.out⟩
        · clear hsame
          go_wp2
          go_ret2
          exact ⟨endE_new HMAY.out HE.out, HWR.out, HM3.out⟩
      · clear hsame
        go_wp2
        go_ret2
        exact ⟨endE_new HMAY.out HE.out, HWR.out, HM3.out⟩
end Go.Proofs.Yticpifhnfpnibaa.Mem
