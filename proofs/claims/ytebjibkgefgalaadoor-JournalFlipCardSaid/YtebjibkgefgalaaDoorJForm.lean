/- What calls of Go functions of this seat come to, as the rows need it: under the conditions that each theorem names. -/
import Derived.Test.YtebjibkgefgalaaDoorJP
import Derived.Test.YtebjibkgefgalaaDoorAppB
import Derived.Test.YtebjibkgefgalaaDoorBytesB
namespace Go.Proofs.YtebjibkgefgalaaDoor.Jr
open Go.RowKit Go.Proofs.YtebjibkgefgalaaDoorW.PrintWords Go.Proofs.YtebjibkgefgalaaDoorW.PrintLast Go.Proofs.YtebjibkgefgalaaDoorW.PrintMore
set_option linter.unusedVariables false
set_option linter.unusedSimpArgs false
open Go.Proofs.YtebjibkgefgalaaDoor.Hand (B formL rowL appendBytes_calls formL_len info5)
open Go.Proofs.YtebjibkgefgalaaDoor.Sha (shaI shaI_len vd cb cb_size cb_one infoDg dg_start Tab Sum_calls C_cb heap_new heap_keep)
theorem jform_eq (l : List Int) : [] ++ rowL l ++ (shaI l).take 8 = jform l := by rw [List.nil_append]; rfl
theorem C_cb8 {w : World} {g : Nat} {D : List Int} {t : TypeId} (h : w.heap[g]? = some (.cells (cb D) t (0, 0))) (hl : D.length = 32) : B.C w (some ⟨g, 0, none⟩) 8 (D.take 8) := by
  have h1 := C_cb h (by omega)
  have h2 := Kd.C_take h1 (show 8 ≤ D.length by omega)
  have h3 : (D.take 8).length = 8 := by rw [List.length_take, hl]; rfl
  rwa [h3] at h2
def jfm_T4 : Bool × List (List Nat × List Nat) := (true, [([], []), ([0], [0]), ([], []), ([1, 2, 1], [1, 2]), ([3, 3, 0, 1, 2, 3], [3]), ([4, 0, 1, 2, 3, 4], [])])
def jfm_B4 : List Nat := [0, 1, 0, 7, 15, 31]
theorem jfm_tab4 : rtab .any (opsOf Tryd.f9 4) = jfm_T4 := by kernel_rfl
theorem jfm_bits4 : waitsOk jfm_T4.2 jfm_B4 = true := by kernel_rfl
set_option maxHeartbeats 1600000 in
set_option maxRecDepth 100000 in
theorem jform_calls (A : Option Addr) (c : Nat) (l : List Int) (w : World) (hr : B.C w A l.length l) (hc : l.length ≤ c) (hb : bys l) (hT : Tab w) :
    Calls Tryd.prog 9 #[.slice A l.length c] w fun e w' => ∃ v er, e = .returned (.tuple #[v, .int .i64 er]) ∧ (¬ okR l → er = 2 ∧ v = .slice none 0 0) ∧ (okR l → er = 0 ∧ Kd.R B 5 w' w.heap.size (fun _ => True) v (jform l)) ∧ Below w.heap.size w w' := by
  have HR := Aside0.mk hr
  have HY := Aside0.mk hb
  have HTAB := Aside0.mk hT
  have hl63 : l.length ≤ 9223372036854775807 := hr.2.1
  clear hr hb hT
  by_cases h1 : l.length < 1
  · have HN := Aside0.mk (show ¬ okR l from fun h => by have := h.1; omega)
    have e1 : decide ((l.length : Int) < 1) = true := decide_eq_true (by omega)
    have e2 : decide (l.length < 1) = true := decide_eq_true (by omega)
    clear h1
    go_enter Tryd.func9, Tryd.ntmps9
    go_wp2
    go_ret2
    exact ⟨_, _, rfl, fun _ => ⟨rfl, rfl⟩, fun h => absurd h HN.out, Below.refl _ _⟩
  have e1 : decide ((l.length : Int) < 1) = false := decide_eq_false (by omega)
  have e2 : decide (l.length < 1) = false := decide_eq_false (by omega)
  by_cases h8 : l.length > 8000
  · have HN := Aside0.mk (show ¬ okR l from fun h => by have := h.2; omega)
    have e3 : decide ((l.length : Int) > 8000) = true := decide_eq_true (by omega)
    have e4 : decide (l.length > 8000) = true := decide_eq_true (by omega)
    clear h1 h8
    go_enter Tryd.func9, Tryd.ntmps9
    go_wp2
    go_ret2
    exact ⟨_, _, rfl, fun _ => ⟨rfl, rfl⟩, fun h => absurd h HN.out, Below.refl _ _⟩
  have e3 : decide ((l.length : Int) > 8000) = false := decide_eq_false (by omega)
  have e4 : decide (l.length > 8000) = false := decide_eq_false (by omega)
  have HOK := Aside0.mk (show okR l from ⟨by omega, by omega⟩)
  have hl8 : l.length ≤ 8000 := by omega
  clear h1 h8
  have HSL := Aside0.mk (shaI_len l)
  go_enter Tryd.func9, Tryd.ntmps9
  go_wp2_with fail
  refine (Sum_calls A c l _ HR.out hc HY.out HTAB.out (by omega)).mono ?_
  rintro e w1 ⟨rfl, hb⟩
  have HB1 := Aside0.mk hb
  have HJ := Aside0.mk (jform_eq l)
  clear hb e1 e2 e3 e4
  generalize shaI l = D at HSL HJ ⊢
  go_upto_region 4 with (first | (obtain ⟨w4, hw4, HB4, HD4, HZ4⟩ := dg_start w1; rw [hw4]; clear hw4; refine wpList_store_row rfl 41 (.tmp 4) (.tmp 14) rfl w1.heap.size (cb D) rfl rfl 41 _ HD4.out (infoDg _ HSL.out) (by rw [cb_size, cb_size, HSL.out]; simp) (cb_one _) ?_))
  obtain ⟨w2, hw2⟩ : ∃ w2, w4.setRow w1.heap.size (cb D) = w2 := ⟨_, rfl⟩
  rw [hw2]
  have HD2 := Aside0.mk (show w2.heap[w1.heap.size]? = some (.cells (cb D) 41 (0, 0)) by rw [← hw2]; exact setRow_heap _ _ _ _ _ _ HD4.out)
  have HB12 := Aside0.mk (show Below w1.heap.size w1 w2 by rw [← hw2]; exact below_setRow HB4.out (Nat.le_refl _) _)
  have HB2 := Aside0.mk (below_step HB1.out HB12.out)
  have HR2 := Aside0.mk (Kd.C_below HR.out HB2.out)
  clear HD4 HB4 HZ4 hw2 HB12
  generalize w1.heap.size = g at HD2 ⊢
  have hS0 : Below w2.heap.size w2 w2.drew := below_drew1 (Below.refl _ _)
  have HRL := Aside0.mk (show (rowL l).length ≤ 8010 by have := (rowL_len l (by omega)).2; omega)
  refine start_ (n := 6) (S := fun w' => Below w2.heap.size w2 w') (ds := []) #[false, false, false, false, false, false] (by kernel_rfl) rfl rfl (by exact hS0) (fun hHeld => ?_)
  refine with_tabW jfm_tab4 jfm_bits4 (fun HT_ HW_ => ?_)
  refine pure_ (i := 0) (N := some 15) (v := ?_) (a' := ?_) #[true, false, false, false, false, false] rfl rfl (any_of HT_.out (by kernel_rfl)) (fun _ _ _ h => h) (Or.inl ⟨by rfl, ?_⟩) ?_ ?_
  rotate_left
  · intro w'
    go_simp
    with_reducible rfl
  rotate_left
  · simp only [Act.put, List.setIfInBounds_toArray, List.set_cons_zero, List.set_cons_succ, i64_w, i32_w]
    rfl
  refine pure_ (i := 2) (N := some 17) (v := ?_) (a' := ?_) #[true, false, true, false, false, false] rfl rfl (any_of HT_.out (by kernel_rfl)) (fun _ _ _ h => h) (Or.inl ⟨by rfl, ?_⟩) ?_ ?_
  rotate_left
  · intro w'
    go_simp
    with_reducible rfl
  rotate_left
  · simp only [Act.put, List.setIfInBounds_toArray, List.set_cons_zero, List.set_cons_succ, i64_w, i32_w]
    rfl
  refine one_ (i := 1) (N := some 16) #[true, true, true, false, false, false] rfl rfl (one_of HT_.out (by kernel_rfl)) (by decide) (fun K hK => ?_)
  refine goes_ Tryd.func18 (by kernel_rfl) rfl #[.slice none 0 0, .slice A l.length c] (by rfl) rfl rfl (by (try simp only [List.map_toArray, List.map_cons, List.map_nil]); first | done | rfl) ?_
  refine (appendBytes_calls none 0 [] A c l _ ⟨rfl, by simp, fun h => absurd h (by simp)⟩ (Nat.le_refl _) (Kd.C_below HR2.out hHeld) hc (by simp; omega)).mono ?_
  rintro e w7 ⟨v7, rfl, ho, hb⟩
  refine ⟨_, rfl, ?_⟩
  have hS1 := below_step hHeld hb
  have HO7 := Aside0.mk (Kd.R_lower ho hHeld.size)
  have HC8 := Aside0.mk (C_cb8 (heap_keep HD2.out hS1) HSL.out)
  clear ho hb
  refine hK.out _ _ (by exact hS1) (fun hHeld => ?_)
  clear hK K
  refine norm_ (a' := ?_) ?_ ?_
  rotate_left
  · first
    | (show Act.put _ (some 16) _ = _; simp only [Act.put, List.setIfInBounds_toArray, List.set_cons_zero, List.set_cons_succ, i64_w, i32_w]; rfl)
    | rfl
  refine one_ (i := 3) (N := some 18) #[true, true, true, true, false, false] rfl rfl (one_of HT_.out (by kernel_rfl)) (by decide) (fun K hK => ?_)
  refine Kd.R_append_rows_step B (w0 := w2) w2.heap.size (by rfl) (.tmp 16) (.tmp 17) 22 5 (.int .u8 0) 1 rfl Tryd.underlying22 info5 rfl (by decide) (by omega) _ ([] ++ rowL l) (D.take 8) _ _ _ (fun _ => True) (fun _ => False) rfl rfl HO7.out HC8.out (fun _ _ h => h) (fun _ h => h.elim) (fun _ _ => trivial) hHeld hHeld.size ?aL ?_
  case aL => have := HRL.out; have h8 : (D.take 8).length ≤ 8 := (by rw [List.length_take]; omega); simp only [List.nil_append]; omega
  intro v8 w8 ho hb2 _ _
  have HO8 := Aside0.mk ho
  have hS1 := hb2
  clear ho hb2
  refine hK.out _ _ (by exact hS1) (fun hHeld => ?_)
  clear hK K
  refine norm_ (a' := ?_) ?_ ?_
  rotate_left
  · first
    | (show Act.put _ (some 18) _ = _; simp only [Act.put, List.setIfInBounds_toArray, List.set_cons_zero, List.set_cons_succ, i64_w, i32_w]; rfl)
    | rfl
  refine pure_ (i := 4) (N := some 2) (v := ?_) (a' := ?_) #[true, true, true, true, true, false] rfl rfl (any_of HT_.out (by kernel_rfl)) (fun _ _ _ h => h) (Or.inl ⟨by rfl, ?_⟩) ?_ ?_
  rotate_left
  · intro w'
    go_simp
    with_reducible rfl
  rotate_left
  · simp only [Act.put, List.setIfInBounds_toArray, List.set_cons_zero, List.set_cons_succ, i64_w, i32_w]
    rfl
  refine pure_ (i := 5) (N := some 3) (v := ?_) (a' := ?_) #[true, true, true, true, true, true] rfl rfl (any_of HT_.out (by kernel_rfl)) (fun _ _ _ h => h) (Or.inl ⟨by rfl, ?_⟩) ?_ ?_
  rotate_left
  · intro w'
    go_simp
    with_reducible rfl
  rotate_left
  · simp only [Act.put, List.setIfInBounds_toArray, List.set_cons_zero, List.set_cons_succ, i64_w, i32_w]
    rfl
  refine done_ (done_of HT_.out (by kernel_rfl)) ?_
  clear hS0 HT_ HW_
  have HOJ := Aside0.mk (Kd.R_lower HO8.out HB2.out.size)
  rw [HJ.out] at HOJ
  have HB9 := Aside0.mk (below_step HB2.out hHeld)
  clear HO8 HO7 HC8 hHeld
  go_wp2
  go_ret2
  exact ⟨_, _, rfl, fun h => absurd HOK.out h, fun _ => ⟨rfl, HOJ.out⟩, HB9.out⟩
end Go.Proofs.YtebjibkgefgalaaDoor.Jr
