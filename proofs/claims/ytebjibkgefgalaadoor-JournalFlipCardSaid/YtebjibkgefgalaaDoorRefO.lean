/- What calls of Go functions of this seat come to, as the rows need it: under the conditions that each theorem names. -/
import Derived.Test.YtebjibkgefgalaaDoorRefN
import Derived.Deep.RegionWith
import Derived.Test.YtebjibkgefgalaaDoorWTab
import Derived.Test.YtebjibkgefgalaaDoorWLast
namespace Go.Proofs.YtebjibkgefgalaaDoor.Ref
open Go.RowKit Go.Proofs.YtebjibkgefgalaaDoorW.PrintWords Go.Proofs.YtebjibkgefgalaaDoorW.PrintLast Go.Proofs.YtebjibkgefgalaaDoorW.PrintMore
set_option linter.unusedVariables false
set_option linter.unusedSimpArgs false
open Go.Proofs.YtebjibkgefgalaaDoor.Sha
theorem hk_load {w : World} {g off : Nat} (xs : List Int) (ty : TypeId) (n : Nat) (el : TypeId) (hg : w.heap[g]? = some (.cells hk 52 (0, 0))) (hx : ∀ j v, (xs.map (Value.int .u32))[j]? = some v → hk[off + j]? = some v)
    (hu : Tryd.prog.underlying ty = some (.array n el)) (hi : (Tryd.prog.info? ty).map (·.size) = some (cw xs).size) :
    (Instr.loadAt ty (.pointer (some ⟨g, off, none⟩))).run Tryd.prog w = .ok (.agg (cw xs)) w :=
  run_loadAt_cells w _ ty (cw xs) (.array n el) (by
    have := run_loadCells_list (P := Tryd.prog) (w := w) ⟨g, off, none⟩ (xs.map (Value.int .u32)) (fun j v hv => by
      rw [show (Addr.mk g off none).add j = ⟨g, off + j, none⟩ by simp [Addr.add_lit]]
      exact (cell_of hg).2 (hx j v hv))
    simpa [loadCells, cw] using this) hu rfl hi
theorem hk_load0 {w : World} {g : Nat} (hg : w.heap[g]? = some (.cells hk 52 (0, 0))) : (Instr.loadAt 47 (.pointer (some ⟨g, 0, none⟩))).run Tryd.prog w = .ok (.agg (c8 fS)) w :=
  hk_load (w := w) fTab 47 _ _ hg (fun j v hv => by
    have hj : j < (cw fTab).size := by
      have := (List.getElem?_eq_some_iff.1 hv).1
      simpa [cw] using this
    unfold hk
    rw [Nat.zero_add, Array.getElem?_append_left hj]
    unfold cw
    rw [List.getElem?_toArray]
    exact hv) Tryd.underlying47 (infoH fTab rfl)
theorem hk_load1 {w : World} {g : Nat} (hg : w.heap[g]? = some (.cells hk 52 (0, 0))) : (Instr.loadAt 48 (.pointer (some ⟨g, 8, none⟩))).run Tryd.prog w = .ok (.agg (cw kTab)) w :=
  hk_load (w := w) kTab 48 _ _ hg (fun j v hv => by
    have hs : (cw fTab).size = 8 := by kernel_rfl
    unfold hk
    rw [Array.getElem?_append_right (by omega), hs, Nat.add_sub_cancel_left]
    unfold cw
    rw [List.getElem?_toArray]
    exact hv) Tryd.underlying48 (infoK kTab rfl)
theorem fS_rng : rng8 fS := by unfold rng8 rng fS; decide
def hs_T1 : Bool × List (List Nat × List Nat) := (true, [([], []), ([0], [0]), ([1], [1]), ([2], [2]), ([], []), ([4], [4]), ([5], [5]), ([6], [6]), ([], []), ([3, 7, 8], [3, 7, 8]), ([9, 9, 0, 1, 2, 3, 4, 5, 6, 7, 8, 9], [9])])
def hs_B1 : List Nat := [0, 1, 3, 7, 0, 16, 48, 112, 0, 511, 1023]
theorem hs_tab1 : rtab .any (opsOf Tryd.f16 1) = hs_T1 := by kernel_rfl
theorem hs_bits1 : waitsOk hs_T1.2 hs_B1 = true := by kernel_rfl
set_option maxHeartbeats 1600000 in
set_option maxRecDepth 100000 in
theorem hsum_calls (gh : Nat) (A : Option Addr) (c : Nat) (l : List Int) (w : World) (hg : w.heap[gh]? = some (.cells hk 52 (0, 0))) (hr : B.C w A l.length l) (hc : l.length ≤ c) (hb : Sha.bytes l) (hl : l.length < 100000000) :
    Calls Tryd.prog 16 #[.pointer (some ⟨gh, 0, none⟩), .slice A l.length c] w fun e w' => e = .returned (vd (shaI l)) ∧ Below w.heap.size w w' := by
  have HR := Aside0.mk hr
  have HY := Aside0.mk hb
  have HG := Aside0.mk hg
  have HSL := Aside0.mk (shaI_len l)
  have HDR := Aside0.mk (shaR l)
  clear hr hb hg
  generalize hD : shaI l = D at HSL HDR ⊢
  clear hD
  have HDD := Aside0.mk HDR.out.symm
  clear HDR
  go_enter Tryd.func16, Tryd.ntmps16
  go_upto_region 1 with (fail)
  obtain ⟨w1, hw1, HB1, HD, HZ1⟩ := dg_start w
  rw [hw1]
  clear hw1
  have hS0 : w1.drew.heap[gh]? = some (.cells hk 52 (0, 0)) := (show w1.heap[gh]? = _ from heap_keep HG.out HB1.out)
  refine start_ (n := 11) (S := fun w' => w'.heap[gh]? = some (.cells hk 52 (0, 0))) (ds := [9,10]) #[false, false, false, false, false, false, false, false, false, false, false] (by kernel_rfl) rfl rfl (by exact hS0) (fun hHeld => ?_)
  refine with_tabW hs_tab1 hs_bits1 (fun HT_ HW_ => ?_)
  refine pure_ (i := 0) (N := some 5) (v := ?_) (a' := ?_) #[true, false, false, false, false, false, false, false, false, false, false] rfl rfl (any_of HT_.out (by kernel_rfl)) (fun _ _ _ h => h) (Or.inl ⟨by rfl, ?_⟩) ?_ ?_
  rotate_left
  · intro w'
    go_simp
    with_reducible rfl
  rotate_left
  · simp only [Act.put, List.setIfInBounds_toArray, List.set_cons_zero, List.set_cons_succ, i64_w, i32_w]
    rfl
  refine pure_ (i := 1) (N := some 6) (v := ?_) (a' := ?_) #[true, true, false, false, false, false, false, false, false, false, false] rfl rfl (any_of HT_.out (by kernel_rfl)) (fun _ _ _ h => h) (Or.inl ⟨by rfl, ?_⟩) ?_ ?_
  rotate_left
  · intro w'
    go_simp
    with_reducible rfl
  rotate_left
  · simp only [Act.put, List.setIfInBounds_toArray, List.set_cons_zero, List.set_cons_succ, i64_w, i32_w]
    rfl
  refine pure_ (i := 2) (N := some 7) (v := ?_) (a' := ?_) #[true, true, true, false, false, false, false, false, false, false, false] rfl rfl (any_of HT_.out (by kernel_rfl)) (fun _ _ _ h => h) (Or.inl ⟨by rfl, ?_⟩) ?_ ?_
  rotate_left
  · intro w'
    go_simp
    with_reducible rfl
  rotate_left
  · simp only [Act.put, List.setIfInBounds_toArray, List.set_cons_zero, List.set_cons_succ, i64_w, i32_w]
    rfl
  refine pure_ (i := 4) (N := some 9) (v := ?_) (a' := ?_) #[true, true, true, false, true, false, false, false, false, false, false] rfl rfl (any_of HT_.out (by kernel_rfl)) (fun _ _ _ h => h) (Or.inl ⟨by rfl, ?_⟩) ?_ ?_
  rotate_left
  · intro w'
    go_simp
    with_reducible rfl
  rotate_left
  · simp only [Act.put, List.setIfInBounds_toArray, List.set_cons_zero, List.set_cons_succ, i64_w, i32_w]
    rfl
  refine pure_ (i := 5) (N := some 10) (v := ?_) (a' := ?_) #[true, true, true, false, true, true, false, false, false, false, false] rfl rfl (any_of HT_.out (by kernel_rfl)) (fun _ _ _ h => h) (Or.inl ⟨by rfl, ?_⟩) ?_ ?_
  rotate_left
  · intro w'
    go_simp
    with_reducible rfl
  rotate_left
  · simp only [Act.put, List.setIfInBounds_toArray, List.set_cons_zero, List.set_cons_succ, i64_w, i32_w]
    rfl
  refine pure_ (i := 6) (N := some 11) (v := ?_) (a' := ?_) #[true, true, true, false, true, true, true, false, false, false, false] rfl rfl (any_of HT_.out (by kernel_rfl)) (fun _ _ _ h => h) (Or.inl ⟨by rfl, ?_⟩) ?_ ?_
  rotate_left
  · intro w'
    go_simp
    with_reducible rfl
  rotate_left
  · simp only [Act.put, List.setIfInBounds_toArray, List.set_cons_zero, List.set_cons_succ, i64_w, i32_w]
    rfl
  refine pure_ (i := 8) (N := some 13) (v := ?_) (a' := ?_) #[true, true, true, false, true, true, true, false, true, false, false] rfl rfl (any_of HT_.out (by kernel_rfl)) (fun _ _ _ h => h) (Or.inl ⟨by rfl, ?_⟩) ?_ ?_
  rotate_left
  · intro w'
    go_simp
    with_reducible rfl
  rotate_left
  · simp only [Act.put, List.setIfInBounds_toArray, List.set_cons_zero, List.set_cons_succ, i64_w, i32_w]
    rfl
  refine take_ (i := 3) (N := some 8) (v := ?_) (a' := ?_) #[true, true, true, true, true, true, true, false, true, false, false] rfl rfl (take_ofW HT_.out HW_.out (by kernel_rfl)) (fun _ _ _ h => h) (Or.inl ⟨by rfl, ?_⟩) hHeld ?_ ?_
  rotate_left
  · intro w' hSt
    refine (exec_load (p := .pointer (some ⟨gh, 0, none⟩)) rfl rfl (hk_load0 hSt)).trans ?_
    with_reducible rfl
  rotate_left
  · simp only [Act.put, List.setIfInBounds_toArray, List.set_cons_zero, List.set_cons_succ, i64_w, i32_w]
    rfl
  refine take_ (i := 7) (N := some 12) (v := ?_) (a' := ?_) #[true, true, true, true, true, true, true, true, true, false, false] rfl rfl (take_ofW HT_.out HW_.out (by kernel_rfl)) (fun _ _ _ h => h) (Or.inl ⟨by rfl, ?_⟩) hHeld ?_ ?_
  rotate_left
  · intro w' hSt
    refine (exec_load (p := .pointer (some ⟨gh, 8, none⟩)) rfl rfl (hk_load1 hSt)).trans ?_
    with_reducible rfl
  rotate_left
  · simp only [Act.put, List.setIfInBounds_toArray, List.set_cons_zero, List.set_cons_succ, i64_w, i32_w]
    rfl
  refine last_ (i := 9) (N := some 14) #[true, true, true, true, true, true, true, true, true, true, false] rfl rfl (one_of HT_.out (by kernel_rfl)) (by decide) (fun K hK => ?_)
  refine goes_ Tryd.func23 (by kernel_rfl) rfl #[v8 fS, .agg (cw kTab), .slice A l.length c] (by rfl) rfl rfl (by (try simp only [List.map_toArray, List.map_cons, List.map_nil]); first | done | rfl) ?_
  refine (rsum_calls fS fS_rng A c l _ (Kd.C_below HR.out (below_drew1 HB1.out)) hc HY.out hl).mono ?_
  rintro e w3 ⟨rfl, hb⟩
  refine ⟨_, rfl, ?_⟩
  rw [HDD.out]
  have HB2 := Aside0.mk (below_step (below_drew1 HB1.out) hb)
  have HD2 := Aside0.mk (heap_keep (show w1.drew.heap[w.heap.size]? = _ from HD.out) hb)
  clear hb
  refine hK.out _ _ ?_
  clear hK K
  refine norm_ (a' := ?_) ?_ ?_
  rotate_left
  · first
    | (show Act.put _ (some 14) _ = _; simp only [Act.put, List.setIfInBounds_toArray, List.set_cons_zero, List.set_cons_succ, i64_w, i32_w]; rfl)
    | rfl
  refine last_ (i := 10) (N := none) #[true, true, true, true, true, true, true, true, true, true, true] rfl rfl (one_of HT_.out (by kernel_rfl)) (by decide) (fun K hK => ?_)
  refine storeRow_step (by rfl) 41 (.tmp 4) (.tmp 14) rfl w.heap.size (cb D) rfl rfl 41 _ HD2.out (infoDg _ HSL.out) (by rw [cb_size, cb_size, HSL.out]; simp) (cb_one _) ?_
  refine hK.out _ _ ?_
  clear hK K
  refine norm_ (a' := ?_) ?_ ?_
  rotate_left
  · first
    | (show Act.put _ none _ = _; simp only [Act.put, List.setIfInBounds_toArray, List.set_cons_zero, List.set_cons_succ, i64_w, i32_w]; rfl)
    | rfl
  refine done_ (done_of HT_.out (by kernel_rfl)) ?_
  clear hS0 hHeld HT_ HW_
  go_wp2
  (try simp only [Exit.inBlock, Exit.then])
  exact dg_ret rfl rfl HSL.out (setRow_heap _ _ _ _ _ _ HD2.out) rfl ⟨rfl, below_setRow HB2.out (Nat.le_refl _) _⟩
end Go.Proofs.YtebjibkgefgalaaDoor.Ref
