/- What calls of Go functions of this seat come to, as the rows need it: under the conditions that each theorem names. -/
import Derived.Test.YtllcofllnjgkcaaDoorShaE
namespace Go.Proofs.YtllcofllnjgkcaaDoor.Sha
open Go.RowKit Go.Proofs.YtllcofllnjgkcaaDoorW.PrintWords Go.Proofs.YtllcofllnjgkcaaDoorW.PrintLast Go.Proofs.YtllcofllnjgkcaaDoorW.PrintMore
set_option linter.unusedVariables false
set_option linter.unusedSimpArgs false
def pair_T1 : Bool × List (List Nat × List Nat) := (true, [([], []), ([], []), ([0, 1], [0, 1]), ([2], [2]), ([3, 3, 0, 1, 2, 3], [3])])
def pair_B1 : List Nat := [0, 0, 3, 7, 15]
theorem pair_tab1 : rtab .any (opsOf Tryd.f36 1) = pair_T1 := by kernel_rfl
theorem pair_bits1 : waitsOk pair_T1.2 pair_B1 = true := by kernel_rfl
def root_T1 : Bool × List (List Nat × List Nat) := (true, [([], []), ([0], [0]), ([], []), ([1, 2], [1, 2]), ([3, 1], [3]), ([4, 4, 0, 1, 2, 3, 4], [4])])
def root_B1 : List Nat := [0, 1, 0, 7, 15, 31]
theorem root_tab1 : rtab .any (opsOf Tryd.f29 1) = root_T1 := by kernel_rfl
theorem root_bits1 : waitsOk root_T1.2 root_B1 = true := by kernel_rfl
section
variable {P : Program} {ops : Array Oper} {o : Oper} {a : Act} {Q : Exit → Act → World → Prop} {Kc : Act → World → Prop}
theorem storeRow_step {w : World} (hw : Region.wanted o (yielded ops a.tmps) = true) (ty : TypeId) (x y : Operand) (ho : o.op = .store ty x y)
    (g : Nat) (cells : Array Value) (hx : a.eval x = .pointer (some ⟨g, 0, none⟩)) (hy : a.eval y = .agg cells)
    (t : TypeId) (old : Array Value) (hg : w.heap[g]? = some (.cells old t (0, 0))) (hi : (P.info? ty).map (·.size) = some cells.size)
    (hold : old.size = cells.size) (h1 : cells.all (·.oneCell') = true)
    (h : Kc (a.put o.dst undef) (w.setRow g cells)) : if Region.wanted o (yielded ops a.tmps) = true then Oper.wp P o a w Kc Q else Kc (a.put o.dst undef) w := by
  rw [if_pos hw]
  exact wp_store_row ty x y ho g cells hx hy t old hg hi hold h1 h
theorem loadRow_take {w : World} (ty : TypeId) (g : Nat) (t : TypeId) (cs : Array Value) (d : TypeDesc) (hg : w.heap[g]? = some (.cells cs t (0, 0)))
    (hu : P.underlying ty = some d) (hd : (match d with | .struct _ | .array _ _ => true | _ => false) = true) (hi : (P.info? ty).map (·.size) = some cs.size) :
    (Instr.loadAt ty (.pointer (some ⟨g, 0, none⟩))).run P w = .ok (.agg cs) w := by
  simp only [Instr.loadAt, Instr.sureAddr, Sem.run_bind, Sem.run_pure, Result.andThen_ok, run_loadVar_row w g t ty cs (0, 0) d hg hu hd hi]
end
set_option maxHeartbeats 1600000 in
set_option maxRecDepth 100000 in
theorem pair_calls (a b : List Int) (w : World) (ha : a.length = 32) (hb : b.length = 32) (hya : bytes a) (hyb : bytes b) (hT : Tab w) :
    Calls Tryd.prog 36 #[vd a, vd b] w fun e w' => e = .returned (vd (pairI a b)) ∧ Below w.heap.size w w' := by
  have HY := Aside0.mk (bytes_app hya hyb)
  have HTAB := Aside0.mk hT
  have HSL := Aside0.mk (shaI_len (1 :: (a ++ b)))
  have HLA := Aside0.mk ha
  have HLB := Aside0.mk hb
  clear hT hya hyb ha hb
  generalize hD : pairI a b = D
  have HDD := Aside0.mk hD
  clear hD
  rw [show shaI (1 :: (a ++ b)) = D from HDD.out] at HSL
  go_enter Tryd.func36, Tryd.ntmps36
  go_upto_region 1 with (fail)
  obtain ⟨w1, hw1, HA1, HA2, HD, HB1, hz1⟩ : ∃ w1, ((w.alloc (.cells (cb a) 32)).alloc (.cells (cb b) 32)).alloc (.cells #[.int .u8 0, .int .u8 0, .int .u8 0, .int .u8 0, .int .u8 0, .int .u8 0, .int .u8 0, .int .u8 0, .int .u8 0, .int .u8 0, .int .u8 0, .int .u8 0, .int .u8 0, .int .u8 0, .int .u8 0, .int .u8 0, .int .u8 0, .int .u8 0, .int .u8 0, .int .u8 0, .int .u8 0, .int .u8 0, .int .u8 0, .int .u8 0, .int .u8 0, .int .u8 0, .int .u8 0, .int .u8 0, .int .u8 0, .int .u8 0, .int .u8 0, .int .u8 0] 32) = w1 ∧ Aside0 (w1.heap[w.heap.size]? = some (.cells (cb a) 32 (0, 0))) ∧ Aside0 (w1.heap[w.heap.size + 1]? = some (.cells (cb b) 32 (0, 0))) ∧ Aside0 (w1.heap[w.heap.size + 1 + 1]? = some (.cells (cb (List.replicate 32 0)) 32 (0, 0))) ∧ Aside0 (Below w.heap.size w w1) ∧ Aside0 (w1.heap.size = w.heap.size + 1 + 1 + 1) :=
    ⟨_, rfl, ⟨by rw [Below.heap_alloc _ _ _ (by simp; omega), Below.heap_alloc _ _ _ (by simp)]; exact heap_new _ _⟩, ⟨by rw [Below.heap_alloc _ _ _ (by simp)]; exact heap_new' _ _ _ (by simp)⟩, ⟨heap_new' _ _ _ (by simp)⟩, ⟨(((Below.refl w.heap.size w).alloc (Nat.le_refl _) _).alloc (by simp) _).alloc (by simp; omega) _⟩, ⟨by simp⟩⟩
  rw [hw1]
  clear hw1
  obtain ⟨W, hW, HC, HB2, HT2, HD1⟩ : ∃ W, (w1.alloc (.cells #[.slice (some ⟨w.heap.size, 0, none⟩) 32 32, .slice (some ⟨w.heap.size + 1, 0, none⟩) 32 32] 22)).drew = W ∧ Aside0 (Kd.C (Kd.slice 5 B) W (some ⟨w1.heap.size, 0, none⟩) 2 [a, b]) ∧ Aside0 (Below w.heap.size w W) ∧ Aside0 (Tab W) ∧ Aside0 (W.heap[w.heap.size + 1 + 1]? = some (.cells (cb (List.replicate 32 0)) 32 (0, 0))) := by
    have hb := HB1.out.alloc HB1.out.size (.cells #[.slice (some ⟨w.heap.size, 0, none⟩) 32 32, .slice (some ⟨w.heap.size + 1, 0, none⟩) 32 32] 22)
    have hl1 := HLA.out
    have hl2 := HLB.out
    refine ⟨_, rfl, ⟨?_⟩, ⟨below_drew1 hb⟩, ⟨HTAB.out.below (below_drew1 hb)⟩, ⟨?_⟩⟩
    · refine Kd.C_drew (two_rows (A := some ⟨w.heap.size, 0, none⟩) (B' := some ⟨w.heap.size + 1, 0, none⟩) (ca := 32) (cb' := 32) (by rw [hl1, hl2]; exact heap_new _ _) (Kd.C_alloc (C_cb HA1.out (by omega)) _) (by omega) (Kd.C_alloc (C_cb HA2.out (by omega)) _) (by omega))
    · show (w1.alloc _).heap[w.heap.size + 1 + 1]? = _
      rw [Below.heap_alloc _ _ _ (by have := hz1.out; omega)]
      exact HD.out
  refine start_ (n := 5) (S := fun w' => True) (ds := []) #[false, false, false, false, false] (by kernel_rfl) rfl rfl trivial (fun hHeld => ?_)
  refine with_tabW pair_tab1 pair_bits1 (fun HT_ HW_ => ?_)
  refine pure_ (i := 0) (N := some 5) (v := ?_) (a' := ?_) #[true, false, false, false, false] rfl rfl (any_of HT_.out (by kernel_rfl)) (fun _ _ _ h => h) (Or.inl ⟨by rfl, ?_⟩) ?_ ?_
  rotate_left
  · intro w'
    go_simp
    with_reducible rfl
  rotate_left
  · simp only [Act.put, List.setIfInBounds_toArray, List.set_cons_zero, List.set_cons_succ, i64_w, i32_w]
    rfl
  refine pure_ (i := 1) (N := some 6) (v := ?_) (a' := ?_) #[true, true, false, false, false] rfl rfl (any_of HT_.out (by kernel_rfl)) (fun _ _ _ h => h) (Or.inl ⟨by rfl, ?_⟩) ?_ ?_
  rotate_left
  · intro w'
    go_simp
    with_reducible rfl
  rotate_left
  · simp only [Act.put, List.setIfInBounds_toArray, List.set_cons_zero, List.set_cons_succ, i64_w, i32_w]
    rfl
  refine one_ (i := 2) (N := some 7) #[true, true, true, false, false] rfl rfl (one_of HT_.out (by kernel_rfl)) (by decide) (fun K hK => ?_)
  go_simp
  refine hK.out _ _ trivial (fun hHeld => ?_)
  clear hK K
  refine norm_ (a' := ?_) ?_ ?_
  rotate_left
  · first
    | (show Act.put _ (some 7) _ = _; simp only [Act.put, List.setIfInBounds_toArray, List.set_cons_zero, List.set_cons_succ, i64_w, i32_w]; rfl)
    | rfl
  refine one_ (i := 3) (N := some 8) #[true, true, true, true, false] rfl rfl (one_of HT_.out (by kernel_rfl)) (by decide) (fun K hK => ?_)
  refine goes_ Tryd.func20 (by kernel_rfl) rfl #[.int .u8 1, .slice (some ⟨w1.heap.size, 0, none⟩) 2 2] (by rfl) rfl rfl (by (try simp only [List.map_toArray, List.map_cons, List.map_nil]); first | done | rfl) ?_
  refine (parts_calls 1 _ 2 [a, b] _ HC.out (Nat.le_refl 2) (by omega) (by rw [flat2]; exact HY.out) (by rw [flen2, HLA.out, HLB.out]; omega) HT2.out).mono ?_
  rintro e w3 ⟨rfl, hb⟩
  refine ⟨_, rfl, ?_⟩
  rw [flat2, show shaI (1 :: (a ++ b)) = D from HDD.out]
  have HD2 := Aside0.mk (heap_keep HD1.out hb)
  have HB3 := Aside0.mk (below_step HB2.out hb)
  clear hb
  refine hK.out _ _ trivial (fun hHeld => ?_)
  clear hK K
  refine norm_ (a' := ?_) ?_ ?_
  rotate_left
  · first
    | (show Act.put _ (some 8) _ = _; simp only [Act.put, List.setIfInBounds_toArray, List.set_cons_zero, List.set_cons_succ, i64_w, i32_w]; rfl)
    | rfl
  refine one_ (i := 4) (N := none) #[true, true, true, true, true] rfl rfl (one_of HT_.out (by kernel_rfl)) (by decide) (fun K hK => ?_)
  refine storeRow_step (by rfl) 32 (.tmp 4) (.tmp 8) rfl (w.heap.size + 1 + 1) (cb D) rfl rfl 32 _ HD2.out (infoDg _ HSL.out) (by rw [cb_size, cb_size, HSL.out]; simp) (cb_one _) ?_
  refine hK.out _ _ trivial (fun hHeld => ?_)
  clear hK K
  refine norm_ (a' := ?_) ?_ ?_
  rotate_left
  · first
    | (show Act.put _ none _ = _; simp only [Act.put, List.setIfInBounds_toArray, List.set_cons_zero, List.set_cons_succ, i64_w, i32_w]; rfl)
    | rfl
  refine done_ (done_of HT_.out (by kernel_rfl)) ?_
  clear hHeld HT_ HW_
  go_wp2
  (try simp only [Exit.inBlock, Exit.then])
  exact dg_ret rfl rfl HSL.out (setRow_heap _ _ _ _ _ _ HD2.out) rfl ⟨rfl, below_setRow HB3.out (by omega) _⟩
set_option maxHeartbeats 1600000 in
set_option maxRecDepth 100000 in
theorem root_calls (n : Nat) (d : List Int) (w : World) (hn : n < 9223372036854775808) (hd : d.length = 32) (hyd : bytes d) (hT : Tab w) :
    Calls Tryd.prog 29 #[.int .i64 n, vd d] w fun e w' => e = .returned (vd (rootI n d)) ∧ Below w.heap.size w w' := by
  have HY := Aside0.mk (bytes_app (be8_bytes n) hyd)
  have HTAB := Aside0.mk hT
  have HSL := Aside0.mk (shaI_len (2 :: (be8 n ++ d)))
  have HLB := Aside0.mk hd
  clear hT hyd hd
  generalize hD : rootI n d = D
  have HDD := Aside0.mk hD
  clear hD
  rw [show shaI (2 :: (be8 n ++ d)) = D from HDD.out] at HSL
  go_enter Tryd.func29, Tryd.ntmps29
  go_upto_region 1 with (fail)
  obtain ⟨w1, hw1, HA1, HD, HB1, hz1⟩ : ∃ w1, (w.alloc (.cells (cb d) 32)).alloc (.cells #[.int .u8 0, .int .u8 0, .int .u8 0, .int .u8 0, .int .u8 0, .int .u8 0, .int .u8 0, .int .u8 0, .int .u8 0, .int .u8 0, .int .u8 0, .int .u8 0, .int .u8 0, .int .u8 0, .int .u8 0, .int .u8 0, .int .u8 0, .int .u8 0, .int .u8 0, .int .u8 0, .int .u8 0, .int .u8 0, .int .u8 0, .int .u8 0, .int .u8 0, .int .u8 0, .int .u8 0, .int .u8 0, .int .u8 0, .int .u8 0, .int .u8 0, .int .u8 0] 32) = w1 ∧ Aside0 (w1.heap[w.heap.size]? = some (.cells (cb d) 32 (0, 0))) ∧ Aside0 (w1.heap[w.heap.size + 1]? = some (.cells (cb (List.replicate 32 0)) 32 (0, 0))) ∧ Aside0 (Below w.heap.size w w1) ∧ Aside0 (w1.heap.size = w.heap.size + 1 + 1) :=
    ⟨_, rfl, ⟨by rw [Below.heap_alloc _ _ _ (by simp)]; exact heap_new _ _⟩, ⟨heap_new' _ _ _ (by simp)⟩, ⟨((Below.refl w.heap.size w).alloc (Nat.le_refl _) _).alloc (by simp) _⟩, ⟨by simp⟩⟩
  rw [hw1]
  clear hw1
  refine start_ (n := 6) (S := fun w' => True) (ds := []) #[false, false, false, false, false, false] (by kernel_rfl) rfl rfl trivial (fun hHeld => ?_)
  refine with_tabW root_tab1 root_bits1 (fun HT_ HW_ => ?_)
  refine pure_ (i := 0) (N := some 5) (v := ?_) (a' := ?_) #[true, false, false, false, false, false] rfl rfl (any_of HT_.out (by kernel_rfl)) (fun _ _ _ h => h) (Or.inl ⟨by rfl, ?_⟩) ?_ ?_
  rotate_left
  · intro w'
    go_simp
    with_reducible rfl
  rotate_left
  · simp only [Act.put, List.setIfInBounds_toArray, List.set_cons_zero, List.set_cons_succ, i64_w, i32_w]
    rfl
  refine pure_ (i := 2) (N := some 7) (v := ?_) (a' := ?_) #[true, false, true, false, false, false] rfl rfl (any_of HT_.out (by kernel_rfl)) (fun _ _ _ h => h) (Or.inl ⟨by rfl, ?_⟩) ?_ ?_
  rotate_left
  · intro w'
    go_simp
    with_reducible rfl
  rotate_left
  · simp only [Act.put, List.setIfInBounds_toArray, List.set_cons_zero, List.set_cons_succ, i64_w, i32_w]
    rfl
  refine one_ (i := 1) (N := some 6) #[true, true, true, false, false, false] rfl rfl (one_of HT_.out (by kernel_rfl)) (by decide) (fun K hK => ?_)
  refine goes_ Tryd.func40 (by kernel_rfl) rfl #[.int .i64 n] (by rfl) rfl rfl (by (try simp only [List.map_toArray, List.map_cons, List.map_nil]); first | done | rfl) ?_
  refine (eight_calls n _ hn).mono ?_
  rintro e w2 ⟨rfl, h8, hb⟩
  refine ⟨_, rfl, ?_⟩
  obtain ⟨W, hW, HC, HB2, HT2, HD1⟩ : ∃ W, (w2.alloc (.cells #[.slice (some ⟨w1.heap.size, 0, none⟩) 8 8, .slice (some ⟨w.heap.size, 0, none⟩) 32 32] 22)) = W ∧ Aside0 (Kd.C (Kd.slice 5 B) W (some ⟨w2.heap.size, 0, none⟩) 2 [be8 n, d]) ∧ Aside0 (Below w.heap.size w W) ∧ Aside0 (Tab W) ∧ Aside0 (W.heap[w.heap.size + 1]? = some (.cells (cb (List.replicate 32 0)) 32 (0, 0))) := by
    have hb1 : Below w1.heap.size w1 w2 := (below_drew1 (Below.refl w1.heap.size w1)).trans hb
    have hb2 := below_step HB1.out hb1
    have hb3 := hb2.alloc hb2.size (.cells #[.slice (some ⟨w1.heap.size, 0, none⟩) 8 8, .slice (some ⟨w.heap.size, 0, none⟩) 32 32] 22)
    have hl2 := HLB.out
    refine ⟨_, rfl, ⟨?_⟩, ⟨hb3⟩, ⟨HTAB.out.below hb3⟩, ⟨?_⟩⟩
    · exact two_rows (A := some ⟨w1.heap.size, 0, none⟩) (B' := some ⟨w.heap.size, 0, none⟩) (ca := 8) (cb' := 32) (by rw [hl2]; exact heap_new _ _) (Kd.C_alloc h8 _) (Nat.le_refl 8) (Kd.C_alloc (C_cb (heap_keep HA1.out hb1) (by omega)) _) (by omega)
    · rw [Below.heap_alloc _ _ _ (by have := hz1.out; have := hb1.size; omega)]
      exact heap_keep HD.out hb1
  clear hb h8
  refine hK.out _ _ trivial (fun hHeld => ?_)
  clear hK K
  refine norm_ (a' := ?_) ?_ ?_
  rotate_left
  · first
    | (show Act.put _ (some 6) _ = _; simp only [Act.put, List.setIfInBounds_toArray, List.set_cons_zero, List.set_cons_succ, i64_w, i32_w]; rfl)
    | rfl
  refine one_ (i := 3) (N := some 8) #[true, true, true, true, false, false] rfl rfl (one_of HT_.out (by kernel_rfl)) (by decide) (fun K hK => ?_)
  go_simp
  refine hK.out _ _ trivial (fun hHeld => ?_)
  clear hK K
  refine norm_ (a' := ?_) ?_ ?_
  rotate_left
  · first
    | (show Act.put _ (some 8) _ = _; simp only [Act.put, List.setIfInBounds_toArray, List.set_cons_zero, List.set_cons_succ, i64_w, i32_w]; rfl)
    | rfl
  refine one_ (i := 4) (N := some 9) #[true, true, true, true, true, false] rfl rfl (one_of HT_.out (by kernel_rfl)) (by decide) (fun K hK => ?_)
  refine goes_ Tryd.func20 (by kernel_rfl) rfl #[.int .u8 2, .slice (some ⟨w2.heap.size, 0, none⟩) 2 2] (by rfl) rfl rfl (by (try simp only [List.map_toArray, List.map_cons, List.map_nil]); first | done | rfl) ?_
  refine (parts_calls 2 _ 2 [be8 n, d] _ HC.out (Nat.le_refl 2) (by omega) (by rw [flat2]; exact HY.out) (by rw [flen2, HLB.out]; simp [be8]) HT2.out).mono ?_
  rintro e w3 ⟨rfl, hb⟩
  refine ⟨_, rfl, ?_⟩
  rw [flat2, show shaI (2 :: (be8 n ++ d)) = D from HDD.out]
  have HD2 := Aside0.mk (heap_keep HD1.out hb)
  have HB3 := Aside0.mk (below_step HB2.out hb)
  clear hb
  refine hK.out _ _ trivial (fun hHeld => ?_)
  clear hK K
  refine norm_ (a' := ?_) ?_ ?_
  rotate_left
  · first
    | (show Act.put _ (some 9) _ = _; simp only [Act.put, List.setIfInBounds_toArray, List.set_cons_zero, List.set_cons_succ, i64_w, i32_w]; rfl)
    | rfl
  refine one_ (i := 5) (N := none) #[true, true, true, true, true, true] rfl rfl (one_of HT_.out (by kernel_rfl)) (by decide) (fun K hK => ?_)
  refine storeRow_step (by rfl) 32 (.tmp 4) (.tmp 9) rfl (w.heap.size + 1) (cb D) rfl rfl 32 _ HD2.out (infoDg _ HSL.out) (by rw [cb_size, cb_size, HSL.out]; simp) (cb_one _) ?_
  refine hK.out _ _ trivial (fun hHeld => ?_)
  clear hK K
  refine norm_ (a' := ?_) ?_ ?_
  rotate_left
  · first
    | (show Act.put _ none _ = _; simp only [Act.put, List.setIfInBounds_toArray, List.set_cons_zero, List.set_cons_succ, i64_w, i32_w]; rfl)
    | rfl
  refine done_ (done_of HT_.out (by kernel_rfl)) ?_
  clear hHeld HT_ HW_
  go_wp2
  (try simp only [Exit.inBlock, Exit.then])
  exact dg_ret rfl rfl HSL.out (setRow_heap _ _ _ _ _ _ HD2.out) rfl ⟨rfl, below_setRow HB3.out (by omega) _⟩
end Go.Proofs.YtllcofllnjgkcaaDoor.Sha
