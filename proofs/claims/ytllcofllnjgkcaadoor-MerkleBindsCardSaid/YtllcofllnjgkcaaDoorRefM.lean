/- What calls of Go functions of this seat come to, as the rows need it: under the conditions that each theorem names. -/
import Derived.Test.YtllcofllnjgkcaaDoorRefL
import Derived.Deep.RegionWith
import Derived.Test.YtllcofllnjgkcaaDoorWTab
import Derived.Test.YtllcofllnjgkcaaDoorWLast
namespace Go.Proofs.YtllcofllnjgkcaaDoor.Ref
open Go.RowKit Go.Proofs.YtllcofllnjgkcaaDoorW.PrintWords Go.Proofs.YtllcofllnjgkcaaDoorW.PrintLast Go.Proofs.YtllcofllnjgkcaaDoorW.PrintMore
set_option linter.unusedVariables false
set_option linter.unusedSimpArgs false
open Go.Proofs.YtllcofllnjgkcaaDoor.Sha
theorem C_cb32 {w : World} {g : Nat} {D : List Int} {t : TypeId} (h : w.heap[g]? = some (.cells (cb D) t (0, 0))) (hl : D.length = 32) : B.C w (some ⟨g, 0, none⟩) 32 D := by
  have := C_cb h (by omega)
  rwa [hl] at this
theorem grown_below {w w' : World} (h : w.grownBy w' none) : Below w.heap.size w w' := ⟨h.os, h.tape, h.output, h.size, fun k hk => h.block k hk (by simp)⟩
def nb_T1 : Bool × List (List Nat × List Nat) := (true, [([], []), ([], []), ([0, 1], [0, 1]), ([], []), ([2, 3, 2], [2, 3]), ([4, 4, 0, 1, 2, 3, 4], [4])])
def nb_B1 : List Nat := [0, 0, 3, 0, 15, 31]
theorem nb_tab1 : rtab .any (opsOf Tryd.f42 1) = nb_T1 := by kernel_rfl
theorem nb_bits1 : waitsOk nb_T1.2 nb_B1 = true := by kernel_rfl
def rbt_T1 : Bool × List (List Nat × List Nat) := (true, [([], []), ([], []), ([1], [1]), ([0, 2, 2], [0, 2]), ([], []), ([3, 4, 3], [3, 4]), ([5, 5, 0, 1, 2, 3, 4, 5], [5])])
def rbt_B1 : List Nat := [0, 0, 2, 7, 0, 31, 63]
theorem rbt_tab1 : rtab .any (opsOf Tryd.f32 1) = rbt_T1 := by kernel_rfl
theorem rbt_bits1 : waitsOk rbt_T1.2 rbt_B1 = true := by kernel_rfl
set_option maxHeartbeats 1600000 in
set_option maxRecDepth 100000 in
theorem nodeB_R (a b : List Int) (w : World) (ha : a.length = 32) (hb : b.length = 32) :
    Calls Tryd.prog 42 #[vd a, vd b] w fun e w' => ∃ v, e = .returned v ∧ Kd.R B 5 w' w.heap.size (fun _ => True) v (1 :: (a ++ b)) ∧ Below w.heap.size w w' := by
  have HLA := Aside0.mk ha
  have HLB := Aside0.mk hb
  have HX := Aside0.mk (show [1] ++ a ++ b = 1 :: (a ++ b) by simp)
  generalize 1 :: (a ++ b) = X at HX ⊢
  clear ha hb
  go_enter Tryd.func42, Tryd.ntmps42
  go_upto_region 1 with (fail)
  obtain ⟨w1, hw1, HA1, HA2, HB1⟩ : ∃ w1, ((w.alloc (.cells (cb a) 32)).alloc (.cells (cb b) 32)) = w1 ∧ Aside0 (w1.heap[w.heap.size]? = some (.cells (cb a) 32 (0, 0))) ∧ Aside0 (w1.heap[w.heap.size + 1]? = some (.cells (cb b) 32 (0, 0))) ∧ Aside0 (Below w.heap.size w w1) :=
    ⟨_, rfl, ⟨by rw [Below.heap_alloc _ _ _ (by simp)]; exact Sha.heap_new _ _⟩, ⟨Sha.heap_new' _ _ _ (by simp)⟩, ⟨((Below.refl w.heap.size w).alloc (Nat.le_refl _) _).alloc (by simp) _⟩⟩
  rw [hw1]
  clear hw1
  refine start_ (n := 6) (S := fun w' => True) (ds := []) #[false, false, false, false, false, false] (by kernel_rfl) rfl rfl trivial (fun hHeld => ?_)
  refine with_tabW nb_tab1 nb_bits1 (fun HT_ HW_ => ?_)
  refine pure_ (i := 1) (N := some 6) (v := ?_) (a' := ?_) #[false, true, false, false, false, false] rfl rfl (any_of HT_.out (by kernel_rfl)) (fun _ _ _ h => h) (Or.inl ⟨by rfl, ?_⟩) ?_ ?_
  rotate_left
  · intro w'
    go_simp
    with_reducible rfl
  rotate_left
  · simp only [Act.put, List.setIfInBounds_toArray, List.set_cons_zero, List.set_cons_succ, i64_w, i32_w]
    rfl
  refine pure_ (i := 3) (N := some 8) (v := ?_) (a' := ?_) #[false, true, false, true, false, false] rfl rfl (any_of HT_.out (by kernel_rfl)) (fun _ _ _ h => h) (Or.inl ⟨by rfl, ?_⟩) ?_ ?_
  rotate_left
  · intro w'
    go_simp
    with_reducible rfl
  rotate_left
  · simp only [Act.put, List.setIfInBounds_toArray, List.set_cons_zero, List.set_cons_succ, i64_w, i32_w]
    rfl
  refine one_ (i := 0) (N := some 5) #[true, true, false, true, false, false] rfl rfl (one_of HT_.out (by kernel_rfl)) (by decide) (fun K hK => ?_)
  refine Kd.R_lit_step B (w0 := w1) w1.heap.size 5 (by rfl) rfl (xs := [1]) (inner := [.int .u8 1]) (ok := fun _ => True) (okp := fun _ => True) ?hr (Reps.one rfl (Reps.none _ _)) (fun _ hk => hk) trivial (below_drew1 (Below.refl _ _)) (Nat.le_refl _) (by simp) ?_
  case hr => first | (go_simp; done) | (go_simp; rfl)
  intro v2 w2 ho hb2 _ _
  have HO := Aside0.mk ho
  have HB := Aside0.mk hb2
  clear ho hb2
  refine hK.out _ _ trivial (fun hHeld => ?_)
  clear hK K
  refine norm_ (a' := ?_) ?_ ?_
  rotate_left
  · first
    | (show Act.put _ (some 5) _ = _; simp only [Act.put, List.setIfInBounds_toArray, List.set_cons_zero, List.set_cons_succ, i64_w, i32_w]; rfl)
    | rfl
  refine one_ (i := 2) (N := some 7) #[true, true, true, true, false, false] rfl rfl (one_of HT_.out (by kernel_rfl)) (by decide) (fun K hK => ?_)
  refine Kd.R_append_rows_step B (w0 := w1) w1.heap.size (by rfl) (.tmp 5) (.tmp 6) 22 5 (.int .u8 0) 1 rfl Tryd.underlying22 info5 rfl (by decide) (by omega) _ ([1]) (a) _ _ _ (fun _ => True) (fun _ => False) rfl rfl HO.out (Kd.C_below (C_cb32 HA1.out HLA.out) HB.out) (fun _ _ h => h) (fun _ h => h.elim) (fun _ _ => trivial) HB.out HB.out.size ?aL ?_
  case aL => have := HLA.out; simp
  intro v3 w3 ho hb2 _ _
  have HO2 := Aside0.mk ho
  have HB2 := Aside0.mk hb2
  clear ho hb2
  refine hK.out _ _ trivial (fun hHeld => ?_)
  clear hK K
  refine norm_ (a' := ?_) ?_ ?_
  rotate_left
  · first
    | (show Act.put _ (some 7) _ = _; simp only [Act.put, List.setIfInBounds_toArray, List.set_cons_zero, List.set_cons_succ, i64_w, i32_w]; rfl)
    | rfl
  refine one_ (i := 4) (N := some 9) #[true, true, true, true, true, false] rfl rfl (one_of HT_.out (by kernel_rfl)) (by decide) (fun K hK => ?_)
  refine Kd.R_append_rows_step B (w0 := w1) w1.heap.size (by rfl) (.tmp 7) (.tmp 8) 22 5 (.int .u8 0) 1 rfl Tryd.underlying22 info5 rfl (by decide) (by omega) _ ([1] ++ a) (b) _ _ _ (fun _ => True) (fun _ => False) rfl rfl HO2.out (Kd.C_below (C_cb32 HA2.out HLB.out) HB2.out) (fun _ _ h => h) (fun _ h => h.elim) (fun _ _ => trivial) HB2.out HB2.out.size ?aL ?_
  case aL => have := HLA.out; have := HLB.out; simp; omega
  intro v4 w4 ho hb2 _ _
  have HO3 := Aside0.mk ho
  have HB3 := Aside0.mk hb2
  clear ho hb2
  refine hK.out _ _ trivial (fun hHeld => ?_)
  clear hK K
  refine norm_ (a' := ?_) ?_ ?_
  rotate_left
  · first
    | (show Act.put _ (some 9) _ = _; simp only [Act.put, List.setIfInBounds_toArray, List.set_cons_zero, List.set_cons_succ, i64_w, i32_w]; rfl)
    | rfl
  refine pure_ (i := 5) (N := some 4) (v := ?_) (a' := ?_) #[true, true, true, true, true, true] rfl rfl (any_of HT_.out (by kernel_rfl)) (fun _ _ _ h => h) (Or.inl ⟨by rfl, ?_⟩) ?_ ?_
  rotate_left
  · intro w'
    go_simp
    with_reducible rfl
  rotate_left
  · simp only [Act.put, List.setIfInBounds_toArray, List.set_cons_zero, List.set_cons_succ, i64_w, i32_w]
    rfl
  refine done_ (done_of HT_.out (by kernel_rfl)) ?_
  clear hHeld HT_ HW_
  rw [HX.out] at HO3
  go_wp2
  go_ret
  exact ⟨_, rfl, Kd.R_lower HO3.out HB1.out.size, below_step HB1.out HB3.out⟩
theorem RB_reads {w : World} {base : Nat} {v : Value} {X : List Int} (h : Kd.R B 5 w base (fun _ => True) v X) : ∃ A c, v = .slice A X.length c ∧ X.length ≤ c ∧ B.C w A X.length X := by
  obtain ⟨A9, c9, rfl, hc9, hr9⟩ := Kd.R_reads h
  exact ⟨_, _, rfl, hc9, (Rw.of h).C⟩
theorem nodeB_calls (a b : List Int) (w : World) (ha : a.length = 32) (hb : b.length = 32) :
    Calls Tryd.prog 42 #[vd a, vd b] w fun e w' => ∃ A c, e = .returned (.slice A (1 :: (a ++ b)).length c) ∧ (1 :: (a ++ b)).length ≤ c ∧ B.C w' A (1 :: (a ++ b)).length (1 :: (a ++ b)) ∧ Below w.heap.size w w' :=
  (nodeB_R a b w ha hb).mono fun e w' h => by
    obtain ⟨v, rfl, ho, hb⟩ := h
    obtain ⟨A, c, rfl, h1, h2⟩ := RB_reads ho
    exact ⟨A, c, rfl, h1, h2, hb⟩
set_option maxHeartbeats 1600000 in
set_option maxRecDepth 100000 in
theorem rootB_R (n : Nat) (d : List Int) (w : World) (hn : n < 9223372036854775808) (hd : d.length = 32) :
    Calls Tryd.prog 32 #[.int .i64 n, vd d] w fun e w' => ∃ v, e = .returned v ∧ Kd.R B 5 w' w.heap.size (fun _ => True) v (2 :: (be8 n ++ d)) ∧ Below w.heap.size w w' := by
  have HLA := Aside0.mk hd
  have HX := Aside0.mk (show [2] ++ be8 n ++ d = 2 :: (be8 n ++ d) by simp)
  generalize 2 :: (be8 n ++ d) = X at HX ⊢
  clear hd
  go_enter Tryd.func32, Tryd.ntmps32
  go_upto_region 1 with (fail)
  obtain ⟨w1, hw1, HA1, HB1⟩ : ∃ w1, (w.alloc (.cells (cb d) 32)) = w1 ∧ Aside0 (w1.heap[w.heap.size]? = some (.cells (cb d) 32 (0, 0))) ∧ Aside0 (Below w.heap.size w w1) :=
    ⟨_, rfl, ⟨Sha.heap_new _ _⟩, ⟨(Below.refl w.heap.size w).alloc (Nat.le_refl _) _⟩⟩
  rw [hw1]
  clear hw1
  refine start_ (n := 7) (S := fun w' => True) (ds := []) #[false, false, false, false, false, false, false] (by kernel_rfl) rfl rfl trivial (fun hHeld => ?_)
  refine with_tabW rbt_tab1 rbt_bits1 (fun HT_ HW_ => ?_)
  refine pure_ (i := 1) (N := some 6) (v := ?_) (a' := ?_) #[false, true, false, false, false, false, false] rfl rfl (any_of HT_.out (by kernel_rfl)) (fun _ _ _ h => h) (Or.inl ⟨by rfl, ?_⟩) ?_ ?_
  rotate_left
  · intro w'
    go_simp
    with_reducible rfl
  rotate_left
  · simp only [Act.put, List.setIfInBounds_toArray, List.set_cons_zero, List.set_cons_succ, i64_w, i32_w]
    rfl
  refine pure_ (i := 4) (N := some 9) (v := ?_) (a' := ?_) #[false, true, false, false, true, false, false] rfl rfl (any_of HT_.out (by kernel_rfl)) (fun _ _ _ h => h) (Or.inl ⟨by rfl, ?_⟩) ?_ ?_
  rotate_left
  · intro w'
    go_simp
    with_reducible rfl
  rotate_left
  · simp only [Act.put, List.setIfInBounds_toArray, List.set_cons_zero, List.set_cons_succ, i64_w, i32_w]
    rfl
  refine join_ (σ := Value × Option Addr × Nat) 3 #[true, true, true, false, true, false, false] (fun s => [(5, s.1), (7, .slice s.2.1 (be8 n).length s.2.2)]) (fun s w' => Aside0 (Kd.R B 5 w' w1.heap.size (fun _ => True) s.1 [2]) ∧ Aside0 (B.C w' s.2.1 (be8 n).length (be8 n)) ∧ Aside0 (Below w1.heap.size w1 w')) ?_ ?_
  rotate_left
  · intro hJ
    refine two_ (i := 0) (j := 2) (Ni := some 5) (Nj := some 7) #[true, true, false, false, true, false, false] #[false, true, true, false, true, false, false] rfl rfl rfl rfl (two_of HT_.out (by kernel_rfl)) (by decide) (by decide) (fun K hK => ?_) (fun K hK => ?_)
    · skip
      refine Kd.R_lit_step B (w0 := w1) w1.heap.size 5 (by rfl) rfl (xs := [2]) (inner := [.int .u8 2]) (ok := fun _ => True) (okp := fun _ => True) ?hr (Reps.one rfl (Reps.none _ _)) (fun _ hk => hk) trivial (below_drew1 (Below.refl _ _)) (Nat.le_refl _) (by simp) ?_
      case hr => first | (go_simp; done) | (go_simp; rfl)
      intro v2 w2 ho hb2 _ _
      refine hK.out _ _ trivial (fun _ => ?_)
      clear hK K
      refine norm_ (a' := ?_) ?_ ?_
      rotate_left
      · first
        | (show Act.put _ (some 5) _ = _; simp only [Act.put, List.setIfInBounds_toArray, List.set_cons_zero, List.set_cons_succ, i64_w, i32_w]; rfl)
        | rfl
      refine one_ (i := 2) (N := some 7) #[true, true, true, false, true, false, false] rfl rfl (one_of HT_.out (by kernel_rfl)) (by decide) (fun K hK => ?_)
      refine goes_ Tryd.func44 (by kernel_rfl) rfl #[.int .i64 n] (by rfl) rfl rfl (by (try simp only [List.map_toArray, List.map_cons, List.map_nil]); first | done | rfl) ?_
      refine (reight_calls n _ hn).mono ?_
      rintro e w3 ⟨v, rfl, h8, hb⟩
      refine ⟨_, rfl, ?_⟩
      have HC8 : Aside0 (∀ A8 c8', v = .slice A8 (be8 n).length c8' → Rw w3 A8 (be8 n) _ _) := ⟨fun A8 c8' e => Rw.of (e ▸ h8)⟩
      obtain ⟨A8, c8', rfl, hc8, hr8⟩ := Kd.R_reads h8
      refine hK.out _ _ trivial (fun _ => ?_)
      clear hK K
      refine norm_ ?_ (hJ (v2, A8, c8') _ ⟨⟨Kd.R_below ho hb⟩, ⟨(HC8.out _ _ rfl).C⟩, ⟨below_step hb2 hb⟩⟩)
      first
        | (simp only [putAll]; simp only [Act.put, List.setIfInBounds_toArray, List.set_cons_zero, List.set_cons_succ, i64_w, i32_w]; done)
        | (simp only [putAll]; simp only [Act.put, List.setIfInBounds_toArray, List.set_cons_zero, List.set_cons_succ, i64_w, i32_w]; rfl)
        | rfl
    · skip
      refine goes_ Tryd.func44 (by kernel_rfl) rfl #[.int .i64 n] (by rfl) rfl rfl (by (try simp only [List.map_toArray, List.map_cons, List.map_nil]); first | done | rfl) ?_
      refine (reight_calls n _ hn).mono ?_
      rintro e w3 ⟨v, rfl, h8, hb⟩
      refine ⟨_, rfl, ?_⟩
      have HC8 : Aside0 (∀ A8 c8', v = .slice A8 (be8 n).length c8' → Rw w3 A8 (be8 n) _ _) := ⟨fun A8 c8' e => Rw.of (e ▸ h8)⟩
      obtain ⟨A8, c8', rfl, hc8, hr8⟩ := Kd.R_reads h8
      have hbx : Below w1.heap.size w1 w3 := below_step (below_drew1 (Below.refl _ _)) hb
      refine hK.out _ _ trivial (fun _ => ?_)
      clear hK K
      refine norm_ (a' := ?_) ?_ ?_
      rotate_left
      · first
        | (show Act.put _ (some 7) _ = _; simp only [Act.put, List.setIfInBounds_toArray, List.set_cons_zero, List.set_cons_succ, i64_w, i32_w]; rfl)
        | rfl
      refine one_ (i := 0) (N := some 5) #[true, true, true, false, true, false, false] rfl rfl (one_of HT_.out (by kernel_rfl)) (by decide) (fun K hK => ?_)
      refine Kd.R_lit_step B (w0 := w1) w1.heap.size 5 (by rfl) rfl (xs := [2]) (inner := [.int .u8 2]) (ok := fun _ => True) (okp := fun _ => True) ?hr (Reps.one rfl (Reps.none _ _)) (fun _ hk => hk) trivial (hbx) (hbx.size) (by simp) ?_
      case hr => first | (go_simp; done) | (go_simp; rfl)
      intro v2 w2 ho hb2 hgr _
      refine hK.out _ _ trivial (fun _ => ?_)
      clear hK K
      refine norm_ ?_ (hJ (v2, A8, c8') _ ⟨⟨ho⟩, ⟨Kd.C_below (HC8.out _ _ rfl).C (grown_below hgr)⟩, ⟨hb2⟩⟩)
      first
        | (simp only [putAll]; simp only [Act.put, List.setIfInBounds_toArray, List.set_cons_zero, List.set_cons_succ, i64_w, i32_w]; done)
        | (simp only [putAll]; simp only [Act.put, List.setIfInBounds_toArray, List.set_cons_zero, List.set_cons_succ, i64_w, i32_w]; rfl)
        | rfl
  rintro ⟨v5, A8, c8'⟩ w4 ⟨HOb, HC8, HB2⟩
  refine norm_ (a' := ?_) ?_ ?_
  rotate_left
  · simp only [putAll]
    simp only [Act.put, List.setIfInBounds_toArray, List.set_cons_zero, List.set_cons_succ, i64_w, i32_w]
    rfl
  refine one_ (i := 3) (N := some 8) #[true, true, true, true, true, false, false] rfl rfl (one_of HT_.out (by kernel_rfl)) (by decide) (fun K hK => ?_)
  refine Kd.R_append_rows_step B (w0 := w1) w1.heap.size (by rfl) (.tmp 5) (.tmp 7) 22 5 (.int .u8 0) 1 rfl Tryd.underlying22 info5 rfl (by decide) (by omega) _ ([2]) (be8 n) _ _ _ (fun _ => True) (fun _ => False) rfl rfl HOb.out (HC8.out) (fun _ _ h => h) (fun _ h => h.elim) (fun _ _ => trivial) HB2.out HB2.out.size ?aL ?_
  case aL => simp [be8]
  intro v4 w4 ho hb2 _ _
  have HO2 := Aside0.mk ho
  have HB3 := Aside0.mk hb2
  clear ho hb2
  refine hK.out _ _ trivial (fun hHeld => ?_)
  clear hK K
  refine norm_ (a' := ?_) ?_ ?_
  rotate_left
  · first
    | (show Act.put _ (some 8) _ = _; simp only [Act.put, List.setIfInBounds_toArray, List.set_cons_zero, List.set_cons_succ, i64_w, i32_w]; rfl)
    | rfl
  refine one_ (i := 5) (N := some 10) #[true, true, true, true, true, true, false] rfl rfl (one_of HT_.out (by kernel_rfl)) (by decide) (fun K hK => ?_)
  refine Kd.R_append_rows_step B (w0 := w1) w1.heap.size (by rfl) (.tmp 8) (.tmp 9) 22 5 (.int .u8 0) 1 rfl Tryd.underlying22 info5 rfl (by decide) (by omega) _ ([2] ++ be8 n) (d) _ _ _ (fun _ => True) (fun _ => False) rfl rfl HO2.out (Kd.C_below (C_cb32 HA1.out HLA.out) HB3.out) (fun _ _ h => h) (fun _ h => h.elim) (fun _ _ => trivial) HB3.out HB3.out.size ?aL ?_
  case aL => first | (simp [be8]; done) | (simp [be8]; omega)
  intro v5 w5 ho hb2 _ _
  have HO3 := Aside0.mk ho
  have HB4 := Aside0.mk hb2
  clear ho hb2
  refine hK.out _ _ trivial (fun hHeld => ?_)
  clear hK K
  refine norm_ (a' := ?_) ?_ ?_
  rotate_left
  · first
    | (show Act.put _ (some 10) _ = _; simp only [Act.put, List.setIfInBounds_toArray, List.set_cons_zero, List.set_cons_succ, i64_w, i32_w]; rfl)
    | rfl
  refine pure_ (i := 6) (N := some 4) (v := ?_) (a' := ?_) #[true, true, true, true, true, true, true] rfl rfl (any_of HT_.out (by kernel_rfl)) (fun _ _ _ h => h) (Or.inl ⟨by rfl, ?_⟩) ?_ ?_
  rotate_left
  · intro w'
    go_simp
    with_reducible rfl
  rotate_left
  · simp only [Act.put, List.setIfInBounds_toArray, List.set_cons_zero, List.set_cons_succ, i64_w, i32_w]
    rfl
  refine done_ (done_of HT_.out (by kernel_rfl)) ?_
  clear hHeld HT_ HW_
  rw [HX.out] at HO3
  go_wp2
  go_ret
  exact ⟨_, rfl, Kd.R_lower HO3.out HB1.out.size, below_step HB1.out HB4.out⟩
theorem rootB_calls (n : Nat) (d : List Int) (w : World) (hn : n < 9223372036854775808) (hd : d.length = 32) :
    Calls Tryd.prog 32 #[.int .i64 n, vd d] w fun e w' => ∃ A c, e = .returned (.slice A (2 :: (be8 n ++ d)).length c) ∧ (2 :: (be8 n ++ d)).length ≤ c ∧ B.C w' A (2 :: (be8 n ++ d)).length (2 :: (be8 n ++ d)) ∧ Below w.heap.size w w' :=
  (rootB_R n d w hn hd).mono fun e w' h => by
    obtain ⟨v, rfl, ho, hb⟩ := h
    obtain ⟨A, c, rfl, h1, h2⟩ := RB_reads ho
    exact ⟨A, c, rfl, h1, h2, hb⟩
end Go.Proofs.YtllcofllnjgkcaaDoor.Ref
