/- What calls of Go functions of this seat come to, as the rows need it: under the conditions that each theorem names. -/
import Derived.Test.YtaheoifjihkipaaAsRF
import Derived.Deep.RegionWith
namespace Go.Proofs.Ytaheoifjihkipaa.As
open Go.RowKit Go.Proofs.YtaheoifjihkipaaW.PrintWords Go.Proofs.YtaheoifjihkipaaW.PrintLast Go.Proofs.YtaheoifjihkipaaW.PrintMore
set_option linter.unusedVariables false
set_option linter.unusedSimpArgs false
section
variable {P : Program} {ops : Array Oper} {o : Oper} {a : Act} {Q : Exit → Act → World → Prop} {Kc : Act → World → Prop}
theorem append_step {W w1 : World} {v : Value} (hw : Region.wanted o (yielded ops a.tmps) = true) (s x : Operand) (t : TypeId) (ho : o.op = .call { callee := .builtin .append, args := #[s, x], argTypes := #[t, t] }) (sv xv : Value) (hs : a.eval s = sv) (hx : a.eval x = xv)
    (hrun : (Builtin.append_ #[t, t] o.type #[sv, xv]).run P W = .ok v w1) (h : Kc (a.put o.dst v) w1) : if Region.wanted o (yielded ops a.tmps) = true then Oper.wp P o a W Kc Q else Kc (a.put o.dst undef) W := by
  rw [if_pos hw]
  unfold Oper.wp execOp
  simp only [ho, resolve, invoke, builtin, Sem.run_bind, Sem.run_pure, Result.andThen_ok, List.map_toArray, List.map_cons, List.map_nil, hs, hx, hrun]
  exact h
end
section
variable {w w1 w2 : World} {r e k : Nat} {v : Value} {xs : List Value} {cs : Array Value} {t : TypeId} {bx : Obj}
theorem own_blk (hb : w.heap[r]? = some (.cells cs t (0, 0))) (ho : w.ownsRow (r + 1) e 1 v k xs) (hg : (w.alloc bx).grownBy w2 v.ownBlock) : w2.heap[r]? = some (.cells cs t (0, 0)) :=
  (hg.block r (by have := (Array.getElem?_eq_some_iff.1 hb).1; simp; omega) (fun e => (own_ne ho).elim (fun a => by rw [a] at e; cases e) (fun a => a e.symm))).trans (al_old hb)
theorem own_cell (hb : w.heap[r]? = some (.cells cs t (0, 0))) (ho : w.ownsRow (r + 1) e 1 v k xs) (hg : (w.alloc bx).grownBy w2 v.ownBlock) {j : Nat} {u : Value} (hj : cs[j]? = some u) : w2.cell? ⟨r, j, none⟩ = some u := (cell_of (own_blk hb ho hg)).2 hj
theorem own_frozen (hb : w.heap[r]? = some (.cells cs t (0, 0))) (ho : w.ownsRow (r + 1) e 1 v k xs) (hg : (w.alloc bx).grownBy w2 v.ownBlock) {j : Nat} : w2.frozen? ⟨r, j, none⟩ = false := frozen_of_row w2 r j _ _ (own_blk hb ho hg)
theorem own_below {B : Nat} {u : World} (hB : Below B u w) (hb : w.heap[r]? = some (.cells cs t (0, 0))) (ho : w.ownsRow (r + 1) e 1 v k xs) (hg : (w.alloc bx).grownBy w2 v.ownBlock) (hr : B ≤ r) : Below B u w2 := by
  have hs := (Array.getElem?_eq_some_iff.1 hb).1
  refine ⟨hg.os.trans hB.os, hg.tape.trans hB.tape, hg.output.trans hB.output, Nat.le_trans hB.size (Nat.le_trans (by simp) hg.size), fun q hq => ?_⟩
  refine (hg.block q (by simp; omega) (fun e => ?_)).trans ((Below.heap_alloc w bx q (by omega)).trans (hB.block q hq))
  have := (ho.lt q e.symm).1
  omega
end
def rnw_T8 : Bool × List (List Nat × List Nat) := (true, [([], []), ([], []), ([1], [1]), ([2], [2]), ([3], [3]), ([], []), ([5, 5], [5]), ([6], [6]), ([4, 7], [4, 7]), ([0, 0, 1, 2, 3, 4, 5, 6, 7, 8], [0]), ([9, 0, 1, 2, 3, 4, 5, 6, 7, 8], [9]), ([10, 8, 8, 0, 1, 2, 3, 4, 5, 6, 7, 8], [8, 10])])
def rnw_B8 : List Nat := [0, 0, 2, 6, 14, 0, 32, 96, 254, 511, 1023, 2047]
theorem rnw_tab8 : rtab .any (opsOf Try.f20 8) = rnw_T8 := by kernel_rfl
theorem rnw_bits8 : waitsOk rnw_T8.2 rnw_B8 = true := by kernel_rfl
set_option maxHeartbeats 12800000 in
set_option maxRecDepth 100000 in
theorem rnew_calls (n m : Nat) (win tm : Int) (w : World) (hn : n ≤ 100) (hm : m ≤ 64) :
    Calls Try.prog 20 #[.int .i64 (n : Int), .int .i64 (m : Int), .int .i64 win, .int .i64 tm] w fun e w' => ∃ r v0 v1 v2 v4 tl gb, e = .returned (.pointer (some ⟨r, 0, none⟩)) ∧ w.heap.size ≤ r ∧ Below w.heap.size w w' ∧
      ∃ wq, NW wq r m win tm n n n v0 v1 v2 v4 tl ∧ (n = 0 → v0 = .slice none 0 0 ∧ v1 = .slice none 0 0 ∧ v2 = .slice none 0 0 ∧ v4 = .slice none 0 0) ∧ tl.length = n ∧ w' = (wq.setCell ⟨r, 3, none⟩ (.slice (some ⟨wq.heap.size, 0, none⟩) m m)).alloc (.cells (zI m) 3) ∧ gb = wq.heap.size := by
  have hmk := make_I m (by omega)
  go_enter Try.func20, Try.ntmps20
  go_wp2
  obtain ⟨r, hr⟩ : ∃ r, w.heap.size = r := ⟨_, rfl⟩
  obtain ⟨w1, hw1⟩ : ∃ w1, w.alloc (.cells #[.slice none 0 0, .slice none 0 0, .slice none 0 0, .slice none 0 0, .slice none 0 0, .int .i64 win, .int .i64 tm] 65) = w1 := ⟨_, rfl⟩
  have hb1 : Below w.heap.size w w1 := by rw [← hw1]; exact (Below.refl _ _).alloc (Nat.le_refl _) _
  have HB1 := Aside0.mk hb1
  have HR0 := Aside0.mk (show w.heap.size ≤ r by omega)
  have HN1 : Aside0 (NW w1 r m win tm 0 0 0 (.slice none 0 0) (.slice none 0 0) (.slice none 0 0) (.slice none 0 0) []) := ⟨{ blk := by rw [← hw1, ← hr]; exact heap_new _ _, o0 := World.ownsRow_nil _ _ _ _, o1 := World.ownsRow_nil _ _ _ _, o2 := World.ownsRow_nil _ _ _ _, o4 := World.ownsRow_nil _ _ _ _, a01 := Or.inl rfl, a02 := Or.inl rfl, a04 := Or.inl rfl, a12 := Or.inl rfl, a14 := Or.inl rfl, a24 := Or.inl rfl, tnd := List.nodup_nil, tr := (fun t ht => by cases ht), t0 := (fun t ht => by cases ht), t1 := (fun t ht => by cases ht), t2 := (fun t ht => by cases ht), t4 := (fun t ht => by cases ht) }⟩
  rw [hw1, hr]
  clear hb1 hw1 hr
  go_loopw [10] (fun v wr => ∃ (k : Nat) (v0 v1 v2 v4 : Value) (tl : List Nat), k ≤ n ∧ v = .int .i64 (k : Int) ∧ Aside0 (k = 0 → v0 = .slice none 0 0 ∧ v1 = .slice none 0 0 ∧ v2 = .slice none 0 0 ∧ v4 = .slice none 0 0) ∧ Aside0 (tl.length = k) ∧ Aside0 (NW wr r m win tm k k k v0 v1 v2 v4 tl) ∧ Aside0 (Below w.heap.size w wr)) (fun v _ => n - (intOf v).toNat)
  case atStart => exact ⟨0, _, _, _, _, [], Nat.zero_le _, rfl, ⟨fun _ => ⟨rfl, rfl, rfl, rfl⟩⟩, ⟨rfl⟩, HN1, HB1⟩
  case round =>
    clear HN1 HB1
    obtain ⟨k, v0, v1, v2, v4, tl, hk, rfl, HNL, HTL, HW, HB⟩ := hrel
    by_cases hlt : k < n
    · have e0 : decide ((k : Int) < (n : Int)) = true := decide_eq_true (by omega)
      obtain ⟨f0, f1, f2, f4⟩ := HW.out.cu
      go_upto_region 6 with (refine app1 (by rfl) (.tmp 24) (.tmp 25) (by rfl) (r + 1) v0 k rfl wr.heap.size rfl (heap_new _ _) (HW.out.o0.alloc _) (by omega) (by have := (Array.getElem?_eq_some_iff.1 HW.out.blk).1; simp; omega) ?_; intro u0 wx0 ho hg hl; obtain ⟨qg0, qc0, hu0, hq0, hq0x⟩ := ho.form (by omega); subst hu0; clear hq0 hq0x; have HO := Aside0.mk ho; have HG := Aside0.mk hg; have HL := Aside0.mk hl; clear ho hg hl; have fz := ((HW.out.step0 _ HO.out HG.out HL.out)); have gy : wx0.cell? ⟨r, 0, none⟩ = some v0 := own_cell HW.out.blk HW.out.o0 HG.out rfl; have gz : wx0.frozen? ⟨r, 0, none⟩ = false := own_frozen HW.out.blk HW.out.o0 HG.out; have HBX := Aside0.mk (own_below HB.out HW.out.blk HW.out.o0 HG.out HR0.out); have HW2 := Aside0.mk fz; clear fz)
      clear f0 f1 f2 f4 gy gz HW HB HO HG HL
      have HW := HW2
      have HB := Aside0.mk (HBX.out.setCell (p := ⟨r, 0, none⟩) HR0.out (.slice (some ⟨qg0, 0, none⟩) (k + 1) qc0))
      clear HW2 HBX
      generalize hwq : wx0.setCell ⟨r, 0, none⟩ (.slice (some ⟨qg0, 0, none⟩) (k + 1) qc0) = wy0 at HW HB ⊢
      clear hwq
      obtain ⟨f0, f1, f2, f4⟩ := HW.out.cu
      go_upto_region 7 with (refine app1 (by rfl) (.tmp 33) (.tmp 34) (by rfl) (r + 1) v1 k rfl wy0.heap.size rfl (heap_new _ _) (HW.out.o1.alloc _) (by omega) (by have := (Array.getElem?_eq_some_iff.1 HW.out.blk).1; simp; omega) ?_; intro u1 wx1 ho hg hl; obtain ⟨qg1, qc1, hu1, hq1, hq1x⟩ := ho.form (by omega); subst hu1; clear hq1 hq1x; have HO := Aside0.mk ho; have HG := Aside0.mk hg; have HL := Aside0.mk hl; clear ho hg hl; have fz := ((HW.out.step1 _ HO.out HG.out HL.out)); have gy : wx1.cell? ⟨r, 1, none⟩ = some v1 := own_cell HW.out.blk HW.out.o1 HG.out rfl; have gz : wx1.frozen? ⟨r, 1, none⟩ = false := own_frozen HW.out.blk HW.out.o1 HG.out; have HBX := Aside0.mk (own_below HB.out HW.out.blk HW.out.o1 HG.out HR0.out); have HW2 := Aside0.mk fz; clear fz)
      clear f0 f1 f2 f4 gy gz HW HB HO HG HL
      have HW := HW2
      have HB := Aside0.mk (HBX.out.setCell (p := ⟨r, 1, none⟩) HR0.out (.slice (some ⟨qg1, 0, none⟩) (k + 1) qc1))
      clear HW2 HBX
      generalize hwq : wx1.setCell ⟨r, 1, none⟩ (.slice (some ⟨qg1, 0, none⟩) (k + 1) qc1) = wy1 at HW HB ⊢
      clear hwq
      obtain ⟨f0, f1, f2, f4⟩ := HW.out.cu
      go_upto_region 8 with (refine app1 (by rfl) (.tmp 42) (.tmp 43) (by rfl) (r + 1) v2 k rfl wy1.heap.size rfl (heap_new _ _) (HW.out.o2.alloc _) (by omega) (by have := (Array.getElem?_eq_some_iff.1 HW.out.blk).1; simp; omega) ?_; intro u2 wx2 ho hg hl; obtain ⟨qg2, qc2, hu2, hq2, hq2x⟩ := ho.form (by omega); subst hu2; clear hq2 hq2x; have HO := Aside0.mk ho; have HG := Aside0.mk hg; have HL := Aside0.mk hl; clear ho hg hl; have fz := ((HW.out.step2 _ HO.out HG.out HL.out)); have gy : wx2.cell? ⟨r, 2, none⟩ = some v2 := own_cell HW.out.blk HW.out.o2 HG.out rfl; have gz : wx2.frozen? ⟨r, 2, none⟩ = false := own_frozen HW.out.blk HW.out.o2 HG.out; have HBX := Aside0.mk (own_below HB.out HW.out.blk HW.out.o2 HG.out HR0.out); have HW2 := Aside0.mk fz; clear fz)
      clear f0 f1 f2 f4 gy gz HW HB HO HG HL
      have HW := HW2
      have HB := Aside0.mk (HBX.out.setCell (p := ⟨r, 2, none⟩) HR0.out (.slice (some ⟨qg2, 0, none⟩) (k + 1) qc2))
      clear HW2 HBX
      generalize hwq : wx2.setCell ⟨r, 2, none⟩ (.slice (some ⟨qg2, 0, none⟩) (k + 1) qc2) = wy2 at HW HB ⊢
      clear hwq
      have hS0 : wy2.drew.cell? ⟨r, 4, none⟩ = some v4 := HW.out.cu.2.2.2
      have hNd := Aside0.mk (HW.out.below (below_drew1 (Below.refl wy2.heap.size wy2)))
      have hBd := Aside0.mk (below_step HB.out (below_drew1 (Below.refl wy2.heap.size wy2)))
      clear HW HB
      refine start_ (n := 12) (S := fun w' => w'.cell? ⟨r, 4, none⟩ = some v4) (ds := [11]) #[false, false, false, false, false, false, false, false, false, false, false, false] (by kernel_rfl) rfl rfl (by exact hS0) (fun hHeld => ?_)
      refine with_tabW rnw_tab8 rnw_bits8 (fun HT_ HW_ => ?_)
      generalize wy2.drew = wd at hHeld hS0 hNd hBd ⊢
      refine pure_ (i := 0) (N := some 47) (v := ?_) (a' := ?_) #[true, false, false, false, false, false, false, false, false, false, false, false] rfl rfl (any_of HT_.out (by kernel_rfl)) (fun _ _ _ h => h) (Or.inl ⟨by rfl, ?_⟩) ?_ ?_
      rotate_left
      · intro w'
        go_simp
        with_reducible rfl
      rotate_left
      · simp only [Act.put, List.setIfInBounds_toArray, List.set_cons_zero, List.set_cons_succ, i64_w, i32_w]
        rfl
      refine pure_ (i := 1) (N := some 48) (v := ?_) (a' := ?_) #[true, true, false, false, false, false, false, false, false, false, false, false] rfl rfl (any_of HT_.out (by kernel_rfl)) (fun _ _ _ h => h) (Or.inl ⟨by rfl, ?_⟩) ?_ ?_
      rotate_left
      · intro w'
        go_simp
        with_reducible rfl
      rotate_left
      · simp only [Act.put, List.setIfInBounds_toArray, List.set_cons_zero, List.set_cons_succ, i64_w, i32_w]
        rfl
      refine pure_ (i := 2) (N := some 49) (v := ?_) (a' := ?_) #[true, true, true, false, false, false, false, false, false, false, false, false] rfl rfl (any_of HT_.out (by kernel_rfl)) (fun _ _ _ h => h) (Or.inl ⟨by rfl, ?_⟩) ?_ ?_
      rotate_left
      · intro w'
        go_simp
        with_reducible rfl
      rotate_left
      · simp only [Act.put, List.setIfInBounds_toArray, List.set_cons_zero, List.set_cons_succ, i64_w, i32_w]
        rfl
      refine pure_ (i := 3) (N := some 50) (v := ?_) (a' := ?_) #[true, true, true, true, false, false, false, false, false, false, false, false] rfl rfl (any_of HT_.out (by kernel_rfl)) (fun _ _ _ h => h) (Or.inl ⟨by rfl, ?_⟩) ?_ ?_
      rotate_left
      · intro w'
        go_simp
        with_reducible rfl
      rotate_left
      · simp only [Act.put, List.setIfInBounds_toArray, List.set_cons_zero, List.set_cons_succ, i64_w, i32_w]
        rfl
      refine take_ (i := 4) (N := some 51) (v := ?_) (a' := ?_) #[true, true, true, true, true, false, false, false, false, false, false, false] rfl rfl (take_ofW HT_.out HW_.out (by kernel_rfl)) (fun _ _ _ h => h) (Or.inl ⟨by rfl, ?_⟩) hHeld ?_ ?_
      rotate_left
      · intro w' hSt
        have hx0 := hSt
        go_simp
        with_reducible rfl
      rotate_left
      · simp only [Act.put, List.setIfInBounds_toArray, List.set_cons_zero, List.set_cons_succ, i64_w, i32_w]
        rfl
      refine pure_ (i := 5) (N := some 52) (v := ?_) (a' := ?_) #[true, true, true, true, true, true, false, false, false, false, false, false] rfl rfl (any_of HT_.out (by kernel_rfl)) (fun _ _ _ h => h) (Or.inl ⟨by rfl, ?_⟩) ?_ ?_
      rotate_left
      · intro w'
        go_simp
        with_reducible rfl
      rotate_left
      · simp only [Act.put, List.setIfInBounds_toArray, List.set_cons_zero, List.set_cons_succ, i64_w, i32_w]
        rfl
      refine one_ (i := 6) (N := some 53) #[true, true, true, true, true, true, true, false, false, false, false, false] rfl rfl (one_of HT_.out (by kernel_rfl)) (by decide) (fun K hK => ?_)
      obtain ⟨wA, hwA⟩ : ∃ wA, wA = wd.alloc (.cells (zI m) 3) := ⟨_, rfl⟩
      refine value_ (v := .slice (some ⟨wd.heap.size, 0, none⟩) m m) (w1 := wA) (by rfl) rfl (by rw [hwA]; go_simp; first | done | rfl) ?_
      have hS1 : wA.cell? ⟨r, 4, none⟩ = some v4 := by rw [hwA]; exact (cell_of (al_old hNd.out.blk)).2 rfl
      have HWA := Aside0.mk hwA
      clear hwA
      refine hK.out _ _ (by exact hS1) (fun hHeld => ?_)
      clear hK K
      refine norm_ (a' := ?_) ?_ ?_
      rotate_left
      · first
        | (show Act.put _ (some 53) _ = _; simp only [Act.put, List.setIfInBounds_toArray, List.set_cons_zero, List.set_cons_succ, i64_w, i32_w]; rfl)
        | rfl
      refine one_ (i := 7) (N := some 54) #[true, true, true, true, true, true, true, true, false, false, false, false] rfl rfl (one_of HT_.out (by kernel_rfl)) (by decide) (fun K hK => ?_)
      obtain ⟨wB, hwB⟩ : ∃ wB, wB = wA.alloc (.cells #[.slice (some ⟨wd.heap.size, 0, none⟩) m m] 35) := ⟨_, rfl⟩
      refine value_ (v := .slice (some ⟨wA.heap.size, 0, none⟩) 1 1) (w1 := wB) (by rfl) rfl (by rw [hwB]; go_simp; first | done | rfl) ?_
      have hS1 : wB.cell? ⟨r, 4, none⟩ = some v4 := by rw [hwB, HWA.out]; exact (cell_of (al_old (al_old hNd.out.blk))).2 rfl
      have HWB := Aside0.mk hwB
      clear hwB
      refine hK.out _ _ (by exact hS1) (fun hHeld => ?_)
      clear hK K
      refine norm_ (a' := ?_) ?_ ?_
      rotate_left
      · first
        | (show Act.put _ (some 54) _ = _; simp only [Act.put, List.setIfInBounds_toArray, List.set_cons_zero, List.set_cons_succ, i64_w, i32_w]; rfl)
        | rfl
      refine one_ (i := 8) (N := some 55) #[true, true, true, true, true, true, true, true, true, false, false, false] rfl rfl (one_of HT_.out (by kernel_rfl)) (by decide) (fun K hK => ?_)
      obtain ⟨ai, hai, haz, has, hab⟩ := info_parts infoS
      have hown4 : wB.ownsRow (r + 1) 35 1 v4 tl.length (tl.map fun t => .slice (some ⟨t, 0, none⟩) m m) := by rw [HWB.out, HWA.out]; exact (hNd.out.o4.alloc _).alloc _
      have hlr := (Array.getElem?_eq_some_iff.1 hNd.out.blk).1
      obtain ⟨v4', w2, hrun, ho4, hg4, _, hl4⟩ := run_append_own_at (P := Try.prog) wB (r + 1) 63 63 35 ai (.slice none 0 0) 1 24 Try.underlying63 hai haz has hab rfl (by decide) v4 _ _ hown4 ⟨wA.heap.size, 0, none⟩ 1 1 [.slice (some ⟨wd.heap.size, 0, none⟩) m m] rfl (fun j u' hj => by
        match j, hj with
        | 0, hj =>
          simp at hj
          subst hj
          simp [Addr.add]
          rw [HWB.out]
          exact (cell_of (heap_new wA _)).2 rfl) (by simp [Value.oneCell']) (by have := HTL.out; unfold maxLen; omega) (by have := HTL.out; omega) (by rw [HWB.out, HWA.out]; simp; omega)
      refine append_step (v := v4') (w1 := w2) (by rfl) (.tmp 51) (.tmp 54) 63 rfl v4 (.slice (some ⟨wA.heap.size, 0, none⟩) 1 1) rfl rfl hrun ?_
      have hg4' : ((wd.alloc (.cells (zI m) 3)).alloc (.cells #[.slice (some ⟨wd.heap.size, 0, none⟩) m m] 35)).grownBy w2 v4.ownBlock := by rw [← HWA.out, ← HWB.out]; exact hg4
      have hl4' : v4'.ownBlock = v4.ownBlock ∨ v4'.ownBlock = some ((wd.alloc (.cells (zI m) 3)).alloc (.cells #[.slice (some ⟨wd.heap.size, 0, none⟩) m m] 35)).heap.size := by rw [← HWA.out, ← HWB.out]; exact hl4
      obtain ⟨qg4, qc4, hu4, hq4, hq4x⟩ := ho4.form (by omega)
      subst hu4
      have hblk2 : w2.heap[r]? = _ := (hg4'.block r (by simp; omega) (fun e => (own_ne hNd.out.o4).elim (fun a => by rw [a] at e; cases e) (fun a => a e.symm))).trans (al_old (al_old hNd.out.blk))
      have hS1 : w2.cell? ⟨r, 4, none⟩ = some v4 := (cell_of hblk2).2 rfl
      have hz4 := Aside0.mk (frozen_of_row w2 r 4 _ _ hblk2)
      have HN4 := Aside0.mk (hNd.out.step4 _ ho4 hg4' hl4')
      have HB4 : Aside0 (Below w.heap.size w (w2.setCell ⟨r, 4, none⟩ (.slice (some ⟨qg4, 0, none⟩) (tl.length + 1) qc4))) := ⟨by
        have hb0 := hBd.out
        have hs0 := hb0.size
        have hr0 := HR0.out
        have : Below w.heap.size w w2 := ⟨hg4'.os.trans hb0.os, hg4'.tape.trans hb0.tape, hg4'.output.trans hb0.output, by have := hg4'.size; simp at this; omega, fun q hq => (hg4'.block q (by simp; omega) (fun e => by have := (hNd.out.o4.lt q e.symm).1; omega)).trans ((Below.heap_alloc _ _ q (by simp; omega)).trans ((Below.heap_alloc wd _ q (by omega)).trans (hb0.block q hq)))⟩
        exact this.setCell (p := ⟨r, 4, none⟩) hr0 _⟩
      clear hrun ho4 hg4 hl4 hg4' hl4' hq4 hq4x hblk2 hown4 hlr hai haz has hab ai
      refine hK.out _ _ (by exact hS1) (fun hHeld => ?_)
      clear hK K
      refine norm_ (a' := ?_) ?_ ?_
      rotate_left
      · first
        | (show Act.put _ (some 55) _ = _; simp only [Act.put, List.setIfInBounds_toArray, List.set_cons_zero, List.set_cons_succ, i64_w, i32_w]; rfl)
        | rfl
      refine pure_ (i := 9) (N := some 56) (v := ?_) (a' := ?_) #[true, true, true, true, true, true, true, true, true, true, false, false] rfl rfl (any_of HT_.out (by kernel_rfl)) (fun _ _ _ h => h) (Or.inl ⟨by rfl, ?_⟩) ?_ ?_
      rotate_left
      · intro w'
        go_simp
        with_reducible rfl
      rotate_left
      · simp only [Act.put, List.setIfInBounds_toArray, List.set_cons_zero, List.set_cons_succ, i64_w, i32_w]
        rfl
      refine pure_ (i := 10) (N := some 57) (v := ?_) (a' := ?_) #[true, true, true, true, true, true, true, true, true, true, true, false] rfl rfl (any_of HT_.out (by kernel_rfl)) (fun _ _ _ h => h) (Or.inl ⟨by rfl, ?_⟩) ?_ ?_
      rotate_left
      · intro w'
        go_simp
        with_reducible rfl
      rotate_left
      · simp only [Act.put, List.setIfInBounds_toArray, List.set_cons_zero, List.set_cons_succ, i64_w, i32_w]
        rfl
      refine last_ (i := 11) (N := none) #[true, true, true, true, true, true, true, true, true, true, true, true] rfl rfl (one_of HT_.out (by kernel_rfl)) (by decide) (fun K hK => ?_)
      have y4 := hHeld
      have z4 := hz4.out
      refine skip_ (w1 := ?_) (by rfl) rfl ?_ ?_
      rotate_left
      · go_simp
        rfl
      clear y4 z4
      refine hK.out _ _ ?_
      clear hK K
      refine norm_ (a' := ?_) ?_ ?_
      rotate_left
      · first
        | (show Act.put _ none _ = _; simp only [Act.put, List.setIfInBounds_toArray, List.set_cons_zero, List.set_cons_succ, i64_w, i32_w]; rfl)
        | rfl
      refine done_ (done_of HT_.out (by kernel_rfl)) ?_
      go_wp2
      go_roundw
      case rel => exact ⟨k + 1, _, _, _, _, tl ++ [wd.heap.size], by omega, by first | rfl | go_num, ⟨fun h => by omega⟩, ⟨by rw [List.length_append, HTL.out]; rfl⟩, HN4, HB4⟩
      case measure => simp [intOf]; omega
    · obtain rfl : n = k := by omega
      have HLN := Aside0.mk HTL.out
      obtain ⟨f0, f1, f2, f4⟩ := HW.out.cu
      have f3 : wr.cell? ⟨r, 3, none⟩ = some (.slice none 0 0) := (cell_of HW.out.blk).2 rfl
      have z3 := HW.out.fz 3
      have hrl := (Array.getElem?_eq_some_iff.1 HW.out.blk).1
      have e0 : decide ((n : Int) < (n : Int)) = false := decide_eq_false (by omega)
      have f3' : (wr.alloc (.cells (zI m) 3)).cell? ⟨r, 3, none⟩ = some (.slice none 0 0) := (cell_of (al_old HW.out.blk)).2 rfl
      have z3' : (wr.alloc (.cells (zI m) 3)).frozen? ⟨r, 3, none⟩ = false := frozen_of_row _ r 3 _ _ (al_old HW.out.blk)
      go_wp2
      go_ret
      refine ⟨r, v0, v1, v2, v4, tl, wr.heap.size, rfl, HR0.out, ?_, wr, HW.out, HNL.out, HLN.out, rfl, rfl⟩
      exact below_step (HB.out.setCell (p := ⟨r, 3, none⟩) HR0.out _) ((Below.refl _ _).alloc (Nat.le_refl _) _)
end Go.Proofs.Ytaheoifjihkipaa.As
