/- What calls of Go functions of this seat come to, as the rows need it: under the conditions that each theorem names. -/
import Derived.Test.YtebjibkgefgalaaDoorRefI
import Derived.Test.YtebjibkgefgalaaDoorShaG
import Derived.Test.YtebjibkgefgalaaDoorShaG
import Derived.Deep.RegionWith
import Derived.Test.YtebjibkgefgalaaDoorWTab
import Derived.Test.YtebjibkgefgalaaDoorWLast
namespace Go.Proofs.YtebjibkgefgalaaDoor.Ref
open Go.RowKit Go.Proofs.YtebjibkgefgalaaDoorW.PrintWords Go.Proofs.YtebjibkgefgalaaDoorW.PrintLast Go.Proofs.YtebjibkgefgalaaDoorW.PrintMore
set_option linter.unusedVariables false
set_option linter.unusedSimpArgs false
open Go.Proofs.YtebjibkgefgalaaDoor.Sha
theorem rd_get {l m : List Int} {i : Nat} (h : l[i]? = m[i]?) : rd l (i : Int) = rd m (i : Int) := by
  unfold rd
  rw [List.getD_eq_getElem?_getD, List.getD_eq_getElem?_getD, Int.toNat_natCast, h]
theorem ld_congr {l m : List Int} (h : ∀ i : Nat, i < 64 → l[i]? = m[i]?) : ∀ t, t ≤ 16 → ld l t = ld m t
  | 0, _ => rfl
  | t + 1, ht => by
    unfold ld
    rw [ld_congr h t (by omega), rd_get (h (4 * t) (by omega)), rd_get (h (4 * t + 1) (by omega)), rd_get (h (4 * t + 2) (by omega)), rd_get (h (4 * t + 3) (by omega))]
theorem sch_congr {l m : List Int} (h : ld l 16 = ld m 16) (n : Nat) : sch l n = sch m n := by
  induction n with
  | zero => exact h
  | succ n ih => unfold sch; rw [ih]
theorem blockI_get (s : S8) {l m : List Int} (h : ∀ i : Nat, i < 64 → l[i]? = m[i]?) : blockI s l = blockI s m := by
  unfold blockI
  rw [sch_congr (ld_congr h 16 (Nat.le_refl _))]
theorem padL_eq (l : List Int) : padL l = l.take (64 * (l.length / 64)) ++ tailL l := by
  unfold padL tailL
  simp only [← List.append_assoc, List.take_append_drop]
theorem blocks_low (s : S8) (l : List Int) : ∀ k, k ≤ l.length / 64 → blocksI s (padL l) k = blocksI s l k
  | 0, _ => rfl
  | k + 1, hk => by
    unfold blocksI
    rw [blocks_low s l k (by omega)]
    refine blockI_get _ (fun i hi => ?_)
    rw [List.getElem?_drop, List.getElem?_drop]
    unfold padL
    rw [List.append_assoc, List.append_assoc, List.getElem?_append_left (by omega)]
theorem blocks_high (s : S8) (l : List Int) : ∀ j, blocksI s (padL l) (l.length / 64 + j) = blocksI (blocksI s l (l.length / 64)) (tailL l) j
  | 0 => blocks_low s l _ (Nat.le_refl _)
  | j + 1 => by
    show blockI (blocksI s (padL l) (l.length / 64 + j)) ((padL l).drop (64 * (l.length / 64 + j))) = blockI (blocksI _ (tailL l) j) ((tailL l).drop (64 * j))
    rw [blocks_high s l j, padL_eq, Nat.mul_add, ← List.drop_drop, List.drop_left' (by rw [List.length_take]; omega)]
theorem shaR (l : List Int) : shaI l = outs (blocksI fS (padL l) ((padL l).length / 64)) 32 := by
  have h : (padL l).length / 64 = l.length / 64 + (tailL l).length / 64 := by
    rw [padL_eq, List.length_append, List.length_take]
    omega
  rw [h, blocks_high]
  rfl
theorem blocks_rng {s : S8} (h : rng8 s) (l : List Int) : ∀ k, rng8 (blocksI s l k)
  | 0 => h
  | _ + 1 => mix_rng _ _
theorem infoKT : (Tryd.prog.info? 48).map (·.size) = some (cw kTab).size := by kernel_rfl
/-- What a sum has in memory. -/
structure Sr (w0 w : World) (d : List Int) (s : S8) : Prop where
  s : w.heap[w0.heap.size]? = some (.cells (c8 s) 47 (0, 0))
  k : w.heap[w0.heap.size + 1]? = some (.cells (cw kTab) 48 (0, 0))
  d : w.heap[w0.heap.size + 1 + 1]? = some (.cells (cb d) 41 (0, 0))
  b : Below w0.heap.size w0 w
theorem Sr.below {w0 w w' : World} {d : List Int} {s : S8} (h : Sr w0 w d s) (hb : Below w.heap.size w w') : Sr w0 w' d s := ⟨heap_keep h.s hb, heap_keep h.k hb, heap_keep h.d hb, below_step h.b hb⟩
theorem Sr.drew {w0 w : World} {d : List Int} {s : S8} (h : Sr w0 w d s) : Sr w0 w.drew d s := ⟨h.s, h.k, h.d, below_drew1 h.b⟩
theorem Sr.row {w0 w : World} {d : List Int} {s : S8} (h : Sr w0 w d s) (r : S8) : Sr w0 (w.setRow w0.heap.size (c8 r)) d r :=
  ⟨setRow_heap _ _ _ _ _ _ h.s, (setRow_other _ _ _ _ (by omega)).trans h.k, (setRow_other _ _ _ _ (by omega)).trans h.d, below_setRow h.b (Nat.le_refl _) _⟩
theorem Sr.far {w0 w : World} {d : List Int} {s : S8} (h : Sr w0 w d s) (g j : Nat) (hg : w0.heap.size + 1 + 1 < g) (v : Value) : Sr w0 (w.setCell ⟨g, j, none⟩ v) d s :=
  ⟨blk_far h.s (p := ⟨g, j, none⟩) (by show _ ≠ g; omega) _, blk_far h.k (p := ⟨g, j, none⟩) (by show _ ≠ g; omega) _, blk_far h.d (p := ⟨g, j, none⟩) (by show _ ≠ g; omega) _, h.b.setCell (p := ⟨g, j, none⟩) (by show w0.heap.size ≤ g; omega) _⟩
theorem Sr.start (w : World) (s : S8) : Sr w (((w.alloc (.cells (c8 s) 47)).alloc (.cells (cw kTab) 48)).alloc (.cells (cb (List.replicate 32 0)) 41)) (List.replicate 32 0) s :=
  ⟨by rw [Below.heap_alloc _ _ _ (by first | (simp; done) | (simp; omega)), Below.heap_alloc _ _ _ (by first | (simp; done) | (simp; omega))]; exact Sha.heap_new _ _, by rw [Below.heap_alloc _ _ _ (by first | (simp; done) | (simp; omega))]; exact Sha.heap_new' _ _ _ (by simp), Sha.heap_new' _ _ _ (by simp), (((Below.refl w.heap.size w).alloc (Nat.le_refl _) _).alloc (by first | (simp; done) | (simp; omega)) _).alloc (by first | (simp; done) | (simp; omega)) _⟩
/-- And the block of what is told. -/
structure So (w0 w : World) (gg : Nat) (o : List Int) (s : S8) : Prop where
  r : Sr w0 w (List.replicate 32 0) s
  o : w.heap[gg]? = some (.cells (cb o) 41 (0, 0))
  lt : w0.heap.size + 1 + 1 < gg
theorem So.set {w0 w : World} {gg : Nat} {o : List Int} {s : S8} (h : So w0 w gg o s) (j : Nat) (x : Int) : So w0 (w.setCell ⟨gg, j, none⟩ (.int .u8 x)) gg (o.set j x) s :=
  ⟨h.r.far gg j h.lt _, by rw [← cb_set]; exact blk_set h.o j _, h.lt⟩
theorem So.start {w0 w : World} {s : S8} (h : Sr w0 w (List.replicate 32 0) s) : So w0 (w.alloc (.cells (cb (List.replicate 32 0)) 41)) w.heap.size (List.replicate 32 0) s :=
  ⟨h.below ((Below.refl w.heap.size w).alloc (Nat.le_refl _) _), heap_new _ _, (Array.getElem?_eq_some_iff.1 h.d).1⟩
def rs_T5 : Bool × List (List Nat × List Nat) := (true, [([], []), ([], []), ([], []), ([], []), ([], []), ([4], [4]), ([2, 3, 5], [2, 3, 5]), ([0, 1, 6], [0, 1, 6]), ([7, 7, 0, 1, 2, 3, 4, 5, 6, 7], [7])])
def rs_B5 : List Nat := [0, 0, 0, 0, 0, 16, 60, 127, 255]
theorem rs_tab5 : rtab .any (opsOf Tryd.f23 5) = rs_T5 := by kernel_rfl
theorem rs_bits5 : waitsOk rs_T5.2 rs_B5 = true := by kernel_rfl
set_option maxHeartbeats 3200000 in
set_option maxRecDepth 100000 in
theorem rsum_calls (s : S8) (hs : rng8 s) (A : Option Addr) (c : Nat) (l : List Int) (w : World) (hr : B.C w A l.length l) (hc : l.length ≤ c) (hb : Sha.bytes l) (hl : l.length < 100000000) :
    Calls Tryd.prog 23 #[v8 s, .agg (cw kTab), .slice A l.length c] w fun e w' => e = .returned (vd (outs (blocksI s (padL l) ((padL l).length / 64)) 32)) ∧ Below w.heap.size w w' := by
  have HR := Aside0.mk hr
  have HY := Aside0.mk (padL_bytes hb)
  have HRS := Aside0.mk hs
  have HPM := Aside0.mk (padL_mod l)
  have HPL := Aside0.mk (show (padL l).length ≤ l.length + 100 by rw [padL_len]; unfold zerosN; omega)
  have HPC := Aside0.mk (fun w' hw => padded_calls A c l w' hw hc hl)
  clear hr hb hs
  generalize hRz : outs (blocksI s (padL l) ((padL l).length / 64)) 32 = D
  have HRZ := Aside0.mk hRz
  clear hRz
  obtain ⟨s0, s1, s2, s3, s4, s5, s6, s7⟩ := s
  have HST := Aside0.mk (Sr.start w (s0, s1, s2, s3, s4, s5, s6, s7))
  have HKA := Aside0.mk (show (cw kTab).size = 64 from by kernel_rfl)
  generalize hKT : cw kTab = KT at HST HKA ⊢
  go_enter Tryd.func23, Tryd.ntmps23
  go_upto_region 1 with (fail)
  subst hKT
  obtain ⟨w1, hw1, HS⟩ : ∃ w1, ((w.alloc (.cells (c8 (s0, s1, s2, s3, s4, s5, s6, s7)) 47)).alloc (.cells (cw kTab) 48)).alloc (.cells (cb (List.replicate 32 0)) 41) = w1 ∧ Aside0 (Sr w w1 (List.replicate 32 0) (s0, s1, s2, s3, s4, s5, s6, s7)) := ⟨_, rfl, HST⟩
  have hw1' : ((w.alloc (.cells #[.int .u32 s0, .int .u32 s1, .int .u32 s2, .int .u32 s3, .int .u32 s4, .int .u32 s5, .int .u32 s6, .int .u32 s7] 47)).alloc (.cells (cw kTab) 48)).alloc (.cells #[.int .u8 0, .int .u8 0, .int .u8 0, .int .u8 0, .int .u8 0, .int .u8 0, .int .u8 0, .int .u8 0, .int .u8 0, .int .u8 0, .int .u8 0, .int .u8 0, .int .u8 0, .int .u8 0, .int .u8 0, .int .u8 0, .int .u8 0, .int .u8 0, .int .u8 0, .int .u8 0, .int .u8 0, .int .u8 0, .int .u8 0, .int .u8 0, .int .u8 0, .int .u8 0, .int .u8 0, .int .u8 0, .int .u8 0, .int .u8 0, .int .u8 0, .int .u8 0] 41) = w1 := hw1
  first | rw [hw1'] | rw [hw1]
  clear hw1 hw1' HST
  generalize hs : ((s0, s1, s2, s3, s4, s5, s6, s7) : S8) = s at HS HRS HRZ ⊢
  clear hs
  go_wp2_with fail
  refine (HPC.out _ (Kd.C_below HR.out HS.out.b)).mono ?_
  rintro e w2 ⟨v, rfl, hP, hb⟩
  have hlo : w.heap.size + 1 + 1 < w1.heap.size := (Array.getElem?_eq_some_iff.1 HS.out.d).1
  replace HS := Aside0.mk (HS.out.below hb)
  clear hb HPC
  generalize padL l = p at *
  obtain ⟨A5, c5, rfl, hc5, hr5⟩ := Kd.R_reads hP
  have HRW := Aside0.mk (Rw.of hP)
  generalize w2.heap.size = hi at HRW
  generalize w1.heap.size = lo at HRW hlo
  clear hr5 hP HR
  have HLO := Aside0.mk hlo
  have hp63 : p.length ≤ l.length + 100 := HPL.out
  clear hlo HPL
  obtain ⟨n, hn⟩ : ∃ n, p.length / 64 = n := ⟨_, rfl⟩
  have HPN := Aside0.mk (show p.length = 64 * n by have := HPM.out; omega)
  have HNN := Aside0.mk hn
  clear hn HPM
  go_wp2
  go_loopw [8] (fun i wr => ∃ k q : Nat, k ≤ n ∧ Aside0 (q = 64 * k) ∧ i = .int .i64 (q : Int) ∧ Aside0 (Sr w wr (List.replicate 32 0) (blocksI s p k)) ∧ Aside0 (Rw wr A5 p lo hi)) (fun i _ => p.length + 100 - (intOf i).toNat)
  case atStart => exact ⟨0, 0, Nat.zero_le _, ⟨rfl⟩, rfl, HS, HRW⟩
  case round =>
    clear HS HRW
    obtain ⟨k, q, hk, HQ, rfl, HS, HRW⟩ := hrel
    by_cases hlt : k < n
    · have hqp : q < p.length := by have := HQ.out; have := HPN.out; omega
      obtain ⟨q2, hq2⟩ : ∃ q2, q2 = q + 64 := ⟨_, rfl⟩
      have hq2p : q2 ≤ p.length := by have := HQ.out; have := HPN.out; omega
      have HW := Aside0.mk (show IntKind.i64.wrap ((q : Int) + 64) = (q2 : Int) by simp [IntKind.wrap, IntKind.bits, IntKind.signed]; omega)
      have HQ2 := Aside0.mk (show q2 = 64 * (k + 1) by have := HQ.out; omega)
      obtain ⟨A2, c2, hcut, hcc, hc2⟩ := midB A5 c5 p q q2 (by omega) hq2p hc5
      have HCUT := Aside0.mk hcut
      have HCC := Aside0.mk hcc
      have HML := Aside0.mk (show 64 ≤ ((p.take q2).drop q).length by rw [List.length_drop, List.length_take]; omega)
      have HMB := Aside0.mk (show Sha.bytes ((p.take q2).drop q) from fun x hx => HY.out x (List.mem_of_mem_take (List.mem_of_mem_drop hx)))
      have HBK := Aside0.mk (show blocksI s p (k + 1) = blockI (blocksI s p k) ((p.take q2).drop q) by
        rw [show blocksI s p (k + 1) = blockI (blocksI s p k) (p.drop (64 * k)) from rfl, ← HQ.out]
        refine blockI_get _ (fun i hi => ?_)
        rw [List.getElem?_drop, List.getElem?_drop, List.getElem?_take, if_pos (by omega)])
      have HRR := Aside0.mk (blocks_rng HRS.out p k)
      have H2 := Aside0.mk hq2
      clear hcut hcc hq2
      generalize (p.take q2).drop q = m at *
      generalize blocksI s p k = r at HS HBK HRR
      have hS0 : wr.drew.heap = wr.heap := rfl
      go_upto_region 5 with (fail)
      refine start_ (n := 9) (S := fun w' => w'.heap = wr.heap) (ds := [7,8]) #[false, false, false, false, false, false, false, false, false] (by kernel_rfl) rfl rfl (by exact hS0) (fun hHeld => ?_)
      refine with_tabW rs_tab5 rs_bits5 (fun HT_ HW_ => ?_)
      refine take_ (i := 0) (N := some 19) (v := ?_) (a' := ?_) #[true, false, false, false, false, false, false, false, false] rfl rfl (take_ofW HT_.out HW_.out (by kernel_rfl)) (fun _ _ _ h => h) (Or.inl ⟨by rfl, ?_⟩) hHeld ?_ ?_
      rotate_left
      · intro w' hSt
        refine (exec_load (p := .pointer (some ⟨w.heap.size, 0, none⟩)) rfl rfl (loadRow_take _ _ _ (c8 r) _ (by rw [hSt]; exact HS.out.s) Tryd.underlying47 rfl infoS)).trans ?_
        with_reducible rfl
      rotate_left
      · simp only [Act.put, List.setIfInBounds_toArray, List.set_cons_zero, List.set_cons_succ, i64_w, i32_w]
        rfl
      refine take_ (i := 1) (N := some 20) (v := ?_) (a' := ?_) #[true, true, false, false, false, false, false, false, false] rfl rfl (take_ofW HT_.out HW_.out (by kernel_rfl)) (fun _ _ _ h => h) (Or.inl ⟨by rfl, ?_⟩) hHeld ?_ ?_
      rotate_left
      · intro w' hSt
        refine (exec_load (p := .pointer (some ⟨w.heap.size + 1, 0, none⟩)) rfl rfl (loadRow_take _ _ _ _ _ (by rw [hSt]; exact HS.out.k) Tryd.underlying48 rfl infoKT)).trans ?_
        with_reducible rfl
      rotate_left
      · simp only [Act.put, List.setIfInBounds_toArray, List.set_cons_zero, List.set_cons_succ, i64_w, i32_w]
        rfl
      refine pure_ (i := 2) (N := some 21) (v := ?_) (a' := ?_) #[true, true, true, false, false, false, false, false, false] rfl rfl (any_of HT_.out (by kernel_rfl)) (fun _ _ _ h => h) (Or.inl ⟨by rfl, ?_⟩) ?_ ?_
      rotate_left
      · intro w'
        go_simp
        with_reducible rfl
      rotate_left
      · simp only [Act.put, List.setIfInBounds_toArray, List.set_cons_zero, List.set_cons_succ, i64_w, i32_w]
        rfl
      refine pure_ (i := 3) (N := some 22) (v := ?_) (a' := ?_) #[true, true, true, true, false, false, false, false, false] rfl rfl (any_of HT_.out (by kernel_rfl)) (fun _ _ _ h => h) (Or.inl ⟨by rfl, ?_⟩) ?_ ?_
      rotate_left
      · intro w'
        go_simp
        with_reducible rfl
      rotate_left
      · simp only [Act.put, List.setIfInBounds_toArray, List.set_cons_zero, List.set_cons_succ, i64_w, i32_w]
        rfl
      refine pure_ (i := 4) (N := some 23) (v := ?_) (a' := ?_) #[true, true, true, true, true, false, false, false, false] rfl rfl (any_of HT_.out (by kernel_rfl)) (fun _ _ _ h => h) (Or.inl ⟨by rfl, ?_⟩) ?_ ?_
      rotate_left
      · intro w'
        go_simp
        with_reducible rfl
      rotate_left
      · simp only [Act.put, List.setIfInBounds_toArray, List.set_cons_zero, List.set_cons_succ, i64_w, i32_w]
        rfl
      refine pure_ (i := 5) (N := some 24) (v := ?_) (a' := ?_) #[true, true, true, true, true, true, false, false, false] rfl rfl (any_of HT_.out (by kernel_rfl)) (fun _ _ _ h => h) (Or.inl ⟨by rfl, ?_⟩) ?_ ?_
      rotate_left
      · intro w'
        go_simp
        rw [HW.out]
      rotate_left
      · simp only [Act.put, List.setIfInBounds_toArray, List.set_cons_zero, List.set_cons_succ, i64_w, i32_w]
        rfl
      refine pure_ (i := 6) (N := some 25) (v := ?_) (a' := ?_) #[true, true, true, true, true, true, true, false, false] rfl rfl (any_of HT_.out (by kernel_rfl)) (fun _ _ _ h => h) (Or.inl ⟨by rfl, ?_⟩) ?_ ?_
      rotate_left
      · intro w'
        have hcut := HCUT.out
        go_simp
        with_reducible rfl
      rotate_left
      · simp only [Act.put, List.setIfInBounds_toArray, List.set_cons_zero, List.set_cons_succ, i64_w, i32_w]
        rfl
      refine last_ (i := 7) (N := some 26) #[true, true, true, true, true, true, true, true, false] rfl rfl (one_of HT_.out (by kernel_rfl)) (by decide) (fun K hK => ?_)
      refine goes_ Tryd.func33 (by kernel_rfl) rfl #[v8 r, .agg (cw kTab), .slice A2 m.length c2] (by rfl) rfl rfl (by (try simp only [List.map_toArray, List.map_cons, List.map_nil]); first | done | rfl) ?_
      refine (block_calls r HRR.out A2 c2 m _ (HCC.out _ (HRW.out.below (below_drew1 (Below.refl _ _))).C) hc2 HMB.out HML.out).mono ?_
      rintro e w3 ⟨rfl, hb⟩
      refine ⟨_, rfl, ?_⟩
      rw [← HBK.out]
      replace HS := Aside0.mk ((HS.out.drew).below hb)
      replace HRW := Aside0.mk ((HRW.out.below (below_drew1 (Below.refl _ _))).below hb)
      refine hK.out _ _ ?_
      clear hK K
      refine norm_ (a' := ?_) ?_ ?_
      rotate_left
      · first
        | (show Act.put _ (some 26) _ = _; simp only [Act.put, List.setIfInBounds_toArray, List.set_cons_zero, List.set_cons_succ, i64_w, i32_w]; rfl)
        | rfl
      refine last_ (i := 8) (N := none) #[true, true, true, true, true, true, true, true, true] rfl rfl (one_of HT_.out (by kernel_rfl)) (by decide) (fun K hK => ?_)
      refine storeRow_step (by rfl) 47 (.tmp 3) (.tmp 26) rfl w.heap.size (c8 (blocksI s p (k + 1))) rfl rfl 47 _ HS.out.s infoS rfl (c8_one _) ?_
      refine hK.out _ _ ?_
      clear hK K
      refine norm_ (a' := ?_) ?_ ?_
      rotate_left
      · first
        | (show Act.put _ none _ = _; simp only [Act.put, List.setIfInBounds_toArray, List.set_cons_zero, List.set_cons_succ, i64_w, i32_w]; rfl)
        | rfl
      refine done_ (done_of HT_.out (by kernel_rfl)) ?_
      clear hS0 hHeld HT_ HW_
      replace HS := Aside0.mk (HS.out.row (blocksI s p (k + 1)))
      replace HRW := Aside0.mk (HRW.out.row w.heap.size (c8 (blocksI s p (k + 1))) (by have := HLO.out; omega))
      clear HBK HRR HMB HML HCC HCUT HW
      generalize World.setRow _ _ _ = w7 at HS HRW ⊢
      go_wp2
      go_roundw
      case rel => exact ⟨k + 1, q2, by omega, HQ2, by rw [H2.out]; go_num, HS, HRW⟩
      case measure => simp [intOf]; have := H2.out; omega
    · obtain rfl : k = n := by omega
      have hqp : q = p.length := by have := HQ.out; have := HPN.out; omega
      have e1 : ¬ q < p.length := by omega
      have HE := Aside0.mk (show outs (blocksI s p k) 32 = D by rw [← HRZ.out, HNN.out])
      generalize blocksI s p k = r at HS HE
      clear hlt hk hqp HRZ HRW HNN HPN HQ HRS HY
      go_upto_region 7 with (fail)
      obtain ⟨w9, hw9, HSO⟩ : ∃ w9, wr.alloc (.cells #[.int .u8 0, .int .u8 0, .int .u8 0, .int .u8 0, .int .u8 0, .int .u8 0, .int .u8 0, .int .u8 0, .int .u8 0, .int .u8 0, .int .u8 0, .int .u8 0, .int .u8 0, .int .u8 0, .int .u8 0, .int .u8 0, .int .u8 0, .int .u8 0, .int .u8 0, .int .u8 0, .int .u8 0, .int .u8 0, .int .u8 0, .int .u8 0, .int .u8 0, .int .u8 0, .int .u8 0, .int .u8 0, .int .u8 0, .int .u8 0, .int .u8 0, .int .u8 0] 41) = w9 ∧ Aside0 (So w w9 wr.heap.size (List.replicate 32 0) r) := ⟨_, rfl, ⟨So.start HS.out⟩⟩
      rw [hw9]
      generalize wr.heap.size = gg at HSO ⊢
      clear hw9 HS e1
      go_wp2
      go_loopw [10] (fun i wr => ∃ k : Nat, k ≤ 32 ∧ i = .int .i64 (k : Int) ∧ Aside0 (So w wr gg (outs r k) r)) (fun i _ => 32 - (intOf i).toNat)
      case atStart => exact ⟨0, Nat.zero_le _, rfl, HSO⟩
      case round =>
        clear HSO
        obtain ⟨j, hj, rfl, HS⟩ := hrel
        by_cases hlt : j < 32
        · have hk32 : (j : Int) < 32 := by omega
          have HN := Aside0.mk (show outs r (j + 1) = (outs r j).set j (byteI r j) from rfl)
          have HV := Aside0.mk (show byteI r j = IntKind.u8.wrap (wd r (j / 4) / 2 ^ (24 - 8 * (j % 4))) from rfl)
          generalize byteI r j = bv at HN HV
          obtain ⟨q1, hq0⟩ : ∃ q, q = j / 4 := ⟨_, rfl⟩
          obtain ⟨m, hm0⟩ : ∃ m, m = j % 4 := ⟨_, rfl⟩
          obtain ⟨a, ha0⟩ : ∃ a, a = 24 - 8 * m := ⟨_, rfl⟩
          rw [← hq0, ← hm0, ← ha0] at HV
          have hq : (j : Int) / 4 = (q1 : Int) := by omega
          have hm : (j : Int) % 4 = (m : Int) := by omega
          have hm3 : m ≤ 3 := by omega
          have hq8 : (q1 : Int) < 8 := by omega
          have ha : 24 - 8 * (m : Int) = (a : Int) := by omega
          have hx := (cell_of HS.out.r.s).2 (c8_wd r q1 (by omega))
          have hd := (cell_of HS.out.o).2 (cb_get (xs := outs r j) (j := j) (by rw [outs_len]; omega))
          have hf : wr.frozen? ⟨gg, j, none⟩ = false := by simp [World.frozen?, HS.out.o]
          have ha24 : (a : Int) ≤ 32 := by omega
          have ha1 : a ≤ 32 := by omega
          generalize wd r q1 = v at HV hx
          generalize rd (outs r j) (j : Int) = dv at hd
          clear hq0 hm0 ha0
          go_wp2
          go_roundw
          case rel => exact ⟨j + 1, by omega, by go_num, ⟨by rw [HN.out, HV.out]; exact HS.out.set j _⟩⟩
          case measure => simp [intOf]; omega
        · obtain rfl : j = 32 := by omega
          clear hlt hj
          have hi : (Tryd.prog.info? 41).map (·.size) = some (cb (outs r 32)).size := infoDg _ (outs_len _ _)
          have hsz : (cb (List.replicate 32 0)).size = (cb (outs r 32)).size := by rw [cb_size, cb_size, outs_len]; simp
          rw [HE.out] at HS hi hsz
          have HI := Aside0.mk hi
          have HSZ := Aside0.mk hsz
          clear hi hsz
          rw [show ((32 : Nat) : Int) = 32 from rfl]
          go_wp2_with (first | (refine wpList_load_row rfl 41 (.tmp 9) rfl gg rfl 41 (cb D) (0, 0) _ HS.out.o Tryd.underlying41 rfl HI.out ?_) | (refine wpList_store_row rfl 41 (.tmp 6) (.tmp 44) rfl (w.heap.size + 1 + 1) (cb D) rfl rfl 41 _ HS.out.r.d HI.out HSZ.out (cb_one _) ?_))
          have HF := Aside0.mk (setRow_heap _ _ _ (cb D) _ _ HS.out.r.d)
          have HB := Aside0.mk (below_setRow HS.out.r.b (show w.heap.size ≤ w.heap.size + 1 + 1 by omega) (cb D))
          (try simp only [Exit.inBlock, Exit.then])
          refine bodyPost_ret (results_cell_row rfl _ _ (w.heap.size + 1 + 1) 41 (cb D) (0, 0) _ rfl HF.out Tryd.underlying41 rfl HI.out) rfl ?_
          exact ⟨rfl, HB.out⟩
end Go.Proofs.YtebjibkgefgalaaDoor.Ref
