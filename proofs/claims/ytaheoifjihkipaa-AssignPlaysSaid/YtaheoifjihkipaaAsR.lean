/- What calls of Go functions of this seat come to, as the rows need it: under the conditions that each theorem names. -/
import Derived.Test.YtaheoifjihkipaaAsQ
namespace Go.Proofs.Ytaheoifjihkipaa.As
open Go.RowKit Go.Proofs.YtaheoifjihkipaaW.PrintWords Go.Proofs.YtaheoifjihkipaaW.PrintLast Go.Proofs.YtaheoifjihkipaaW.PrintMore
set_option linter.unusedVariables false
set_option linter.unusedSimpArgs false
theorem lateGood_put {n m : Nat} {S : Nat → U} {D : Nat → Int} {B now : Int} (h : Good n m S D B) (i : Nat) (hi : i < n) (k : Nat) (hk : k < m) (hn : -1152921504606846976 ≤ now ∧ now ≤ 1152921504606846976) : Good n m (upd S i (1, (k : Int), now)) D B := by
  refine ⟨fun j hj hs => ?_, h.2⟩
  by_cases e : j = i
  · subst e
    rw [upd_same]
    exact ⟨⟨by show (0 : Int) ≤ k; omega, by show (k : Int) < m; omega⟩, hn.1, hn.2⟩
  · rw [upd_other _ _ _ _ e] at hs ⊢
    exact h.1 j hj hs
def NxS (w : World) (p gm i k : Nat) (x : Int) (w' : World) : Prop := w'.cell? ⟨p, 2, none⟩ = some (.map (some gm)) ∧ (Instr.lookup 49 (.map (some gm)) (.agg #[.int .i64 (i : Int), .int .i64 (k : Int)]) false).run Try.prog w' = .ok (.int .i64 x) w' ∧ w.grownBy w' (some gm)
theorem PW.next {w : World} {p gc gd gm cc cd n m c c' : Nat} {win tm : Int} {S S' : Nat → U} {D D' : Nat → Int} {T T' : Nat → Nat → Int} {B : Int} (h : PW w p gc gd gm cc cd n m win tm c (S, D, T)) {w' : World} (hpl : Pl w' p gc gd gm cc cd n m win tm S' D') (hm : Tm w' gm c' T') (hg : Good n m S' D' B) (hB : B ≤ 200 * c + n) (hc : c' ≤ c + 1)
    (ht : ∀ i k, 0 ≤ T' i k ∧ T' i k ≤ c + 1) : PW w' p gc gd gm cc cd n m win tm (c + 1) (S', D', T') :=
  ⟨hpl, hm.more hc, ⟨hg.1, fun k => ⟨(hg.2 k).1, by have := (hg.2 k).2; have := hpl.n1; show D' k ≤ _; omega⟩⟩, fun i k => by have := ht i k; show 0 ≤ T' i k ∧ T' i k ≤ _; omega, h.t1, h.t2⟩
def nx_T10 : Bool × List (List Nat × List Nat) := (true, [([], []), ([0], [0]), ([1], [1]), ([2], [2]), ([], []), ([], []), ([4, 5], [4, 5]), ([3, 6], [3, 6]), ([7], [7]), ([3, 6, 0, 1, 2, 3, 4, 5, 6], [3, 6]), ([9], [9]), ([3, 10, 8, 9, 0, 1, 2, 3, 4, 5, 6, 7, 8, 9, 10], [3, 8, 10])])
def nx_B10 : List Nat := [0, 1, 3, 7, 0, 0, 48, 127, 255, 127, 639, 2047]
theorem nx_tab10 : rtab .any (opsOf Try.f12 10) = nx_T10 := by kernel_rfl
theorem nx_bits10 : waitsOk nx_T10.2 nx_B10 = true := by kernel_rfl
set_option maxHeartbeats 3200000 in
set_option maxRecDepth 100000 in
theorem next_calls {p gc gd gm cc cd n m c : Nat} {win tm : Int} {s : St} (now : Int) (w : World) (h : PW w p gc gd gm cc cd n m win tm c s) (hc : c ≤ 4000000) (hnow : -1152921504606846976 ≤ now ∧ now ≤ 1152921504606846976) :
    Calls Try.prog 12 #[.pointer (some ⟨p, 0, none⟩), .int .i64 now] w fun e w' => e = .returned (.tuple #[.int .i64 (nextF now win tm n m s).1.1, .int .i64 (nextF now win tm n m s).1.2.1, .bool (nextF now win tm n m s).1.2.2]) ∧
      PW w' p gc gd gm cc cd n m win tm (c + 1) (nextF now win tm n m s).2 ∧ Chg gc gd gm w w' := by
  have H := Aside0.mk h
  have HN := Aside0.mk hnow
  have hm := h.pl.m1
  have hn := h.pl.n1
  clear h hnow
  obtain ⟨S, D, T⟩ := s
  go_enter Try.func12, Try.ntmps12
  go_wp2_with fail
  refine (ready_calls p gc gd gm cc cd n m win tm w H.out.pl.blk).mono ?_
  rintro e w1 ⟨rfl, hw⟩
  replace hw := hw.symm
  subst hw
  go_wp2_with fail
  refine (late_calls now w H.out.pl H.out.good (by omega) HN.out ⟨H.out.t1, H.out.t2⟩).mono ?_
  rintro e w1 ⟨⟨v, rfl⟩, hpl, hch⟩
  have HPL1 := Aside0.mk hpl
  have HTM1 := Aside0.mk (H.out.mp.chg hch hpl.e5 hpl.e6)
  have HCH1 := Aside0.mk (hch.wide (c := gm))
  have HGD := Aside0.mk (lateF_good H.out.good now tm n)
  have HF := Aside0.mk (show nextF now win tm n m (S, D, T) = if openF (lateF now tm S D n).1 n 0 < n ∧ 0 ≤ bestF (lateF now tm S D n).1 (lateF now tm S D n).2 T win n (openF (lateF now tm S D n).1 n 0) m then ((((openF (lateF now tm S D n).1 n 0 : Nat) : Int), bestF (lateF now tm S D n).1 (lateF now tm S D n).2 T win n (openF (lateF now tm S D n).1 n 0) m, true), (upd (lateF now tm S D n).1 (openF (lateF now tm S D n).1 n 0) (1, bestF (lateF now tm S D n).1 (lateF now tm S D n).2 T win n (openF (lateF now tm S D n).1 n 0) m, now), (lateF now tm S D n).2, updT T (openF (lateF now tm S D n).1 n 0) (bestF (lateF now tm S D n).1 (lateF now tm S D n).2 T win n (openF (lateF now tm S D n).1 n 0) m).toNat (T (openF (lateF now tm S D n).1 n 0) (bestF (lateF now tm S D n).1 (lateF now tm S D n).2 T win n (openF (lateF now tm S D n).1 n 0) m).toNat + 1))) else ((0, 0, false), ((lateF now tm S D n).1, (lateF now tm S D n).2, T)) from rfl)
  generalize (lateF now tm S D n).1 = S1 at HPL1 HGD HF
  generalize (lateF now tm S D n).2 = D1 at HPL1 HGD HF
  generalize hR : nextF now win tm n m (S, D, T) = R at HF ⊢
  replace hR := Aside0.mk hR
  have hc1 := HPL1.out.blk.c0
  clear hpl hch
  go_wp2_with fail
  refine (idxC_calls w1 HPL1.out.ch hn).mono ?_
  rintro e w2 ⟨r, rfl, hf, hb⟩
  have HPL := Aside0.mk (HPL1.out.below hb)
  have HTM := Aside0.mk (HTM1.out.below hb)
  have HCH := Aside0.mk (HCH1.out.trans (Chg.of_below hb))
  have HFS := Aside0.mk hf
  clear hb hf HPL1 HTM1 HCH1 hc1
  rcases HFS.out with ⟨rfl, hno⟩ | ⟨i, hi, rfl, hy, hno⟩
  · have hop := openF_none (S := S1) (n := n) (fun j hj => by have := hno j hj; simpa using this)
    have HF2 := Aside0.mk (HF.out.trans (if_neg (fun h => by omega)))
    clear hop hno HFS
    go_wp2
    go_ret3
    rw [hR.out, HF2.out]
    exact ⟨rfl, H.out.next HPL.out HTM.out HGD.out (by omega) (by omega) (fun a b => by have := H.out.tb a b; simp only [] at this; omega), HCH.out⟩
  have hop := openF_eq hi (by simpa using hy) (fun j hj => by have := hno j hj; simpa using this)
  have HF2 := HF.out
  rw [hop] at HF2
  clear HF HFS hno hy hop
  have HF := Aside0.mk HF2
  clear HF2
  have HBR := Aside0.mk (bestF_rng S1 D1 T win n i m)
  have e0 : decide ((i : Int) < 0) = false := decide_eq_false (by omega)
  go_wp2_with fail
  refine (best_calls i hi w2 HPL.out HTM.out).mono ?_
  rintro e w3 ⟨rfl, hb⟩
  have HPL' := Aside0.mk (HPL.out.below hb)
  have HTM' := Aside0.mk (HTM.out.below hb)
  have HCH' := Aside0.mk (HCH.out.trans (Chg.of_below hb))
  clear hb HPL HTM HCH
  have HPL := HPL'
  have HTM := HTM'
  have HCH := HCH'
  clear HPL' HTM' HCH'
  generalize bestF S1 D1 T win n i m = b at HF HBR ⊢
  by_cases hb0 : b < 0
  · have e1 : decide (b < 0) = true := decide_eq_true hb0
    have HF2 := Aside0.mk (HF.out.trans (if_neg (fun h => by omega)))
    clear hb0
    go_wp2
    go_ret3
    rw [hR.out, HF2.out]
    exact ⟨rfl, H.out.next HPL.out HTM.out HGD.out (by omega) (by omega) (fun a b => by have := H.out.tb a b; simp only [] at this; omega), HCH.out⟩
  have e1 : decide (b < 0) = false := decide_eq_false hb0
  obtain ⟨k, rfl⟩ := Int.eq_ofNat_of_zero_le (show 0 ≤ b by omega)
  have hk : k < m := by have := HBR.out; omega
  have HF2 := Aside0.mk (HF.out.trans (if_pos ⟨hi, by omega⟩))
  rw [Int.toNat_natCast] at HF2
  have htb := H.out.tb i k
  simp only [] at htb
  have hwr : Go.RowKit.wrap64 (T i k + 1) = T i k + 1 := by
    unfold Go.RowKit.wrap64
    omega
  have HWF := Aside0.mk (wf_i64 (x := T i k + 1) (by omega) (by omega))
  have HTB := Aside0.mk htb
  clear htb hb0 HF HBR
  go_upto_region 10 with (fail)
  have hS0 : NxS w3 p gm i k (T i k) w3.drew := ⟨HPL.out.blk.c2, (HTM.out.below (below_drew1 (Below.refl w3.heap.size w3))).look (i := i) (k := k) (by omega) (by omega), ⟨rfl, rfl, rfl, Nat.le_refl _, fun _ _ _ => rfl⟩⟩
  have hPd : Aside0 (Pl w3.drew p gc gd gm cc cd n m win tm S1 D1) := ⟨HPL.out.below (below_drew1 (Below.refl w3.heap.size w3))⟩
  have hCd : Aside0 (Chg gc gd gm w w3.drew) := ⟨HCH.out.trans (Chg.of_below (below_drew1 (Below.refl w3.heap.size w3)))⟩
  have hTd : Aside0 (Tm w3.drew gm c T) := ⟨HTM.out.below (below_drew1 (Below.refl w3.heap.size w3))⟩
  refine start_ (n := 12) (S := fun w' => NxS w3 p gm i k (T i k) w') (ds := [11]) #[false, false, false, false, false, false, false, false, false, false, false, false] (by kernel_rfl) rfl rfl (by exact hS0) (fun hHeld => ?_)
  refine with_tabW nx_tab10 nx_bits10 (fun HT_ HW_ => ?_)
  generalize w3.drew = wd at hHeld hS0 hTd hPd hCd ⊢
  refine pure_ (i := 0) (N := some 27) (v := ?_) (a' := ?_) #[true, false, false, false, false, false, false, false, false, false, false, false] rfl rfl (any_of HT_.out (by kernel_rfl)) (fun _ _ _ h => h) (Or.inl ⟨by rfl, ?_⟩) ?_ ?_
  rotate_left
  · intro w'
    go_simp
    with_reducible rfl
  rotate_left
  · simp only [Act.put, List.setIfInBounds_toArray, List.set_cons_zero, List.set_cons_succ, i64_w, i32_w]
    rfl
  refine pure_ (i := 1) (N := some 28) (v := ?_) (a' := ?_) #[true, true, false, false, false, false, false, false, false, false, false, false] rfl rfl (any_of HT_.out (by kernel_rfl)) (fun _ _ _ h => h) (Or.inl ⟨by rfl, ?_⟩) ?_ ?_
  rotate_left
  · intro w'
    go_simp
    with_reducible rfl
  rotate_left
  · simp only [Act.put, List.setIfInBounds_toArray, List.set_cons_zero, List.set_cons_succ, i64_w, i32_w]
    rfl
  refine pure_ (i := 2) (N := some 29) (v := ?_) (a' := ?_) #[true, true, true, false, false, false, false, false, false, false, false, false] rfl rfl (any_of HT_.out (by kernel_rfl)) (fun _ _ _ h => h) (Or.inl ⟨by rfl, ?_⟩) ?_ ?_
  rotate_left
  · intro w'
    go_simp
    with_reducible rfl
  rotate_left
  · simp only [Act.put, List.setIfInBounds_toArray, List.set_cons_zero, List.set_cons_succ, i64_w, i32_w]
    rfl
  refine take_ (i := 3) (N := some 30) (v := ?_) (a' := ?_) #[true, true, true, true, false, false, false, false, false, false, false, false] rfl rfl (take_ofW HT_.out HW_.out (by kernel_rfl)) (fun _ _ _ h => h) (Or.inl ⟨by rfl, ?_⟩) hHeld ?_ ?_
  rotate_left
  · intro w' hSt
    have hx0 := hSt.1
    go_simp
    with_reducible rfl
  rotate_left
  · simp only [Act.put, List.setIfInBounds_toArray, List.set_cons_zero, List.set_cons_succ, i64_w, i32_w]
    rfl
  refine pure_ (i := 4) (N := some 31) (v := ?_) (a' := ?_) #[true, true, true, true, true, false, false, false, false, false, false, false] rfl rfl (any_of HT_.out (by kernel_rfl)) (fun _ _ _ h => h) (Or.inl ⟨by rfl, ?_⟩) ?_ ?_
  rotate_left
  · intro w'
    go_simp
    with_reducible rfl
  rotate_left
  · simp only [Act.put, List.setIfInBounds_toArray, List.set_cons_zero, List.set_cons_succ, i64_w, i32_w]
    rfl
  refine pure_ (i := 5) (N := some 32) (v := ?_) (a' := ?_) #[true, true, true, true, true, true, false, false, false, false, false, false] rfl rfl (any_of HT_.out (by kernel_rfl)) (fun _ _ _ h => h) (Or.inl ⟨by rfl, ?_⟩) ?_ ?_
  rotate_left
  · intro w'
    go_simp
    with_reducible rfl
  rotate_left
  · simp only [Act.put, List.setIfInBounds_toArray, List.set_cons_zero, List.set_cons_succ, i64_w, i32_w]
    rfl
  refine pure_ (i := 6) (N := some 33) (v := ?_) (a' := ?_) #[true, true, true, true, true, true, true, false, false, false, false, false] rfl rfl (any_of HT_.out (by kernel_rfl)) (fun _ _ _ h => h) (Or.inl ⟨by rfl, ?_⟩) ?_ ?_
  rotate_left
  · intro w'
    go_simp
    with_reducible rfl
  rotate_left
  · simp only [Act.put, List.setIfInBounds_toArray, List.set_cons_zero, List.set_cons_succ, i64_w, i32_w]
    rfl
  refine take_ (i := 7) (N := some 34) (v := ?_) (a' := ?_) #[true, true, true, true, true, true, true, true, false, false, false, false] rfl rfl (take_ofW HT_.out HW_.out (by kernel_rfl)) (fun _ _ _ h => h) (Or.inl ⟨by rfl, ?_⟩) hHeld ?_ ?_
  rotate_left
  · intro w' hSt
    have hx0 := hSt.2.1
    go_simp
    with_reducible rfl
  rotate_left
  · simp only [Act.put, List.setIfInBounds_toArray, List.set_cons_zero, List.set_cons_succ, i64_w, i32_w]
    rfl
  refine pure_ (i := 8) (N := some 35) (v := ?_) (a' := ?_) #[true, true, true, true, true, true, true, true, true, false, false, false] rfl rfl (any_of HT_.out (by kernel_rfl)) (fun _ _ _ h => h) (Or.inl ⟨by rfl, ?_⟩) ?_ ?_
  rotate_left
  · intro w'
    go_simp
    with_reducible rfl
  rotate_left
  · simp only [Act.put, List.setIfInBounds_toArray, List.set_cons_zero, List.set_cons_succ, i64_w, i32_w]
    rfl
  refine one_ (i := 9) (N := some 36) #[true, true, true, true, true, true, true, true, true, true, false, false] rfl rfl (one_of HT_.out (by kernel_rfl)) (by decide) (fun K hK => ?_)
  obtain ⟨v0, st, w6, hrun, hgr, hlk, hst⟩ := Tm.inc hTd.out (i := i) (k := k) (by omega) (by omega) (by unfold maxLen; omega)
  refine value_ (v := .tuple #[v0, goInt st]) (w1 := w6) (by rfl) rfl ?_ ?_
  · go_simp
  have HST := Aside0.mk hst
  have HLK := Aside0.mk hlk
  have HGR := Aside0.mk hgr
  have HB5 := Aside0.mk hHeld
  clear hrun hgr hlk hst
  refine hK.out _ _ (by exact ⟨HGR.out.cell HB5.out.1 (fun e => HPL.out.e4 (by injection e with e; exact e.symm)), HLK.out, HB5.out.2.2.trans HGR.out⟩) (fun hHeld => ?_)
  clear hK K
  refine norm_ (a' := ?_) ?_ ?_
  rotate_left
  · first
    | (show Act.put _ (some 36) _ = _; simp only [Act.put, List.setIfInBounds_toArray, List.set_cons_zero, List.set_cons_succ, i64_w, i32_w]; rfl)
    | rfl
  refine pure_ (i := 10) (N := some 37) (v := ?_) (a' := ?_) #[true, true, true, true, true, true, true, true, true, true, true, false] rfl rfl (any_of HT_.out (by kernel_rfl)) (fun _ _ _ h => h) (Or.inl ⟨by rfl, ?_⟩) ?_ ?_
  rotate_left
  · intro w'
    go_simp
    with_reducible rfl
  rotate_left
  · simp only [Act.put, List.setIfInBounds_toArray, List.set_cons_zero, List.set_cons_succ, i64_w, i32_w]
    rfl
  refine last_ (i := 11) (N := none) #[true, true, true, true, true, true, true, true, true, true, true, true] rfl rfl (one_of HT_.out (by kernel_rfl)) (by decide) (fun K hK => ?_)
  obtain ⟨w7, hrun, htm, hgr⟩ := HST.out _ HWF.out
  simp only [goInt] at hrun
  refine skip_ (w1 := w7) (by rfl) rfl ?_ ?_
  · go_simp
  have HTM7 := Aside0.mk htm
  have HPL7 := Aside0.mk (hPd.out.grown hgr)
  have HCH7 := Aside0.mk (hCd.out.trans (Chg.of_grown hgr))
  clear hrun htm hgr
  refine hK.out _ _ ?_
  clear hK K
  refine norm_ (a' := ?_) ?_ ?_
  rotate_left
  · first
    | (show Act.put _ none _ = _; simp only [Act.put, List.setIfInBounds_toArray, List.set_cons_zero, List.set_cons_succ, i64_w, i32_w]; rfl)
    | rfl
  refine done_ (done_of HT_.out (by kernel_rfl)) ?_
  clear hTd hPd hCd HTM HPL HCH HST HLK HGR HB5 hHeld HT_ HW_ hS0 hwr HTB HWF e0 e1
  have y0 := HPL7.out.blk.c0
  have HCS := Aside0.mk (HPL7.out.ch.cu i hi)
  have z0 := HPL7.out.ch.fz (i * 3)
  have z1 := HPL7.out.ch.fz (i * 3 + 1)
  have z2 := HPL7.out.ch.fz (i * 3 + 2)
  obtain ⟨y1, y2, y3⟩ := HCS.out
  have HPZ := Aside0.mk (HPL7.out.put i hi (1, (k : Int), now))
  have HCZ := Aside0.mk (HCH7.out.trans (put3_chg w7 gc i (1, (k : Int), now) gd gm))
  have HTZ := Aside0.mk (HTM7.out.chg (put3_chg w7 gc i (1, (k : Int), now) gd gd) HPL7.out.e5 HPL7.out.e6)
  go_wp2
  go_ret3
  rw [hR.out, HF2.out]
  exact ⟨rfl, H.out.next HPZ.out HTZ.out (lateGood_put HGD.out i hi k hk HN.out) (by omega) (by omega) (fun a b => by
    have := H.out.tb a b
    have := H.out.tb i k
    simp only [] at *
    show 0 ≤ updT T i k (T i k + 1) a b ∧ updT T i k (T i k + 1) a b ≤ _
    unfold updT
    split <;> omega), HCZ.out⟩
end Go.Proofs.Ytaheoifjihkipaa.As
