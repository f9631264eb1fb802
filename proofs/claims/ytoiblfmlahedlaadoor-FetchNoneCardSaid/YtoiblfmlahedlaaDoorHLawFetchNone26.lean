/- What calls of Go functions of this seat come to, as the rows need it: under the conditions that each theorem names. -/
import Derived.Test.YtoiblfmlahedlaaDoorHLawFetchNone19
import Derived.Test.YtoiblfmlahedlaaDoorHLawFetchNone22
import Derived.Test.YtoiblfmlahedlaaDoorHLawFetchNone23
import Derived.Test.YtoiblfmlahedlaaDoorHLawFetchNone24
import Derived.Test.YtoiblfmlahedlaaDoorHLawFetchNone25
import Derived.Lib.ConvBytes
section
namespace Go.Proofs.YtoiblfmlahedlaaDoor.Fe
open Go.RowKit Go.Proofs.YtoiblfmlahedlaaDoorW.PrintWords Go.Proofs.YtoiblfmlahedlaaDoorW.PrintLast Go.Proofs.YtoiblfmlahedlaaDoorW.PrintMore
set_option linter.unusedVariables false
set_option linter.unusedSimpArgs false
set_option maxRecDepth 100000
open Go.Proofs.YtoiblfmlahedlaaDoor.As (St PW Pl Chg Fst leftF stuckB nextF hadR hadS badR badS stOf left_calls stuckB_calls state_calls had_at bad_at)
open Go.Proofs.YtoiblfmlahedlaaDoor.Sha (cb vd countN rootOf checkB B KD isRow)
open Go.Proofs.YtoiblfmlahedlaaDoor.Ref (check_any)
theorem own_ints {w : World} {base base' : Nat} {v : Value} {zs : List Int} (h : Kd.R B 5 w base (fun _ => True) v zs) (hb : Sha.bytes zs) (hv : v ≠ .slice none 0 0) (hl : base' ≤ base) : (∃ g, v.ownBlock = some g ∧ base ≤ g) ∧ w.ownsInts base' 5 .u8 v zs := by
  have ho := Kd.own_of_R h
  rcases ho with ⟨e0, h0 | ⟨g, cap, cur, rfl, hB, hr⟩⟩
  · exact absurd h0.1 hv
  · refine ⟨⟨g, rfl, hB⟩, ⟨e0, Or.inr ⟨g, cap, cur, rfl, by omega, hr⟩⟩, fun z hz => ?_⟩
    have := hb z hz
    simp [Lit.wf, IntKind.min, IntKind.max, IntKind.signed, IntKind.bits]
    omega
theorem FW.stored {w w2 : World} {a : Ad} {f : Cf} {c : Nat} {s : St} {K K' : Nat → List Int} (h : FW w a f c s K) (hk : ∀ k, k < w.heap.size → k ≠ a.gx → w2.heap[k]? = w.heap[k]?) (hm : Mk w2 a.gx (c + 1 + 64) K') (hK : ∀ i, (K' i).length ≤ 64 ∧ Sha.bytes (K' i)) : FW w2 a f (c + 1) s K' := by
  have kp : ∀ (k : Nat) (o : Obj), k ≠ a.gx → w.heap[k]? = some o → w2.heap[k]? = some o := fun k o hne ho => (hk k (Array.getElem?_eq_some_iff.1 ho).1 hne).trans ho
  obtain ⟨D1, ⟨es1, cl1, y1, _⟩, _⟩ := h.mp
  have h2 := pw_more h.pl (show c ≤ c + 1 by omega)
  have hpl := h2.pl
  obtain ⟨cs, q1, q2, q3⟩ := hpl.ch
  obtain ⟨ds, q1', q2', q3'⟩ := hpl.de
  obtain ⟨D, ⟨es, cl, y, F, hs, hD⟩, hT⟩ := h2.mp
  refine ⟨kp _ _ h.d1.2.2.2.2 h.blk, ⟨⟨kp _ _ h.d2.1.symm hpl.blk, ⟨cs, kp _ _ h.d2.2.1.symm q1, q2, q3⟩, ⟨ds, kp _ _ h.d2.2.2.1.symm q1', q2', q3'⟩, hpl.n1, hpl.m1, hpl.e1, hpl.e2, hpl.e3, hpl.e4, hpl.e5, hpl.e6⟩, ⟨D, ⟨es, cl, kp _ _ h.d2.2.2.2.symm y, F, hs, hD⟩, hT⟩, h2.good, h2.tb, h2.t1, h2.t2⟩, ?_, hm, h.d1, h.d2, h.d3, h.hR, h.bR, h.hL, h.hm, h.hb, h.he, h.hw, hK⟩
  rcases h.pe with h1 | ⟨g, cur, e, hg, hx⟩
  · exact Or.inl h1
  · exact Or.inr ⟨g, cur, e, kp _ _ (fun e1 => by subst e1; rw [y1] at hg; simp at hg) hg, hx⟩
def hearF (f : Cf) (s : St) (K : Nat → List Int) (x i : Int) (l : List Int) (p : List (List Int)) : Int × St × (Nat → List Int) :=
  if 0 ≤ i ∧ i < countN f.L ∧ 0 ≤ idxF f.ps x then
    if stOf s.1 (countN f.L) i = 2 then (7, s, K) else
      if checkB f.R f.L i l p = true then (hadR (countN f.L) s i, hadS (countN f.L) s i, updK K i.toNat l) else (5, badS (countN f.L) f.ps.length s i (idxF f.ps x), K)
  else (6, s, K)
theorem checkB_size {R : List Int} {L j : Nat} {l : List Int} {p : List (List Int)} (h : checkB R L (j : Int) l p = true) (hL : 1 ≤ L) (hj : j < countN L) : 1 ≤ l.length ∧ l.length ≤ 64 := by
  unfold checkB at h
  split at h
  · rename_i h1
    have h2 := h1.2.2.2
    rw [Int.toNat_natCast, Int.toNat_natCast] at h2
    unfold Sha.sizeN at h2
    unfold countN at hj
    omega
  · cases h
def hea_T8 : Bool × List (List Nat × List Nat) := (true, [([], []), ([0], [0]), ([1], [1]), ([2], [2]), ([], []), ([4], [4]), ([5], [5]), ([6], [6]), ([], []), ([], []), ([], []), ([3, 7, 8, 9, 10], [3, 7, 8, 9, 10]), ([11], [11]), ([12, 11], [12])])
def hea_B8 : List Nat := [0, 1, 3, 7, 0, 16, 48, 112, 0, 0, 0, 2047, 4095, 8191]
theorem hea_tab8 : rtab .any (opsOf Tryd.f15 8) = hea_T8 := by kernel_rfl
theorem hea_bits8 : waitsOk hea_T8.2 hea_B8 = true := by kernel_rfl
def hea_T11 : Bool × List (List Nat × List Nat) := (true, [([], []), ([0], [0]), ([1], [1]), ([2], [2]), ([], []), ([], []), ([5], [5]), ([3, 4, 6, 6, 0, 1, 2, 3, 4, 5, 6], [3, 4, 6])])
def hea_B11 : List Nat := [0, 1, 3, 7, 0, 0, 32, 127]
theorem hea_tab11 : rtab .any (opsOf Tryd.f15 11) = hea_T11 := by kernel_rfl
theorem hea_bits11 : waitsOk hea_T11.2 hea_B11 = true := by kernel_rfl
set_option maxHeartbeats 3200000 in
theorem hear_calls {w : World} {a : Ad} {f : Cf} {c lo hi cl cp : Nat} {s s' : St} {K K' : Nat → List Int} {x i r : Int} {A A' : Option Addr} {l : List Int} {p : List (List Int)} (h : FW w a f c s K) (hin : In a lo hi) (hc : c ≤ 3000000) (hT : Sha.Tab w) (hl : B.C w A l.length l) (hlb : Sha.bytes l) (hlc : l.length ≤ cl ∧ l.length ≤ 1000000)
    (hp : KD.C w A' p.length p) (hpr : isRow p) (hpc : p.length ≤ cp ∧ p.length < 1000000) (hr : hearF f s K x i l p = (r, s', K')) :
    Calls Tryd.prog 15 #[.pointer (some ⟨a.p, 0, none⟩), .int .i64 x, .int .i64 i, .slice A l.length cl, .slice A' p.length cp] w fun e w' => e = .returned (.int .i64 r) ∧ FW w' a f (c + 2) s' K' ∧ Mov lo hi w w' := by
  have H := Aside0.mk h
  have HIN := Aside0.mk hin
  have HT := Aside0.mk hT
  have HFR := Aside0.mk h.hR
  have HFL := Aside0.mk h.hL
  have hm := h.hm
  have HLC0 := Aside0.mk hl
  have HLB := Aside0.mk hlb
  have HLN := Aside0.mk hlc
  have HPC0 := Aside0.mk hp
  have HPR := Aside0.mk hpr
  have HPN := Aside0.mk hpc
  obtain ⟨n, hn⟩ : ∃ n, countN f.L = n := ⟨_, rfl⟩
  have hn100 : n ≤ 100 := hn ▸ count_100 h.hL.2
  have HNN := Aside0.mk hn
  obtain ⟨ix, hix⟩ : ∃ ix, idxF f.ps x = ix := ⟨_, rfl⟩
  obtain ⟨cbv, hcb⟩ : ∃ v, checkB f.R f.L i l p = v := ⟨_, rfl⟩
  obtain ⟨st, hst⟩ : ∃ v, stOf s.1 n i = v := ⟨_, rfl⟩
  unfold hearF at hr
  rw [hn, hix, hst, hcb] at hr
  have HIX := Aside0.mk hix
  clear h hin hT hl hlb hlc hp hpr hpc hn hix
  go_enter Tryd.func15, Tryd.ntmps15
  go_upto_region 1 with (fail)
  obtain ⟨w2, hw2⟩ : ∃ w2, w.alloc (.cells #[.int .i64 x] 3) = w2 := ⟨_, rfl⟩
  have hn0 : w2.heap[w.heap.size]? = some (.cells #[.int .i64 x] 3 (0, 0)) := by rw [← hw2]; exact Go.Proofs.YtoiblfmlahedlaaDoor.As.heap_new _ _
  have HB2 := Aside0.mk (show Below w.heap.size w w2 by rw [← hw2]; exact (Below.refl _ _).alloc (Nat.le_refl _) _)
  have HY0 : Aside0 (w2.cell? ⟨w.heap.size, 0, none⟩ = some (.int .i64 x)) := ⟨by simp [World.cell?, hn0]⟩
  rw [hw2]
  clear hw2 hn0
  generalize w.heap.size = gp at HY0 ⊢
  have HF := Aside0.mk (H.out.below HB2.out)
  go_wp2_with fail
  refine (ready_calls HF.out.blk HFR.out).mono ?_
  rintro e w3 ⟨rfl, hw⟩
  replace hw := hw.symm
  subst hw
  obtain ⟨c0, c1, c2, _⟩ := HF.out.blk.cu HFR.out
  go_wp2_with fail
  refine (idxP_calls _ HF.out.pe hm HY0.out).mono ?_
  rintro e w3 ⟨k0, rfl, hf, hw⟩
  replace hw := hw.symm
  subst hw
  have hke := (idxF_fst hf).trans HIX.out
  subst hke
  have HFS := Aside0.mk hf
  clear hf HY0
  by_cases hi0 : i < 0
  · rw [if_neg (by omega)] at hr
    have e1 : decide (i < 0) = true := decide_eq_true hi0
    injection hr with hr1 hr2
    injection hr2 with hr2 hr3
    subst hr1 hr2 hr3
    go_wp2
    go_ret
    exact ⟨rfl, HF.out.grow (by omega), Mov.of_below HB2.out⟩
  obtain ⟨j, rfl⟩ := Int.eq_ofNat_of_zero_le (show 0 ≤ i by omega)
  clear hi0
  have e1 : decide ((j : Int) < 0) = false := decide_eq_false (by omega)
  go_wp2_with fail
  refine (Sha.count_calls f.L _ (by have := HFL.out; omega)).mono ?_
  rintro e w3 ⟨rfl, hw⟩
  replace hw := hw.symm
  subst hw
  rw [HNN.out]
  by_cases hj : j < n
  rotate_left
  · rw [if_neg (by omega)] at hr
    have e2 : decide ((j : Int) ≥ (n : Int)) = true := decide_eq_true (by omega)
    have e3 : decide (j ≥ n) = true := decide_eq_true (by omega)
    injection hr with hr1 hr2
    injection hr2 with hr2 hr3
    subst hr1 hr2 hr3
    go_wp2
    go_ret
    exact ⟨rfl, HF.out.grow (by omega), Mov.of_below HB2.out⟩
  have HJ := Aside0.mk (show j ≤ 1000 by omega)
  have e2 : decide ((j : Int) ≥ (n : Int)) = false := decide_eq_false (by omega)
  have e3 : decide (j ≥ n) = false := decide_eq_false (by omega)
  rcases HFS.out with ⟨rfl, _⟩ | ⟨k, hk, rfl, _, _⟩
  · rw [if_neg (by omega)] at hr
    injection hr with hr1 hr2
    injection hr2 with hr2 hr3
    subst hr1 hr2 hr3
    go_wp2
    go_ret
    exact ⟨rfl, HF.out.grow (by omega), Mov.of_below HB2.out⟩
  rw [if_pos ⟨by omega, by omega, by omega⟩] at hr
  have e4 : decide ((k : Int) < 0) = false := decide_eq_false (by omega)
  have HJN := Aside0.mk hj
  clear hj hk HFS
  have HST := Aside0.mk hst
  clear hst
  go_wp2_with fail
  refine (state_calls (j : Int) _ HF.out.pl.pl).mono ?_
  rintro e w3 ⟨rfl, hw⟩
  replace hw := hw.symm
  subst hw
  rw [HNN.out, HST.out]
  by_cases h2 : st = 2
  · subst h2
    rw [if_pos rfl] at hr
    injection hr with hr1 hr2
    injection hr2 with hr2 hr3
    subst hr1 hr2 hr3
    go_wp2
    go_ret
    exact ⟨rfl, HF.out.grow (by omega), Mov.of_below HB2.out⟩
  rw [if_neg h2] at hr
  have e5 : (st == 2) = false := by rw [beq_eq_false_iff_ne]; exact h2
  clear h2
  have HLC := Aside0.mk (Kd.C_below HLC0.out HB2.out)
  have HPC := Aside0.mk (Kd.C_below HPC0.out HB2.out)
  have HTB := Aside0.mk (HT.out.below HB2.out)
  have HCB := Aside0.mk hcb
  have HRR := Aside0.mk hr
  clear hcb hr c0 c1 c2
  go_upto_region 8 with (fail)
  have hS0 : Below w2.heap.size w2 w2.drew := below_drew1 (Below.refl _ _)
  cases cbv
  · refine start_ (n := 14) (S := fun w' => Below w2.heap.size w2 w') (ds := []) #[false, false, false, false, false, false, false, false, false, false, false, false, false, false] (by kernel_rfl) rfl rfl (by exact hS0) (fun hHeld => ?_)
    refine with_tabW hea_tab8 hea_bits8 (fun HT_ HW_ => ?_)
    generalize w2.drew = wq at hHeld hS0 ⊢
    refine pure_ (i := 0) (N := some 46) (v := ?_) (a' := ?_) #[true, false, false, false, false, false, false, false, false, false, false, false, false, false] rfl rfl (any_of HT_.out (by kernel_rfl)) (fun _ _ _ h => h) (Or.inl ⟨by rfl, ?_⟩) ?_ ?_
    rotate_left
    · intro w'
      go_simp
      with_reducible rfl
    rotate_left
    · simp only [Act.put, List.setIfInBounds_toArray, List.set_cons_zero, List.set_cons_succ, i64_w, i32_w]
      rfl
    refine pure_ (i := 1) (N := some 47) (v := ?_) (a' := ?_) #[true, true, false, false, false, false, false, false, false, false, false, false, false, false] rfl rfl (any_of HT_.out (by kernel_rfl)) (fun _ _ _ h => h) (Or.inl ⟨by rfl, ?_⟩) ?_ ?_
    rotate_left
    · intro w'
      go_simp
      with_reducible rfl
    rotate_left
    · simp only [Act.put, List.setIfInBounds_toArray, List.set_cons_zero, List.set_cons_succ, i64_w, i32_w]
      rfl
    refine pure_ (i := 2) (N := some 48) (v := ?_) (a' := ?_) #[true, true, true, false, false, false, false, false, false, false, false, false, false, false] rfl rfl (any_of HT_.out (by kernel_rfl)) (fun _ _ _ h => h) (Or.inl ⟨by rfl, ?_⟩) ?_ ?_
    rotate_left
    · intro w'
      go_simp
      with_reducible rfl
    rotate_left
    · simp only [Act.put, List.setIfInBounds_toArray, List.set_cons_zero, List.set_cons_succ, i64_w, i32_w]
      rfl
    refine pure_ (i := 4) (N := some 50) (v := ?_) (a' := ?_) #[true, true, true, false, true, false, false, false, false, false, false, false, false, false] rfl rfl (any_of HT_.out (by kernel_rfl)) (fun _ _ _ h => h) (Or.inl ⟨by rfl, ?_⟩) ?_ ?_
    rotate_left
    · intro w'
      go_simp
      with_reducible rfl
    rotate_left
    · simp only [Act.put, List.setIfInBounds_toArray, List.set_cons_zero, List.set_cons_succ, i64_w, i32_w]
      rfl
    refine pure_ (i := 5) (N := some 51) (v := ?_) (a' := ?_) #[true, true, true, false, true, true, false, false, false, false, false, false, false, false] rfl rfl (any_of HT_.out (by kernel_rfl)) (fun _ _ _ h => h) (Or.inl ⟨by rfl, ?_⟩) ?_ ?_
    rotate_left
    · intro w'
      go_simp
      with_reducible rfl
    rotate_left
    · simp only [Act.put, List.setIfInBounds_toArray, List.set_cons_zero, List.set_cons_succ, i64_w, i32_w]
      rfl
    refine pure_ (i := 6) (N := some 52) (v := ?_) (a' := ?_) #[true, true, true, false, true, true, true, false, false, false, false, false, false, false] rfl rfl (any_of HT_.out (by kernel_rfl)) (fun _ _ _ h => h) (Or.inl ⟨by rfl, ?_⟩) ?_ ?_
    rotate_left
    · intro w'
      go_simp
      with_reducible rfl
    rotate_left
    · simp only [Act.put, List.setIfInBounds_toArray, List.set_cons_zero, List.set_cons_succ, i64_w, i32_w]
      rfl
    refine pure_ (i := 8) (N := some 54) (v := ?_) (a' := ?_) #[true, true, true, false, true, true, true, false, true, false, false, false, false, false] rfl rfl (any_of HT_.out (by kernel_rfl)) (fun _ _ _ h => h) (Or.inl ⟨by rfl, ?_⟩) ?_ ?_
    rotate_left
    · intro w'
      go_simp
      with_reducible rfl
    rotate_left
    · simp only [Act.put, List.setIfInBounds_toArray, List.set_cons_zero, List.set_cons_succ, i64_w, i32_w]
      rfl
    refine pure_ (i := 9) (N := some 55) (v := ?_) (a' := ?_) #[true, true, true, false, true, true, true, false, true, true, false, false, false, false] rfl rfl (any_of HT_.out (by kernel_rfl)) (fun _ _ _ h => h) (Or.inl ⟨by rfl, ?_⟩) ?_ ?_
    rotate_left
    · intro w'
      go_simp
      with_reducible rfl
    rotate_left
    · simp only [Act.put, List.setIfInBounds_toArray, List.set_cons_zero, List.set_cons_succ, i64_w, i32_w]
      rfl
    refine pure_ (i := 10) (N := some 56) (v := ?_) (a' := ?_) #[true, true, true, false, true, true, true, false, true, true, true, false, false, false] rfl rfl (any_of HT_.out (by kernel_rfl)) (fun _ _ _ h => h) (Or.inl ⟨by rfl, ?_⟩) ?_ ?_
    rotate_left
    · intro w'
      go_simp
      with_reducible rfl
    rotate_left
    · simp only [Act.put, List.setIfInBounds_toArray, List.set_cons_zero, List.set_cons_succ, i64_w, i32_w]
      rfl
    refine take_ (i := 3) (N := some 49) (v := ?_) (a' := ?_) #[true, true, true, true, true, true, true, false, true, true, true, false, false, false] rfl rfl (take_ofW HT_.out HW_.out (by kernel_rfl)) (fun _ _ _ h => h) (Or.inl ⟨by rfl, ?_⟩) hHeld ?_ ?_
    rotate_left
    · intro w' hSt
      refine (Sha.exec_load (p := .pointer (some ⟨a.p, 0, none⟩)) rfl rfl (root_load (HF.out.below hSt).blk HFR.out)).trans ?_
      rfl
    rotate_left
    · simp only [Act.put, List.setIfInBounds_toArray, List.set_cons_zero, List.set_cons_succ, i64_w, i32_w]
      rfl
    refine take_ (i := 7) (N := some 53) (v := ?_) (a' := ?_) #[true, true, true, true, true, true, true, true, true, true, true, false, false, false] rfl rfl (take_ofW HT_.out HW_.out (by kernel_rfl)) (fun _ _ _ h => h) (Or.inl ⟨by rfl, ?_⟩) hHeld ?_ ?_
    rotate_left
    · intro w' hSt
      obtain ⟨c0, _⟩ := (HF.out.below hSt).blk.cu HFR.out
      go_simp
      with_reducible rfl
    rotate_left
    · simp only [Act.put, List.setIfInBounds_toArray, List.set_cons_zero, List.set_cons_succ, i64_w, i32_w]
      rfl
    refine one_ (i := 11) (N := some 57) #[true, true, true, true, true, true, true, true, true, true, true, true, false, false] rfl rfl (one_of HT_.out (by kernel_rfl)) (by decide) (fun K hK => ?_)
    refine goes_ Tryd.func40 (by kernel_rfl) rfl #[vd f.R, .int .i64 (f.L : Int), .int .i64 (j : Int), .slice A l.length cl, .slice A' p.length cp] (by rfl) rfl rfl (by (try simp only [List.map_toArray, List.map_cons, List.map_nil]); first | done | rfl) ?_
    refine (check_any f.R f.L j A A' cl cp l p _ HFR.out (by have := HFL.out; omega) (Kd.C_below HLC.out hHeld) HLN.out.1 HLB.out (by have := HLN.out; omega) (Kd.C_below HPC.out hHeld) HPN.out.1 HPR.out (by have := HPN.out; omega) (HTB.out.below hHeld)).mono ?_
    rintro e wk ⟨rfl, hb⟩
    refine ⟨_, rfl, ?_⟩
    rw [HCB.out]
    have hS1 := below_step hHeld hb
    clear hb
    refine hK.out _ _ (by exact hS1) (fun hHeld => ?_)
    clear hK K
    refine norm_ (a' := ?_) ?_ ?_
    rotate_left
    · first
      | (show Act.put _ (some 57) _ = _; simp only [Act.put, List.setIfInBounds_toArray, List.set_cons_zero, List.set_cons_succ, i64_w, i32_w]; rfl)
      | rfl
    refine pure_ (i := 12) (N := some 58) (v := ?_) (a' := ?_) #[true, true, true, true, true, true, true, true, true, true, true, true, true, false] rfl rfl (any_of HT_.out (by kernel_rfl)) (fun _ _ _ h => h) (Or.inl ⟨by rfl, ?_⟩) ?_ ?_
    rotate_left
    · intro w'
      go_simp
      with_reducible rfl
    rotate_left
    · simp only [Act.put, List.setIfInBounds_toArray, List.set_cons_zero, List.set_cons_succ, i64_w, i32_w]
      rfl
    refine pure_ (i := 13) (N := some 45) (v := ?_) (a' := ?_) #[true, true, true, true, true, true, true, true, true, true, true, true, true, true] rfl rfl (any_of HT_.out (by kernel_rfl)) (fun _ _ _ h => h) (Or.inl ⟨by rfl, ?_⟩) ?_ ?_
    rotate_left
    · intro w'
      go_simp
      with_reducible rfl
    rotate_left
    · simp only [Act.put, List.setIfInBounds_toArray, List.set_cons_zero, List.set_cons_succ, i64_w, i32_w]
      rfl
    refine done_ (done_of HT_.out (by kernel_rfl)) ?_
    have hr := HRR.out
    rw [if_neg (by simp)] at hr
    injection hr with hr1 hr2
    injection hr2 with hr2 hr3
    subst hr1 hr3
    have HS := Aside0.mk hr2
    have HF3 := Aside0.mk (HF.out.below hHeld)
    have HM3 := Aside0.mk ((Mov.of_below (lo := lo) (hi := hi) HB2.out).trans (Mov.of_below hHeld))
    obtain ⟨_, _, c2, _⟩ := HF3.out.blk.cu HFR.out
    clear hr2 hS0 hHeld HT_ HW_ HRR
    go_wp2_with fail
    refine (bad_at (s' := s') (j : Int) (k : Int) _ HF3.out.pl (by omega) rfl (by rw [HNN.out]; exact HS.out)).mono ?_
    rintro e w5 ⟨rfl, hpw, hch⟩
    have HF5 := Aside0.mk (HF3.out.turn hpw hch)
    have HM5 := Aside0.mk (HM3.out.trans (Mov.of_chg hch HIN.out.c HIN.out.d HIN.out.m))
    clear hpw hch c2
    generalize badR (countN f.L) f.ps.length s (j : Int) (k : Int) = rb
    go_wp2
    go_ret
    exact ⟨rfl, HF5.out.grow (by omega), HM5.out⟩
  have HSZ := Aside0.mk (checkB_size HCB.out HFL.out.1 (by rw [HNN.out]; exact HJN.out))
  refine start_ (n := 14) (S := fun w' => Below w2.heap.size w2 w') (ds := []) #[false, false, false, false, false, false, false, false, false, false, false, false, false, false] (by kernel_rfl) rfl rfl (by exact hS0) (fun hHeld => ?_)
  refine with_tabW hea_tab8 hea_bits8 (fun HT_ HW_ => ?_)
  generalize w2.drew = wq at hHeld hS0 ⊢
  refine pure_ (i := 0) (N := some 46) (v := ?_) (a' := ?_) #[true, false, false, false, false, false, false, false, false, false, false, false, false, false] rfl rfl (any_of HT_.out (by kernel_rfl)) (fun _ _ _ h => h) (Or.inl ⟨by rfl, ?_⟩) ?_ ?_
  rotate_left
  · intro w'
    go_simp
    with_reducible rfl
  rotate_left
  · simp only [Act.put, List.setIfInBounds_toArray, List.set_cons_zero, List.set_cons_succ, i64_w, i32_w]
    rfl
  refine pure_ (i := 1) (N := some 47) (v := ?_) (a' := ?_) #[true, true, false, false, false, false, false, false, false, false, false, false, false, false] rfl rfl (any_of HT_.out (by kernel_rfl)) (fun _ _ _ h => h) (Or.inl ⟨by rfl, ?_⟩) ?_ ?_
  rotate_left
  · intro w'
    go_simp
    with_reducible rfl
  rotate_left
  · simp only [Act.put, List.setIfInBounds_toArray, List.set_cons_zero, List.set_cons_succ, i64_w, i32_w]
    rfl
  refine pure_ (i := 2) (N := some 48) (v := ?_) (a' := ?_) #[true, true, true, false, false, false, false, false, false, false, false, false, false, false] rfl rfl (any_of HT_.out (by kernel_rfl)) (fun _ _ _ h => h) (Or.inl ⟨by rfl, ?_⟩) ?_ ?_
  rotate_left
  · intro w'
    go_simp
    with_reducible rfl
  rotate_left
  · simp only [Act.put, List.setIfInBounds_toArray, List.set_cons_zero, List.set_cons_succ, i64_w, i32_w]
    rfl
  refine pure_ (i := 4) (N := some 50) (v := ?_) (a' := ?_) #[true, true, true, false, true, false, false, false, false, false, false, false, false, false] rfl rfl (any_of HT_.out (by kernel_rfl)) (fun _ _ _ h => h) (Or.inl ⟨by rfl, ?_⟩) ?_ ?_
  rotate_left
  · intro w'
    go_simp
    with_reducible rfl
  rotate_left
  · simp only [Act.put, List.setIfInBounds_toArray, List.set_cons_zero, List.set_cons_succ, i64_w, i32_w]
    rfl
  refine pure_ (i := 5) (N := some 51) (v := ?_) (a' := ?_) #[true, true, true, false, true, true, false, false, false, false, false, false, false, false] rfl rfl (any_of HT_.out (by kernel_rfl)) (fun _ _ _ h => h) (Or.inl ⟨by rfl, ?_⟩) ?_ ?_
  rotate_left
  · intro w'
    go_simp
    with_reducible rfl
  rotate_left
  · simp only [Act.put, List.setIfInBounds_toArray, List.set_cons_zero, List.set_cons_succ, i64_w, i32_w]
    rfl
  refine pure_ (i := 6) (N := some 52) (v := ?_) (a' := ?_) #[true, true, true, false, true, true, true, false, false, false, false, false, false, false] rfl rfl (any_of HT_.out (by kernel_rfl)) (fun _ _ _ h => h) (Or.inl ⟨by rfl, ?_⟩) ?_ ?_
  rotate_left
  · intro w'
    go_simp
    with_reducible rfl
  rotate_left
  · simp only [Act.put, List.setIfInBounds_toArray, List.set_cons_zero, List.set_cons_succ, i64_w, i32_w]
    rfl
  refine pure_ (i := 8) (N := some 54) (v := ?_) (a' := ?_) #[true, true, true, false, true, true, true, false, true, false, false, false, false, false] rfl rfl (any_of HT_.out (by kernel_rfl)) (fun _ _ _ h => h) (Or.inl ⟨by rfl, ?_⟩) ?_ ?_
  rotate_left
  · intro w'
    go_simp
    with_reducible rfl
  rotate_left
  · simp only [Act.put, List.setIfInBounds_toArray, List.set_cons_zero, List.set_cons_succ, i64_w, i32_w]
    rfl
  refine pure_ (i := 9) (N := some 55) (v := ?_) (a' := ?_) #[true, true, true, false, true, true, true, false, true, true, false, false, false, false] rfl rfl (any_of HT_.out (by kernel_rfl)) (fun _ _ _ h => h) (Or.inl ⟨by rfl, ?_⟩) ?_ ?_
  rotate_left
  · intro w'
    go_simp
    with_reducible rfl
  rotate_left
  · simp only [Act.put, List.setIfInBounds_toArray, List.set_cons_zero, List.set_cons_succ, i64_w, i32_w]
    rfl
  refine pure_ (i := 10) (N := some 56) (v := ?_) (a' := ?_) #[true, true, true, false, true, true, true, false, true, true, true, false, false, false] rfl rfl (any_of HT_.out (by kernel_rfl)) (fun _ _ _ h => h) (Or.inl ⟨by rfl, ?_⟩) ?_ ?_
  rotate_left
  · intro w'
    go_simp
    with_reducible rfl
  rotate_left
  · simp only [Act.put, List.setIfInBounds_toArray, List.set_cons_zero, List.set_cons_succ, i64_w, i32_w]
    rfl
  refine take_ (i := 3) (N := some 49) (v := ?_) (a' := ?_) #[true, true, true, true, true, true, true, false, true, true, true, false, false, false] rfl rfl (take_ofW HT_.out HW_.out (by kernel_rfl)) (fun _ _ _ h => h) (Or.inl ⟨by rfl, ?_⟩) hHeld ?_ ?_
  rotate_left
  · intro w' hSt
    refine (Sha.exec_load (p := .pointer (some ⟨a.p, 0, none⟩)) rfl rfl (root_load (HF.out.below hSt).blk HFR.out)).trans ?_
    rfl
  rotate_left
  · simp only [Act.put, List.setIfInBounds_toArray, List.set_cons_zero, List.set_cons_succ, i64_w, i32_w]
    rfl
  refine take_ (i := 7) (N := some 53) (v := ?_) (a' := ?_) #[true, true, true, true, true, true, true, true, true, true, true, false, false, false] rfl rfl (take_ofW HT_.out HW_.out (by kernel_rfl)) (fun _ _ _ h => h) (Or.inl ⟨by rfl, ?_⟩) hHeld ?_ ?_
  rotate_left
  · intro w' hSt
    obtain ⟨c0, _⟩ := (HF.out.below hSt).blk.cu HFR.out
    go_simp
    with_reducible rfl
  rotate_left
  · simp only [Act.put, List.setIfInBounds_toArray, List.set_cons_zero, List.set_cons_succ, i64_w, i32_w]
    rfl
  refine one_ (i := 11) (N := some 57) #[true, true, true, true, true, true, true, true, true, true, true, true, false, false] rfl rfl (one_of HT_.out (by kernel_rfl)) (by decide) (fun K hK => ?_)
  refine goes_ Tryd.func40 (by kernel_rfl) rfl #[vd f.R, .int .i64 (f.L : Int), .int .i64 (j : Int), .slice A l.length cl, .slice A' p.length cp] (by rfl) rfl rfl (by (try simp only [List.map_toArray, List.map_cons, List.map_nil]); first | done | rfl) ?_
  refine (check_any f.R f.L j A A' cl cp l p _ HFR.out (by have := HFL.out; omega) (Kd.C_below HLC.out hHeld) HLN.out.1 HLB.out (by have := HLN.out; omega) (Kd.C_below HPC.out hHeld) HPN.out.1 HPR.out (by have := HPN.out; omega) (HTB.out.below hHeld)).mono ?_
  rintro e wk ⟨rfl, hb⟩
  refine ⟨_, rfl, ?_⟩
  rw [HCB.out]
  have hS1 := below_step hHeld hb
  clear hb
  refine hK.out _ _ (by exact hS1) (fun hHeld => ?_)
  clear hK K
  refine norm_ (a' := ?_) ?_ ?_
  rotate_left
  · first
    | (show Act.put _ (some 57) _ = _; simp only [Act.put, List.setIfInBounds_toArray, List.set_cons_zero, List.set_cons_succ, i64_w, i32_w]; rfl)
    | rfl
  refine pure_ (i := 12) (N := some 58) (v := ?_) (a' := ?_) #[true, true, true, true, true, true, true, true, true, true, true, true, true, false] rfl rfl (any_of HT_.out (by kernel_rfl)) (fun _ _ _ h => h) (Or.inl ⟨by rfl, ?_⟩) ?_ ?_
  rotate_left
  · intro w'
    go_simp
    with_reducible rfl
  rotate_left
  · simp only [Act.put, List.setIfInBounds_toArray, List.set_cons_zero, List.set_cons_succ, i64_w, i32_w]
    rfl
  refine pure_ (i := 13) (N := some 45) (v := ?_) (a' := ?_) #[true, true, true, true, true, true, true, true, true, true, true, true, true, true] rfl rfl (any_of HT_.out (by kernel_rfl)) (fun _ _ _ h => h) (Or.inl ⟨by rfl, ?_⟩) ?_ ?_
  rotate_left
  · intro w'
    go_simp
    with_reducible rfl
  rotate_left
  · simp only [Act.put, List.setIfInBounds_toArray, List.set_cons_zero, List.set_cons_succ, i64_w, i32_w]
    rfl
  refine done_ (done_of HT_.out (by kernel_rfl)) ?_
  have hr := HRR.out
  rw [if_pos rfl] at hr
  injection hr with hr1 hr2
  injection hr2 with hr2 hr3
  have HR1 := Aside0.mk hr1
  have HR2 := Aside0.mk hr2
  have HR3 := Aside0.mk hr3
  have HLC2 := Aside0.mk (Kd.C_below HLC.out hHeld)
  have HF3 := Aside0.mk (HF.out.below hHeld)
  have HM3 := Aside0.mk ((Mov.of_below (lo := lo) (hi := hi) HB2.out).trans (Mov.of_below hHeld))
  clear hr1 hr2 hr3 hS0 hHeld HT_ HW_ HRR HLC HPC HLC0 HPC0 HTB HF HB2 HT H HCB
  have HLC := HLC2
  have HF := HF3
  clear HLC2 HF3
  generalize wk = w4 at HF HM3 HLC ⊢
  rcases A with _ | A0
  · exfalso
    have h9 := HSZ.out.1
    have h10 := HLC.out
    cases l with
    | nil => simp at h9
    | cons y ys => obtain ⟨ad, h11, _⟩ := h10.2.2 (by simp); cases h11
  obtain ⟨_, _, c2, c3, _⟩ := HF.out.blk.cu HFR.out
  clear c2 c3
  go_upto_region 11 with (fail)
  have hS0 : Below w4.heap.size w4 w4.drew := below_drew1 (Below.refl _ _)
  refine start_ (n := 8) (S := fun w' => Below w4.heap.size w4 w') (ds := [7]) #[false, false, false, false, false, false, false, false] (by kernel_rfl) rfl rfl (by exact hS0) (fun hHeld => ?_)
  refine with_tabW hea_tab11 hea_bits11 (fun HT_ HW_ => ?_)
  generalize w4.drew = wr at hHeld hS0 ⊢
  refine pure_ (i := 0) (N := some 66) (v := ?_) (a' := ?_) #[true, false, false, false, false, false, false, false] rfl rfl (any_of HT_.out (by kernel_rfl)) (fun _ _ _ h => h) (Or.inl ⟨by rfl, ?_⟩) ?_ ?_
  rotate_left
  · intro w'
    go_simp
    with_reducible rfl
  rotate_left
  · simp only [Act.put, List.setIfInBounds_toArray, List.set_cons_zero, List.set_cons_succ, i64_w, i32_w]
    rfl
  refine pure_ (i := 1) (N := some 67) (v := ?_) (a' := ?_) #[true, true, false, false, false, false, false, false] rfl rfl (any_of HT_.out (by kernel_rfl)) (fun _ _ _ h => h) (Or.inl ⟨by rfl, ?_⟩) ?_ ?_
  rotate_left
  · intro w'
    go_simp
    with_reducible rfl
  rotate_left
  · simp only [Act.put, List.setIfInBounds_toArray, List.set_cons_zero, List.set_cons_succ, i64_w, i32_w]
    rfl
  refine pure_ (i := 2) (N := some 68) (v := ?_) (a' := ?_) #[true, true, true, false, false, false, false, false] rfl rfl (any_of HT_.out (by kernel_rfl)) (fun _ _ _ h => h) (Or.inl ⟨by rfl, ?_⟩) ?_ ?_
  rotate_left
  · intro w'
    go_simp
    with_reducible rfl
  rotate_left
  · simp only [Act.put, List.setIfInBounds_toArray, List.set_cons_zero, List.set_cons_succ, i64_w, i32_w]
    rfl
  refine pure_ (i := 4) (N := some 70) (v := ?_) (a' := ?_) #[true, true, true, false, true, false, false, false] rfl rfl (any_of HT_.out (by kernel_rfl)) (fun _ _ _ h => h) (Or.inl ⟨by rfl, ?_⟩) ?_ ?_
  rotate_left
  · intro w'
    go_simp
    with_reducible rfl
  rotate_left
  · simp only [Act.put, List.setIfInBounds_toArray, List.set_cons_zero, List.set_cons_succ, i64_w, i32_w]
    rfl
  refine pure_ (i := 5) (N := some 71) (v := ?_) (a' := ?_) #[true, true, true, false, true, true, false, false] rfl rfl (any_of HT_.out (by kernel_rfl)) (fun _ _ _ h => h) (Or.inl ⟨by rfl, ?_⟩) ?_ ?_
  rotate_left
  · intro w'
    go_simp
    with_reducible rfl
  rotate_left
  · simp only [Act.put, List.setIfInBounds_toArray, List.set_cons_zero, List.set_cons_succ, i64_w, i32_w]
    rfl
  refine take_ (i := 3) (N := some 69) (v := ?_) (a' := ?_) #[true, true, true, true, true, true, false, false] rfl rfl (take_ofW HT_.out HW_.out (by kernel_rfl)) (fun _ _ _ h => h) (Or.inl ⟨by rfl, ?_⟩) hHeld ?_ ?_
  rotate_left
  · intro w' hSt
    obtain ⟨_, _, _, c3, _⟩ := (HF.out.below hSt).blk.cu HFR.out
    go_simp
    with_reducible rfl
  rotate_left
  · simp only [Act.put, List.setIfInBounds_toArray, List.set_cons_zero, List.set_cons_succ, i64_w, i32_w]
    rfl
  refine one_ (i := 6) (N := some 72) #[true, true, true, true, true, true, true, false] rfl rfl (one_of HT_.out (by kernel_rfl)) (by decide) (fun K hK => ?_)
  refine goes_ Tryd.func42 (by kernel_rfl) rfl #[.slice (some A0) l.length cl] (by rfl) rfl rfl (by (try simp only [List.map_toArray, List.map_cons, List.map_nil]); first | done | rfl) ?_
  refine (bclone_some A0 cl l _ (Kd.C_below HLC.out hHeld) (by have := HSZ.out; omega)).mono ?_
  rintro e wk ⟨v, rfl, ho, hv, hb⟩
  refine ⟨_, rfl, ?_⟩
  have HSS := Aside0.mk hHeld.size
  have HO := Aside0.mk ho
  have HV := Aside0.mk hv
  have hS1 := below_step hHeld hb
  clear hb ho hv
  refine hK.out _ _ (by exact hS1) (fun hHeld => ?_)
  clear hK K
  refine norm_ (a' := ?_) ?_ ?_
  rotate_left
  · first
    | (show Act.put _ (some 72) _ = _; simp only [Act.put, List.setIfInBounds_toArray, List.set_cons_zero, List.set_cons_succ, i64_w, i32_w]; rfl)
    | rfl
  refine last_ (i := 7) (N := none) #[true, true, true, true, true, true, true, true] rfl rfl (one_of HT_.out (by kernel_rfl)) (by decide) (fun K hK => ?_)
  have hgx := HF.out.mp.lt
  have hHS := HSS.out
  obtain ⟨⟨gv, hgv, hgb⟩, hoi⟩ := own_ints (base' := a.gx + 1) HO.out HLB.out HV.out (by omega)
  obtain ⟨w7, hrun, hmk, hgr⟩ := HF.out.mp.put (by omega) (i := j) (by have := HJ.out; omega) hHeld hoi HSZ.out.2 ⟨gv, hgv, by omega⟩
  refine skip_ (w1 := w7) (by rfl) rfl ?_ ?_
  · go_simp
  have HMK := Aside0.mk hmk
  have HGR := Aside0.mk hgr
  have HHE := Aside0.mk hHeld
  clear hrun hmk hgr hoi hgv hgb hgx hHS
  refine hK.out _ _ ?_
  clear hK K
  refine norm_ (a' := ?_) ?_ ?_
  rotate_left
  · first
    | (show Act.put _ none _ = _; simp only [Act.put, List.setIfInBounds_toArray, List.set_cons_zero, List.set_cons_succ, i64_w, i32_w]; rfl)
    | rfl
  refine done_ (done_of HT_.out (by kernel_rfl)) ?_
  have HF7 := Aside0.mk (HF.out.stored (fun k hk hne => ((HGR.out.block k (Nat.lt_of_lt_of_le hk HHE.out.size) (fun e => hne (by injection e))).trans (HHE.out.block k hk))) (HMK.out.more (by omega)) (fun q => by unfold updK; split; exact ⟨HSZ.out.2, HLB.out⟩; exact HF.out.hK q))
  have HM7 := Aside0.mk (HM3.out.trans (show Mov lo hi w4 w7 from ⟨HGR.out.os.trans HHE.out.os, HGR.out.tape.trans HHE.out.tape, HGR.out.output.trans HHE.out.output, Nat.le_trans HHE.out.size HGR.out.size, fun k hk h1 => ((HGR.out.block k (Nat.lt_of_lt_of_le hk HHE.out.size) (fun e => by injection e with e; have := HIN.out.x; omega)).trans (HHE.out.block k hk))⟩))
  obtain ⟨_, _, c2, _⟩ := HF7.out.blk.cu HFR.out
  rw [Int.toNat_natCast] at HR3
  clear hS0 HT_ HW_ HM3 HGR HHE HMK HO HV HSS HF
  go_wp2_with fail
  refine (had_at (r := r) (s' := s') (j : Int) _ HF7.out.pl (by rw [HNN.out]; exact HR1.out) (by rw [HNN.out]; exact HR2.out)).mono ?_
  rintro e w9 ⟨rfl, hpw, hch⟩
  have HF9 := Aside0.mk (HF7.out.turn hpw hch)
  have HM9 := Aside0.mk (HM7.out.trans (Mov.of_chg hch HIN.out.c HIN.out.d HIN.out.m))
  clear hpw hch c2
  go_wp2
  go_ret
  exact ⟨rfl, by rw [← HR3.out]; exact HF9.out, HM9.out⟩
end Go.Proofs.YtoiblfmlahedlaaDoor.Fe
end
section
namespace Go.Proofs.YtoiblfmlahedlaaDoor.Fe
open Go.RowKit Go.Proofs.YtoiblfmlahedlaaDoorW.PrintWords Go.Proofs.YtoiblfmlahedlaaDoorW.PrintLast Go.Proofs.YtoiblfmlahedlaaDoorW.PrintMore
set_option linter.unusedVariables false
set_option linter.unusedSimpArgs false
set_option maxRecDepth 100000
open Go.Proofs.YtoiblfmlahedlaaDoor.As (St PW Pl Chg leftF ks0 mayB inB new_at)
open Go.Proofs.YtoiblfmlahedlaaDoor.Sha (cb vd countN rootOf checkB B KD isRow)
theorem cloneP {A : Option Addr} {c : Nat} {xs : List Int} (w : World) (hr : I.C w A xs.length xs) (hl : xs.length ≤ 1000000) :
    Calls Tryd.prog 30 #[.slice A xs.length c] w fun e w' => ∃ v, e = .returned v ∧ Kd.R I 3 w' w.heap.size (fun _ => True) v xs ∧ Below w.heap.size w w' := by
  rcases A with _ | a
  · cases xs with
    | nil =>
      refine (clone_nil c w).mono ?_
      rintro e w' ⟨rfl, rfl⟩
      exact ⟨_, rfl, Kd.R_nil _ _ _ _ _, Below.refl _ _⟩
    | cons y ys => obtain ⟨ad, h11, _⟩ := hr.2.2 (by simp); cases h11
  · refine (clone_some a c xs w hr hl).mono ?_
    rintro e w' ⟨v, rfl, h1, _, h2⟩
    exact ⟨v, rfl, h1, h2⟩
theorem peR {w : World} {base : Nat} {v : Value} {xs : List Int} (h : Kd.R I 3 w base (fun _ => True) v xs) : ∃ A c, v = .slice A xs.length c ∧ Pe w A xs ∧ ∀ g, A = some ⟨g, 0, none⟩ → base ≤ g := by
  have ho := Kd.own_of_R h
  rcases ho with ⟨e0, ⟨h0, h1⟩ | ⟨g, cap, cur, rfl, hB, hg, hnc, hcm, hcs, ht⟩⟩
  · have : xs = [] := List.eq_nil_of_length_eq_zero h1
    subst this
    exact ⟨none, 0, h0, Or.inl ⟨rfl, rfl⟩, fun g e => by cases e⟩
  · refine ⟨_, _, rfl, Or.inr ⟨g, cur, rfl, hg, fun j x hx => ?_⟩, fun g' e => by injection e with e; injection e with e; omega⟩
    have hj := (List.getElem?_eq_some_iff.1 hx).1
    have e : (cur.toList.take (xs.length * 1))[j]? = cur.toList[j]? := List.getElem?_take_of_lt (by omega)
    rw [ht] at e
    have e2 : (encs (Value.int .i64) xs)[j]? = some (.int .i64 x) := by
      unfold encs
      rw [List.getElem?_map, hx]
      rfl
    rw [← Array.getElem?_toList, ← e]
    exact e2
def Cl (w : World) (base : Nat) (v : Value) (n : Nat) (xs : List Int) : Prop := (v = .slice none 0 0 ∧ n = 0 ∧ xs = []) ∨ ∃ g cap, v = .slice (some ⟨g, 0, none⟩) n cap ∧ xs.length = n ∧ Nm w base g cap xs
theorem sortP {base : Nat} {v : Value} {xs : List Int} (w : World) (h : Kd.R I 3 w base (fun _ => True) v xs) (hl : xs.length ≤ 1000000) :
    Calls Tryd.prog 31 #[v] w fun e w' => e = .returned (.tuple #[]) ∧ Cl w' base v xs.length (srt xs) ∧ Below base w w' := by
  by_cases hv : v = .slice none 0 0
  · subst hv
    have hx : xs = [] := by
      rcases Kd.own_of_R h with ⟨e0, ⟨h0, h1⟩ | ⟨g, cap, cur, h0, _⟩⟩
      · exact List.eq_nil_of_length_eq_zero h1
      · cases h0
    subst hx
    refine (Tryd.slices_Sort_int_none none 0 w).mono ?_
    rintro e w' ⟨rfl, rfl⟩
    exact ⟨rfl, Or.inl ⟨rfl, rfl, by simp [srt]⟩, Below.refl _ _⟩
  · obtain ⟨g, cap, rfl, hn⟩ := nm_of_R h hv
    refine (sort_calls w hn hl).mono ?_
    rintro e w' ⟨rfl, h1, h2⟩
    exact ⟨rfl, Or.inr ⟨g, cap, rfl, List.length_mergeSort _, h1⟩, h2⟩
theorem compactP {base n : Nat} {v : Value} {xs : List Int} (w : World) (h : Cl w base v n xs) (hl : n ≤ 1000000) :
    Calls Tryd.prog 32 #[v] w fun e w' => ∃ A c, e = .returned (.slice A (Go.Lib.compact xs).length c) ∧ Below base w w' := by
  rcases h with ⟨rfl, rfl, rfl⟩ | ⟨g, cap, rfl, hn, h⟩
  · refine (Tryd.slices_Compact_int_empty none 0 w).mono ?_
    rintro e w' ⟨rfl, rfl⟩
    exact ⟨none, 0, by rfl, Below.refl _ _⟩
  · subst hn
    refine (compact_calls w h hl).mono ?_
    rintro e w' ⟨rfl, h1⟩
    exact ⟨_, _, rfl, h1⟩
def fmayB (L : Int) (ps : List Int) (win tm bu : Int) : Bool :=
  if 1 ≤ L ∧ L ≤ 5000 ∧ ps.Nodup ∧ 1 ≤ bu ∧ bu ≤ 1000000 then mayB (countN L.toNat) ps.length win tm else false
def NewY (w w' : World) (R : List Int) (L : Nat) (ps : List Int) (win tm : Int) (bu : Nat) (be : Int) (v : Value) : Prop :=
  ∃ a : Ad, v = .pointer (some ⟨a.p, 0, none⟩) ∧ FW w' a ⟨R, L, ps, win, tm, bu, be⟩ 0 ks0 (fun _ => []) ∧ In a w.heap.size w'.heap.size ∧ Below w.heap.size w w'
end Go.Proofs.YtoiblfmlahedlaaDoor.Fe
end
section
namespace Go.Proofs.YtoiblfmlahedlaaDoor.Fe
open Go.RowKit Go.Proofs.YtoiblfmlahedlaaDoorW.PrintWords Go.Proofs.YtoiblfmlahedlaaDoorW.PrintLast Go.Proofs.YtoiblfmlahedlaaDoorW.PrintMore
set_option linter.unusedVariables false
set_option linter.unusedSimpArgs false
set_option maxRecDepth 100000
open Go.Proofs.YtoiblfmlahedlaaDoor.As (St PW Pl Chg leftF ks0 mayB inB new_at)
open Go.Proofs.YtoiblfmlahedlaaDoor.Sha (cb vd countN rootOf checkB B KD isRow)
def NF (base : Nat) (w : World) (v : Value) (ps : List Int) : Prop := ∃ A c, v = .slice A ps.length c ∧ Pe w A ps ∧ ∀ g, A = some ⟨g, 0, none⟩ → base ≤ g
theorem NF.below {base : Nat} {w w' : World} {v : Value} {ps : List Int} (h : NF base w v ps) (hb : Below w.heap.size w w') : NF base w' v ps := by
  obtain ⟨A, c, e, h1, h2⟩ := h
  exact ⟨A, c, e, h1.below hb, h2⟩
theorem NF.of {b base : Nat} {w : World} {v : Value} {ps : List Int} (h : Kd.R I 3 w base (fun _ => True) v ps) (hb : b ≤ base) : NF b w v ps := by
  obtain ⟨A, c, e, h1, h2⟩ := peR h
  exact ⟨A, c, e, h1, fun g hg => Nat.le_trans hb (h2 g hg)⟩
theorem box_load {w : World} {g : Nat} {R : List Int} (h : w.heap[g]? = some (.cells (cb R) 31 (0, 0))) (hR : R.length = 32) : (Instr.loadAt 31 (.pointer (some ⟨g, 0, none⟩))).run Tryd.prog w = .ok (.agg (cb R)) w :=
  Sha.run_loadAt_cells w _ 31 (cb R) _ (by
    have := run_loadCells_list (P := Tryd.prog) (w := w) ⟨g, 0, none⟩ (R.map (Value.int .u8)) (fun j v hv => by
      rw [show (Addr.mk g 0 none).add j = ⟨g, 0 + j, none⟩ by simp [Addr.add_lit], Nat.zero_add]
      have h2 : (cb R)[j]? = some v := by
        unfold cb
        rw [List.getElem?_toArray]
        exact hv
      simp [World.cell?, h, h2])
    simpa [loadCells, cb] using this) Tryd.underlying31 rfl (Sha.infoDg _ hR)
theorem exec_build_ {P : Program} {o : Oper} {a : Act} {w : World} {t : TypeId} {parts : Array (Nat × Operand)} {cells : Array Value} (ho : o.op = .build t parts) (h : P.built t (parts.map fun (i, x) => (i, a.eval x)).toList = some cells) : (execOp a.eval o).run P w = .ok (.value (.agg cells)) w := by
  have h1 := run_build (P := P) w t (parts.map fun (i, x) => (i, a.eval x)) cells h
  unfold execOp
  simp only [ho, Sem.run_bind, h1, Result.andThen_ok]
  rfl
theorem built_fetch {R : List Int} (hR : R.length = 32) (a : Ad) (f : Cf) (hf : f.R = R) :
    Tryd.prog.built 62 [(0, vd R), (1, .int .i64 (f.L : Int)), (2, .slice a.A f.ps.length a.cp), (3, .pointer (some ⟨a.q, 0, none⟩)), (4, .map (some a.gx)), (5, .int .i64 (f.bu : Int)), (6, .int .i64 f.be)] = some (fCs a f) := by
  subst hf
  obtain ⟨R, L, ps, win, tm, bu, be⟩ := f
  match R, hR with
  | [r0, r1, r2, r3, r4, r5, r6, r7, r8, r9, r10, r11, r12, r13, r14, r15, r16, r17, r18, r19, r20, r21, r22, r23, r24, r25, r26, r27, r28, r29, r30, r31], _ =>
    show _ = _
    kernel_rfl
theorem mk_new {w : World} {gx : Nat} (h : w.heap[gx]? = some (.map #[] 0)) : Mk w gx 64 (fun _ => []) :=
  ⟨.map [], ⟨#[], 0, h, ⟨by simp, ⟨by simp, by simp⟩, by simp⟩, by simp, rfl, by omega, by simp, by simp⟩, ⟨[], rfl⟩, fun i hi => rfl, by omega⟩
def fnw_T8 : Bool × List (List Nat × List Nat) := (true, [([], []), ([], []), ([], []), ([2], [2]), ([], []), ([], []), ([], []), ([], []), ([0, 1, 3, 4, 5, 6, 7], [0, 1, 3, 4, 5, 6, 7]), ([8], [8]), ([9, 3, 0, 1, 2, 3, 4, 5, 6, 7, 8, 9], [9]), ([10, 0, 1, 2, 3, 4, 5, 6, 7, 8, 9, 10], [])])
def fnw_B8 : List Nat := [0, 0, 0, 4, 0, 0, 0, 0, 255, 511, 1023, 2047]
theorem fnw_tab8 : rtab .any (opsOf Tryd.f12 8) = fnw_T8 := by kernel_rfl
theorem fnw_bits8 : waitsOk fnw_T8.2 fnw_B8 = true := by kernel_rfl
set_option maxHeartbeats 3200000 in
theorem fnew_yes {w : World} {R ps : List Int} {A : Option Addr} {cp : Nat} {L win tm bu be : Int} (hR : R.length = 32) (hRb : Sha.bytes R) (hp : I.C w A ps.length ps) (hpc : ps.length ≤ 1000000) (hpw : ∀ x ∈ ps, -9223372036854775808 ≤ x ∧ x ≤ 9223372036854775807)
    (hbe : -9223372036854775808 ≤ be ∧ be ≤ 9223372036854775807) (hok : fmayB L ps win tm bu = true) :
    Calls Tryd.prog 12 #[vd R, .int .i64 L, .slice A ps.length cp, .int .i64 win, .int .i64 tm, .int .i64 bu, .int .i64 be] w fun e w' => ∃ v, e = .returned (.tuple #[v, .int .i64 0]) ∧ NewY w w' R L.toNat ps win tm bu.toNat be v := by
  have HR := Aside0.mk hR
  have HRb := Aside0.mk hRb
  have HP := Aside0.mk hp
  have HPW := Aside0.mk hpw
  have HBE := Aside0.mk hbe
  have HCM := Aside0.mk (twins ps)
  have HOK := Aside0.mk hok
  clear hR hRb hp hpw hbe hok
  go_enter Tryd.func12, Tryd.ntmps12
  go_upto_region 1 with (fail)
  obtain ⟨w2, hw2⟩ : ∃ w2, w.alloc (.cells (cb R) 31) = w2 := ⟨_, rfl⟩
  have hn0 : w2.heap[w.heap.size]? = some (.cells (cb R) 31 (0, 0)) := by rw [← hw2]; exact Go.Proofs.YtoiblfmlahedlaaDoor.As.heap_new _ _
  have HB2 := Aside0.mk (show Below w.heap.size w w2 by rw [← hw2]; exact (Below.refl _ _).alloc (Nat.le_refl _) _)
  have HN0 := Aside0.mk hn0
  have HSZ2 := Aside0.mk (show w2.heap.size = w.heap.size + 1 by rw [← hw2]; simp)
  first | rw [hw2] | (simp only [vd, cb] at hw2 ⊢; rw [hw2])
  clear hw2 hn0
  generalize hgp : w.heap.size = gp at HN0 ⊢
  replace hgp := Aside0.mk hgp
  go_wp2_with fail
  refine (cloneP _ (Kd.C_below HP.out HB2.out) hpc).mono ?_
  rintro e w3 ⟨v3, rfl, hR3, hb⟩
  have HR3 := Aside0.mk hR3
  have HB3 := Aside0.mk hb
  clear hR3 hb
  go_wp2_with fail
  refine (sortP _ HR3.out hpc).mono ?_
  rintro e w4 ⟨rfl, hcl, hb⟩
  have HCL := Aside0.mk hcl
  have HB4 := Aside0.mk (HB3.out.trans hb)
  have HB5 := Aside0.mk (below_step HB2.out HB4.out)
  clear hcl hb
  have hmay := HOK.out
  unfold fmayB at hmay
  by_cases hcs : 1 ≤ L ∧ L ≤ 5000 ∧ ps.Nodup ∧ 1 ≤ bu ∧ bu ≤ 1000000
  rotate_left
  · rw [if_neg hcs] at hmay
    cases hmay
  rw [if_pos hcs] at hmay
  obtain ⟨h1, h2, h3, h4, h5⟩ := hcs
  obtain ⟨L, rfl⟩ := Int.eq_ofNat_of_zero_le (show 0 ≤ L by omega)
  obtain ⟨bu, rfl⟩ := Int.eq_ofNat_of_zero_le (show 0 ≤ bu by omega)
  rw [Int.toNat_natCast] at hmay
  have HMAY := Aside0.mk hmay
  have hL : 1 ≤ L ∧ L ≤ 5000 := by omega
  have HBU := Aside0.mk (show 1 ≤ bu ∧ bu ≤ 1000000 by omega)
  have h3' := HCM.out.2 h3
  have e1 : decide ((L : Int) < 1) = false := decide_eq_false (by omega)
  have e1' : decide (L < 1) = false := decide_eq_false (by omega)
  have e2 : decide ((L : Int) > 5000) = false := decide_eq_false (by omega)
  have e2' : decide (L > 5000) = false := decide_eq_false (by omega)
  have e7 : decide ((bu : Int) < 1) = false := decide_eq_false (by omega)
  have e7' : decide (bu < 1) = false := decide_eq_false (by omega)
  have e8 : decide ((bu : Int) > 1000000) = false := decide_eq_false (by omega)
  have e8' : decide (bu > 1000000) = false := decide_eq_false (by omega)
  clear h1 h2 h3 h4 h5 hmay
  replace hL := Aside0.mk hL
  go_wp2_with fail
  refine (compactP _ HCL.out hpc).mono ?_
  rintro e w6 ⟨A6, c6, rfl, hb⟩
  have HB6 := Aside0.mk (below_step HB2.out (HB4.out.trans hb))
  have HB26 := Aside0.mk (HB4.out.trans hb)
  clear hb
  rw [h3']
  clear h3'
  go_wp2_with fail
  refine (Sha.count_calls L _ (by have := hL.out; omega)).mono ?_
  rintro e w7 ⟨rfl, hw⟩
  replace hw := hw.symm
  subst hw
  go_wp2_with fail
  refine (new_at _ _ _ _ _ HMAY.out).mono ?_
  rintro e w7 ⟨q, gc, gd, gm, cc, cd, rfl, hpw7, hb, l1, l2, l3, l4⟩
  have HPW7 := Aside0.mk hpw7
  have HB7 := Aside0.mk hb
  have HLL := Aside0.mk (show w6.heap.size ≤ q ∧ w6.heap.size ≤ gc ∧ w6.heap.size ≤ gd ∧ w6.heap.size ≤ gm from ⟨l1, l2, l3, l4⟩)
  clear hpw7 hb l1 l2 l3 l4
  have HN7 := Aside0.mk (Go.Proofs.YtoiblfmlahedlaaDoor.As.heap_keep HN0.out (below_step HB26.out HB7.out))
  have HP7 := Aside0.mk (Kd.C_below HP.out (below_step HB6.out HB7.out))
  have k3 := @run_makeMap Tryd.prog
  go_upto_region 8 with (fail)
  have hS0 : Below w7.heap.size w7 w7.drew := below_drew1 (Below.refl _ _)
  refine start_ (n := 12) (S := fun w' => Below w7.heap.size w7 w') (ds := []) #[false, false, false, false, false, false, false, false, false, false, false, false] (by kernel_rfl) rfl rfl (by exact hS0) (fun hHeld => ?_)
  refine with_tabW fnw_tab8 fnw_bits8 (fun HT_ HW_ => ?_)
  generalize w7.drew = wq at hHeld hS0 ⊢
  refine pure_ (i := 1) (N := some 59) (v := ?_) (a' := ?_) #[false, true, false, false, false, false, false, false, false, false, false, false] rfl rfl (any_of HT_.out (by kernel_rfl)) (fun _ _ _ h => h) (Or.inl ⟨by rfl, ?_⟩) ?_ ?_
  rotate_left
  · intro w'
    go_simp
    with_reducible rfl
  rotate_left
  · simp only [Act.put, List.setIfInBounds_toArray, List.set_cons_zero, List.set_cons_succ, i64_w, i32_w]
    rfl
  refine pure_ (i := 2) (N := some 60) (v := ?_) (a' := ?_) #[false, true, true, false, false, false, false, false, false, false, false, false] rfl rfl (any_of HT_.out (by kernel_rfl)) (fun _ _ _ h => h) (Or.inl ⟨by rfl, ?_⟩) ?_ ?_
  rotate_left
  · intro w'
    go_simp
    with_reducible rfl
  rotate_left
  · simp only [Act.put, List.setIfInBounds_toArray, List.set_cons_zero, List.set_cons_succ, i64_w, i32_w]
    rfl
  refine pure_ (i := 4) (N := some 62) (v := ?_) (a' := ?_) #[false, true, true, false, true, false, false, false, false, false, false, false] rfl rfl (any_of HT_.out (by kernel_rfl)) (fun _ _ _ h => h) (Or.inl ⟨by rfl, ?_⟩) ?_ ?_
  rotate_left
  · intro w'
    go_simp
    with_reducible rfl
  rotate_left
  · simp only [Act.put, List.setIfInBounds_toArray, List.set_cons_zero, List.set_cons_succ, i64_w, i32_w]
    rfl
  refine pure_ (i := 6) (N := some 64) (v := ?_) (a' := ?_) #[false, true, true, false, true, false, true, false, false, false, false, false] rfl rfl (any_of HT_.out (by kernel_rfl)) (fun _ _ _ h => h) (Or.inl ⟨by rfl, ?_⟩) ?_ ?_
  rotate_left
  · intro w'
    go_simp
    with_reducible rfl
  rotate_left
  · simp only [Act.put, List.setIfInBounds_toArray, List.set_cons_zero, List.set_cons_succ, i64_w, i32_w]
    rfl
  refine pure_ (i := 7) (N := some 65) (v := ?_) (a' := ?_) #[false, true, true, false, true, false, true, true, false, false, false, false] rfl rfl (any_of HT_.out (by kernel_rfl)) (fun _ _ _ h => h) (Or.inl ⟨by rfl, ?_⟩) ?_ ?_
  rotate_left
  · intro w'
    go_simp
    with_reducible rfl
  rotate_left
  · simp only [Act.put, List.setIfInBounds_toArray, List.set_cons_zero, List.set_cons_succ, i64_w, i32_w]
    rfl
  refine take_ (i := 0) (N := some 58) (v := ?_) (a' := ?_) #[true, true, true, false, true, false, true, true, false, false, false, false] rfl rfl (take_ofW HT_.out HW_.out (by kernel_rfl)) (fun _ _ _ h => h) (Or.inl ⟨by rfl, ?_⟩) hHeld ?_ ?_
  rotate_left
  · intro w' hSt
    refine (Sha.exec_load (p := .pointer (some ⟨gp, 0, none⟩)) rfl rfl (box_load (Go.Proofs.YtoiblfmlahedlaaDoor.As.heap_keep HN7.out hSt) HR.out)).trans ?_
    rfl
  rotate_left
  · simp only [Act.put, List.setIfInBounds_toArray, List.set_cons_zero, List.set_cons_succ, i64_w, i32_w]
    rfl
  refine join_ (σ := Value × Nat) 4 #[true, true, true, true, true, true, true, true, false, false, false, false] (fun s => [(61, s.1), (63, .map (some s.2))]) (fun s w' => Aside0 (NF w7.heap.size w' s.1 ps) ∧ Aside0 (w'.heap[s.2]? = some (.map #[] 0)) ∧ Aside0 (w7.heap.size ≤ s.2) ∧ Aside0 (Below w7.heap.size w7 w')) ?_ ?_
  rotate_left
  · intro hJ
    refine two_ (i := 3) (j := 5) (Ni := some 61) (Nj := some 63) #[true, true, true, true, true, false, true, true, false, false, false, false] #[true, true, true, false, true, true, true, true, false, false, false, false] rfl rfl rfl rfl (two_of HT_.out (by kernel_rfl)) (by decide) (by decide) (fun K hK => ?_) (fun K hK => ?_)
    · skip
      refine goes_ Tryd.func30 (by kernel_rfl) rfl #[.slice A ps.length cp] (by rfl) rfl rfl (by (try simp only [List.map_toArray, List.map_cons, List.map_nil]); first | done | rfl) ?_
      refine (cloneP _ (Kd.C_below HP7.out hHeld) hpc).mono ?_
      rintro e v1 ⟨vv, rfl, hRv, hb1⟩
      refine ⟨_, rfl, ?_⟩
      have F1 := Aside0.mk (NF.of hRv hHeld.size)
      have hS1 := below_step hHeld hb1
      clear hRv
      refine hK.out _ _ (by exact hS1) (fun hHeld => ?_)
      clear hK K
      refine norm_ (a' := ?_) ?_ ?_
      rotate_left
      · first
        | (show Act.put _ (some 61) _ = _; simp only [Act.put, List.setIfInBounds_toArray, List.set_cons_zero, List.set_cons_succ, i64_w, i32_w]; rfl)
        | rfl
      refine one_ (i := 5) (N := some 63) #[true, true, true, true, true, true, true, true, false, false, false, false] rfl rfl (one_of HT_.out (by kernel_rfl)) (by decide) (fun K hK => ?_)
      obtain ⟨v4, hv4⟩ : ∃ v, v = World.alloc v1 (.map #[] 0) := ⟨_, rfl⟩
      refine value_ (v := .map (some v1.heap.size)) (w1 := v4) (by rfl) rfl (by rw [hv4]; go_simp; first | done | rfl) ?_
      have hb4 : Below v1.heap.size v1 v4 := by rw [hv4]; exact (Below.refl _ _).alloc (Nat.le_refl _) _
      have F2 := Aside0.mk (show v4.heap[v1.heap.size]? = some (.map #[] 0) by rw [hv4]; exact Go.Proofs.YtoiblfmlahedlaaDoor.As.heap_new _ _)
      have F3 := Aside0.mk (F1.out.below hb4)
      have G1 := Aside0.mk hHeld.size
      have hS1 := below_step hHeld hb4
      clear hv4
      refine hK.out _ _ (by exact hS1) (fun hHeld => ?_)
      clear hK K
      refine norm_ ?_ (hJ (vv, v1.heap.size) _ ⟨F3, F2, G1, ⟨hHeld⟩⟩)
      first
        | (simp only [putAll]; simp only [Act.put, List.setIfInBounds_toArray, List.set_cons_zero, List.set_cons_succ, i64_w, i32_w]; done)
        | (simp only [putAll]; simp only [Act.put, List.setIfInBounds_toArray, List.set_cons_zero, List.set_cons_succ, i64_w, i32_w]; rfl)
        | rfl
    · skip
      obtain ⟨v4, hv4⟩ : ∃ v, v = World.alloc wq (.map #[] 0) := ⟨_, rfl⟩
      refine value_ (v := .map (some wq.heap.size)) (w1 := v4) (by rfl) rfl (by rw [hv4]; go_simp; first | done | rfl) ?_
      have hb4 : Below wq.heap.size wq v4 := by rw [hv4]; exact (Below.refl _ _).alloc (Nat.le_refl _) _
      have F2 := Aside0.mk (show v4.heap[wq.heap.size]? = some (.map #[] 0) by rw [hv4]; exact Go.Proofs.YtoiblfmlahedlaaDoor.As.heap_new _ _)
      have G1 := Aside0.mk hHeld.size
      have hS1 := below_step hHeld hb4
      clear hv4
      refine hK.out _ _ (by exact hS1) (fun hHeld => ?_)
      clear hK K
      refine norm_ (a' := ?_) ?_ ?_
      rotate_left
      · first
        | (show Act.put _ (some 63) _ = _; simp only [Act.put, List.setIfInBounds_toArray, List.set_cons_zero, List.set_cons_succ, i64_w, i32_w]; rfl)
        | rfl
      refine one_ (i := 3) (N := some 61) #[true, true, true, true, true, true, true, true, false, false, false, false] rfl rfl (one_of HT_.out (by kernel_rfl)) (by decide) (fun K hK => ?_)
      refine goes_ Tryd.func30 (by kernel_rfl) rfl #[.slice A ps.length cp] (by rfl) rfl rfl (by (try simp only [List.map_toArray, List.map_cons, List.map_nil]); first | done | rfl) ?_
      refine (cloneP _ (Kd.C_below HP7.out hHeld) hpc).mono ?_
      rintro e v1 ⟨vv, rfl, hRv, hb1⟩
      refine ⟨_, rfl, ?_⟩
      have F1 := Aside0.mk (NF.of hRv hHeld.size)
      have F3 := Aside0.mk (Go.Proofs.YtoiblfmlahedlaaDoor.As.heap_keep F2.out hb1)
      have hS1 := below_step hHeld hb1
      clear hRv
      refine hK.out _ _ (by exact hS1) (fun hHeld => ?_)
      clear hK K
      refine norm_ ?_ (hJ (vv, wq.heap.size) _ ⟨F1, F3, G1, ⟨hHeld⟩⟩)
      first
        | (simp only [putAll]; simp only [Act.put, List.setIfInBounds_toArray, List.set_cons_zero, List.set_cons_succ, i64_w, i32_w]; done)
        | (simp only [putAll]; simp only [Act.put, List.setIfInBounds_toArray, List.set_cons_zero, List.set_cons_succ, i64_w, i32_w]; rfl)
        | rfl
  rintro ⟨vc, gx⟩ w9 ⟨HNF, HGX, HGL, HB9⟩
  replace HNF : Aside0 (NF w7.heap.size w9 vc ps) := HNF
  replace HGX : Aside0 (w9.heap[gx]? = some (.map #[] 0)) := HGX
  replace HGL : Aside0 (w7.heap.size ≤ gx) := HGL
  obtain ⟨A5, c5, e5, hpe5, hpa5⟩ := HNF.out
  subst e5
  have HPE5 := Aside0.mk hpe5
  have HPA5 := Aside0.mk hpa5
  clear hpe5 hpa5 HNF
  refine norm_ (a' := ?_) ?_ ?_
  rotate_left
  · simp only [putAll]
    simp only [Act.put, List.setIfInBounds_toArray, List.set_cons_zero, List.set_cons_succ, i64_w, i32_w]
    rfl
  have hHeld := HB9.out
  refine pure_ (i := 8) (N := some 66) (v := ?_) (a' := ?_) #[true, true, true, true, true, true, true, true, true, false, false, false] rfl rfl (any_of HT_.out (by kernel_rfl)) (fun _ _ _ h => h) (Or.inl ⟨by rfl, ?_⟩) ?_ ?_
  rotate_left
  · intro w'
    refine exec_build_ (t := 62) (parts := #[(0, .tmp 58), (1, .tmp 59), (2, .tmp 61), (3, .tmp 62), (4, .tmp 63), (5, .tmp 64), (6, .tmp 65)]) (cells := fCs ⟨w9.heap.size, A5, c5, q, gc, gd, gm, cc, cd, gx⟩ ⟨R, L, ps, win, tm, bu, be⟩) ?hob ?hbb
    case hob => rfl
    refine (Eq.trans (congrArg (Tryd.prog.built 62) ?_) (built_fetch HR.out ⟨w9.heap.size, A5, c5, q, gc, gd, gm, cc, cd, gx⟩ ⟨R, L, ps, win, tm, bu, be⟩ rfl))
    first | (go_simp; done) | rfl | (simp; done)
  rotate_left
  · simp only [Act.put, List.setIfInBounds_toArray, List.set_cons_zero, List.set_cons_succ, i64_w, i32_w]
    rfl
  refine one_ (i := 9) (N := some 67) #[true, true, true, true, true, true, true, true, true, true, false, false] rfl rfl (one_of HT_.out (by kernel_rfl)) (by decide) (fun K hK => ?_)
  obtain ⟨wA, hwA⟩ : ∃ wA, wA = w9.alloc (.cells (fCs ⟨w9.heap.size, A5, c5, q, gc, gd, gm, cc, cd, gx⟩ ⟨R, L, ps, win, tm, bu, be⟩) 62) := ⟨_, rfl⟩
  refine value_ (v := .pointer (some ⟨w9.heap.size, 0, none⟩)) (w1 := wA) (by rfl) rfl (by rw [hwA]; go_simp; first | done | rfl) ?_
  have hbA : Below w9.heap.size w9 wA := by rw [hwA]; exact (Below.refl _ _).alloc (Nat.le_refl _) _
  have HNW := Aside0.mk (show wA.heap[w9.heap.size]? = some (.cells (fCs ⟨w9.heap.size, A5, c5, q, gc, gd, gm, cc, cd, gx⟩ ⟨R, L, ps, win, tm, bu, be⟩) 62 (0, 0)) by rw [hwA]; exact Go.Proofs.YtoiblfmlahedlaaDoor.As.heap_new _ _)
  have HNS := Aside0.mk (show w9.heap.size < wA.heap.size from (Array.getElem?_eq_some_iff.1 HNW.out).1)
  have HBA := Aside0.mk hbA
  have HB9S := Aside0.mk hHeld.size
  have hS1 := below_step hHeld hbA
  clear hwA
  refine hK.out _ _ (by exact hS1) (fun hHeld => ?_)
  clear hK K
  refine norm_ (a' := ?_) ?_ ?_
  rotate_left
  · first
    | (show Act.put _ (some 67) _ = _; simp only [Act.put, List.setIfInBounds_toArray, List.set_cons_zero, List.set_cons_succ, i64_w, i32_w]; rfl)
    | rfl
  refine pure_ (i := 10) (N := some 14) (v := ?_) (a' := ?_) #[true, true, true, true, true, true, true, true, true, true, true, false] rfl rfl (any_of HT_.out (by kernel_rfl)) (fun _ _ _ h => h) (Or.inl ⟨by rfl, ?_⟩) ?_ ?_
  rotate_left
  · intro w'
    go_simp
    with_reducible rfl
  rotate_left
  · simp only [Act.put, List.setIfInBounds_toArray, List.set_cons_zero, List.set_cons_succ, i64_w, i32_w]
    rfl
  refine pure_ (i := 11) (N := some 15) (v := ?_) (a' := ?_) #[true, true, true, true, true, true, true, true, true, true, true, true] rfl rfl (any_of HT_.out (by kernel_rfl)) (fun _ _ _ h => h) (Or.inl ⟨by rfl, ?_⟩) ?_ ?_
  rotate_left
  · intro w'
    go_simp
    with_reducible rfl
  rotate_left
  · simp only [Act.put, List.setIfInBounds_toArray, List.set_cons_zero, List.set_cons_succ, i64_w, i32_w]
    rfl
  refine done_ (done_of HT_.out (by kernel_rfl)) ?_
  have hHH := hHeld
  clear hS0 hHeld HT_ HW_
  go_wp2
  go_ret2
  refine ⟨_, rfl, ?_⟩
  rw [Int.toNat_natCast, Int.toNat_natCast]
  have hq := (Array.getElem?_eq_some_iff.1 HPW7.out.pl.blk).1
  obtain ⟨_, gc1, _⟩ := HPW7.out.pl.ch
  obtain ⟨_, gd1, _⟩ := HPW7.out.pl.de
  obtain ⟨_, ⟨_, _, gm1, _⟩, _⟩ := HPW7.out.mp
  have hgc := (Array.getElem?_eq_some_iff.1 gc1).1
  have hgd := (Array.getElem?_eq_some_iff.1 gd1).1
  have hgm := (Array.getElem?_eq_some_iff.1 gm1).1
  have hgx := (Array.getElem?_eq_some_iff.1 HGX.out).1
  have hgl := HGL.out
  have hll := HLL.out
  have h6s := HB6.out.size
  have hns := HNS.out
  have h9s := HB9S.out
  have hm1 := HPW7.out.pl.m1
  refine ⟨⟨w9.heap.size, A5, c5, q, gc, gd, gm, cc, cd, gx⟩, rfl, ⟨HNW.out, HPW7.out.below hHH, HPE5.out.below HBA.out, mk_new (Go.Proofs.YtoiblfmlahedlaaDoor.As.heap_keep HGX.out HBA.out), ?_, ?_, ?_, HR.out, HRb.out, hL.out, hm1, HBU.out, HBE.out, HPW.out, fun i => ⟨by simp, fun x hx => by cases hx⟩⟩, ⟨?_, ?_, ?_, ?_, ?_, ?_⟩, below_step (below_step HB6.out HB7.out) hHH⟩
  all_goals simp only []
  all_goals first | omega | (intro g hg; have := HPA5.out g hg; omega)
end Go.Proofs.YtoiblfmlahedlaaDoor.Fe
end
section
namespace Go.Proofs.YtoiblfmlahedlaaDoor.Fe
open Go.RowKit Go.Proofs.YtoiblfmlahedlaaDoorW.PrintWords Go.Proofs.YtoiblfmlahedlaaDoorW.PrintLast Go.Proofs.YtoiblfmlahedlaaDoorW.PrintMore
set_option linter.unusedVariables false
set_option linter.unusedSimpArgs false
set_option maxRecDepth 100000
open Go.Proofs.YtoiblfmlahedlaaDoor.Sha (cb vd countN rootOf checkB B KD isRow)
def Nil (w : World) (v : Value) : Prop := v = .pointer none ∨ ∃ p, v = .pointer (some ⟨p, 0, none⟩) ∧ w.cell? ⟨p, 34, none⟩ = some (.pointer none)
theorem Nil.below {w w' : World} {v : Value} (h : Nil w v) (hb : Below w.heap.size w w') : Nil w' v := by
  rcases h with rfl | ⟨p, rfl, h⟩
  · exact Or.inl rfl
  · refine Or.inr ⟨p, rfl, ?_⟩
    have hlt : p < w.heap.size := by
      rcases Nat.lt_or_ge p w.heap.size with h1 | h1
      · exact h1
      · rw [show w.cell? ⟨p, 34, none⟩ = none by simp [World.cell?, Array.getElem?_eq_none h1]] at h
        cases h
    rw [← h]
    exact World.cell?_of_block (hb.block p hlt)
theorem ready_no {w : World} {v : Value} (h : Nil w v) : Calls Tryd.prog 36 #[v] w fun e w' => e = .returned (.bool false) ∧ w' = w := by
  rcases h with rfl | ⟨p, rfl, c2⟩
  · go_enter Tryd.func36, Tryd.ntmps36
    go_wp2
    go_ret
    exact ⟨rfl, rfl⟩
  · go_enter Tryd.func36, Tryd.ntmps36
    go_wp2
    go_ret
    exact ⟨rfl, rfl⟩
theorem left_no {w : World} {v : Value} (h : Nil w v) : Calls Tryd.prog 23 #[v] w fun e w' => e = .returned (.int .i64 0) ∧ w' = w := by
  have H := Aside0.mk h
  clear h
  go_enter Tryd.func23, Tryd.ntmps23
  go_wp2_with fail
  refine (ready_no H.out).mono ?_
  rintro e w1 ⟨rfl, hw⟩
  replace hw := hw.symm
  subst hw
  go_wp2
  go_ret
  exact ⟨rfl, rfl⟩
theorem len_no {w : World} {v : Value} (h : Nil w v) : Calls Tryd.prog 24 #[v] w fun e w' => e = .returned (.int .i64 0) ∧ w' = w := by
  have H := Aside0.mk h
  clear h
  go_enter Tryd.func24, Tryd.ntmps24
  go_wp2_with fail
  refine (ready_no H.out).mono ?_
  rintro e w1 ⟨rfl, hw⟩
  replace hw := hw.symm
  subst hw
  go_wp2
  go_ret
  exact ⟨rfl, rfl⟩
theorem blob_no {w : World} {v : Value} (h : Nil w v) : Calls Tryd.prog 16 #[v] w fun e w' => e = .returned (.tuple #[.slice none 0 0, .bool false]) ∧ w' = w := by
  have H := Aside0.mk h
  clear h
  go_enter Tryd.func16, Tryd.ntmps16
  go_wp2_with fail
  refine (ready_no H.out).mono ?_
  rintro e w1 ⟨rfl, hw⟩
  replace hw := hw.symm
  subst hw
  go_wp2
  go_ret2
  exact ⟨rfl, rfl⟩
theorem hear_no {w : World} {v b p : Value} {x i : Int} (h : Nil w v) : Calls Tryd.prog 15 #[v, .int .i64 x, .int .i64 i, b, p] w fun e w' => e = .returned (.int .i64 1) ∧ Below w.heap.size w w' := by
  have H0 := Aside0.mk h
  clear h
  go_enter Tryd.func15, Tryd.ntmps15
  go_upto_region 1 with (fail)
  obtain ⟨w2, hw2⟩ : ∃ w2, w.alloc (.cells #[.int .i64 x] 3) = w2 := ⟨_, rfl⟩
  have HB2 := Aside0.mk (show Below w.heap.size w w2 by rw [← hw2]; exact (Below.refl _ _).alloc (Nat.le_refl _) _)
  rw [hw2]
  clear hw2
  have H := Aside0.mk (H0.out.below HB2.out)
  go_wp2_with fail
  refine (ready_no H.out).mono ?_
  rintro e w1 ⟨rfl, hw⟩
  replace hw := hw.symm
  subst hw
  go_wp2
  go_ret
  exact ⟨rfl, HB2.out⟩
def ovn_T4 : Bool × List (List Nat × List Nat) := (true, [([], []), ([0], [0]), ([1], [1]), ([2, 1], [2]), ([3], [3]), ([4, 3, 3], [3, 4]), ([5, 3], [3, 5]), ([3, 6], [3, 6]), ([7, 5], [7]), ([8], [8]), ([8], [8]), ([10, 8], [8, 10]), ([11, 8], [8, 11]), ([12, 8], [8, 12]), ([9, 13, 8], [8, 9, 13]), ([8, 14], [8, 14]), ([15, 8], [15]), ([16], [16]), ([17, 16], [16, 17]), ([16], [16]), ([19, 16], [16, 19]), ([20, 16], [16, 20]), ([21, 16], [16, 21]), ([22, 16], [16, 22]), ([18, 23, 16], [16, 18, 23]), ([16], [16]), ([25, 16], [16, 25]), ([26, 16], [16, 26]), ([27, 16], [16, 27]), ([28, 16], [16, 28]), ([24, 29, 16], [16, 24, 29]), ([16, 30], [16, 30]), ([31, 16], [31]), ([32], [32]), ([33, 32], [32, 33]), ([34, 32], [32, 34]), ([35, 32], [32, 35]), ([36, 32, 32], [32, 36]), ([32, 37], [32, 37]), ([38, 37, 0, 1, 2, 3, 4, 5, 6, 7, 8, 9, 10, 11, 12, 13, 14, 15, 16, 17, 18, 19, 20, 21, 22, 23, 24, 25, 26, 27, 28, 29, 30, 31, 32, 33, 34, 35, 36, 37, 38], [38])])
def ovn_B4 : List Nat := [0, 1, 3, 7, 15, 31, 63, 127, 255, 511, 511, 1535, 3583, 7679, 16383, 32767, 65535, 131071, 262143, 131071, 655359, 1703935, 3801087, 7995391, 16777215, 131071, 33685503, 100794367, 235012095, 503447551, 1073741823, 2147483647, 4294967295, 8589934591, 17179869183, 34359738367, 68719476735, 137438953471, 274877906943, 549755813887]
theorem ovn_tab4 : rtab .any (opsOf Tryd.f22 4) = ovn_T4 := by kernel_rfl
theorem ovn_bits4 : waitsOk ovn_T4.2 ovn_B4 = true := by kernel_rfl
set_option maxHeartbeats 1600000 in
theorem over_no {w : World} {v : Value} {now : Int} (h : Nil w v) : Calls Tryd.prog 22 #[v, .int .i64 now] w fun e w' => e = .returned (.bool true) ∧ Below w.heap.size w w' := by
  have H := Aside0.mk h
  clear h
  go_enter Tryd.func22, Tryd.ntmps22
  go_wp2_with fail
  refine (blob_no H.out).mono ?_
  rintro e w1 ⟨rfl, hw⟩
  replace hw := hw.symm
  subst hw
  go_upto_region 4 with (fail)
  have hS0 : Below w.heap.size w w.drew := below_drew1 (Below.refl _ _)
  refine start_ (n := 40) (S := fun w' => Below w.heap.size w w') (ds := []) #[false, false, false, false, false, false, false, false, false, false, false, false, false, false, false, false, false, false, false, false, false, false, false, false, false, false, false, false, false, false, false, false, false, false, false, false, false, false, false, false] (by kernel_rfl) rfl rfl (by exact hS0) (fun hHeld => ?_)
  refine with_tabW ovn_tab4 ovn_bits4 (fun HT_ HW_ => ?_)
  generalize w.drew = wq at hHeld hS0 ⊢
  refine pure_ (i := 0) (N := some 13) (v := ?_) (a' := ?_) #[true, false, false, false, false, false, false, false, false, false, false, false, false, false, false, false, false, false, false, false, false, false, false, false, false, false, false, false, false, false, false, false, false, false, false, false, false, false, false, false] rfl rfl (any_of HT_.out (by kernel_rfl)) (fun _ _ _ h => h) (Or.inl ⟨by rfl, ?_⟩) ?_ ?_
  rotate_left
  · intro w'
    go_simp
    with_reducible rfl
  rotate_left
  · simp only [Act.put, List.setIfInBounds_toArray, List.set_cons_zero, List.set_cons_succ, i64_w, i32_w]
    rfl
  refine one_ (i := 1) (N := some 14) #[true, true, false, false, false, false, false, false, false, false, false, false, false, false, false, false, false, false, false, false, false, false, false, false, false, false, false, false, false, false, false, false, false, false, false, false, false, false, false, false] rfl rfl (one_of HT_.out (by kernel_rfl)) (by decide) (fun K hK => ?_)
  refine goes_ Tryd.func36 (by kernel_rfl) rfl #[v] (by rfl) rfl rfl (by (try simp only [List.map_toArray, List.map_cons, List.map_nil]); first | done | rfl) ?_
  refine (ready_no (H.out.below hHeld)).mono ?_
  rintro e wk ⟨rfl, hw⟩
  refine ⟨_, rfl, ?_⟩
  have hS1 := below_step hHeld (show Below _ _ wk by rw [hw]; exact Below.refl _ _)
  clear hw
  refine hK.out _ _ (by exact hS1) (fun hHeld => ?_)
  clear hK K
  refine norm_ (a' := ?_) ?_ ?_
  rotate_left
  · first
    | (show Act.put _ (some 14) _ = _; simp only [Act.put, List.setIfInBounds_toArray, List.set_cons_zero, List.set_cons_succ, i64_w, i32_w]; rfl)
    | rfl
  refine pure_ (i := 2) (N := some 15) (v := ?_) (a' := ?_) #[true, true, true, false, false, false, false, false, false, false, false, false, false, false, false, false, false, false, false, false, false, false, false, false, false, false, false, false, false, false, false, false, false, false, false, false, false, false, false, false] rfl rfl (any_of HT_.out (by kernel_rfl)) (fun _ _ _ h => h) (Or.inl ⟨by rfl, ?_⟩) ?_ ?_
  rotate_left
  · intro w'
    go_simp
    with_reducible rfl
  rotate_left
  · simp only [Act.put, List.setIfInBounds_toArray, List.set_cons_zero, List.set_cons_succ, i64_w, i32_w]
    rfl
  refine pure_ (i := 3) (N := some 16) (v := ?_) (a' := ?_) #[true, true, true, true, false, false, false, false, false, false, false, false, false, false, false, false, false, false, false, false, false, false, false, false, false, false, false, false, false, false, false, false, false, false, false, false, false, false, false, false] rfl rfl (any_of HT_.out (by kernel_rfl)) (fun _ _ _ h => h) (Or.inl ⟨by rfl, ?_⟩) ?_ ?_
  rotate_left
  · intro w'
    go_simp
    with_reducible rfl
  rotate_left
  · simp only [Act.put, List.setIfInBounds_toArray, List.set_cons_zero, List.set_cons_succ, i64_w, i32_w]
    rfl
  refine pure_ (i := 4) (N := some 17) (v := undef) (a' := ?_) #[true, true, true, true, true, false, false, false, false, false, false, false, false, false, false, false, false, false, false, false, false, false, false, false, false, false, false, false, false, false, false, false, false, false, false, false, false, false, false, false] rfl rfl (any_of HT_.out (by kernel_rfl)) (fun _ _ _ h => h) (Or.inr ⟨by rfl, rfl⟩) ?_ ?_
  rotate_left
  · simp only [Act.put, List.setIfInBounds_toArray, List.set_cons_zero, List.set_cons_succ, i64_w, i32_w]
    rfl
  refine pure_ (i := 5) (N := some 18) (v := undef) (a' := ?_) #[true, true, true, true, true, true, false, false, false, false, false, false, false, false, false, false, false, false, false, false, false, false, false, false, false, false, false, false, false, false, false, false, false, false, false, false, false, false, false, false] rfl rfl (any_of HT_.out (by kernel_rfl)) (fun _ _ _ h => h) (Or.inr ⟨by rfl, rfl⟩) ?_ ?_
  rotate_left
  · simp only [Act.put, List.setIfInBounds_toArray, List.set_cons_zero, List.set_cons_succ, i64_w, i32_w]
    rfl
  refine pure_ (i := 6) (N := some 19) (v := undef) (a' := ?_) #[true, true, true, true, true, true, true, false, false, false, false, false, false, false, false, false, false, false, false, false, false, false, false, false, false, false, false, false, false, false, false, false, false, false, false, false, false, false, false, false] rfl rfl (any_of HT_.out (by kernel_rfl)) (fun _ _ _ h => h) (Or.inr ⟨by rfl, rfl⟩) ?_ ?_
  rotate_left
  · simp only [Act.put, List.setIfInBounds_toArray, List.set_cons_zero, List.set_cons_succ, i64_w, i32_w]
    rfl
  refine pure_ (i := 7) (N := some 20) (v := ?_) (a' := ?_) #[true, true, true, true, true, true, true, true, false, false, false, false, false, false, false, false, false, false, false, false, false, false, false, false, false, false, false, false, false, false, false, false, false, false, false, false, false, false, false, false] rfl rfl (any_of HT_.out (by kernel_rfl)) (fun _ _ _ h => h) (Or.inl ⟨by rfl, ?_⟩) ?_ ?_
  rotate_left
  · intro w'
    go_simp
    with_reducible rfl
  rotate_left
  · simp only [Act.put, List.setIfInBounds_toArray, List.set_cons_zero, List.set_cons_succ, i64_w, i32_w]
    rfl
  refine pure_ (i := 8) (N := some 21) (v := ?_) (a' := ?_) #[true, true, true, true, true, true, true, true, true, false, false, false, false, false, false, false, false, false, false, false, false, false, false, false, false, false, false, false, false, false, false, false, false, false, false, false, false, false, false, false] rfl rfl (any_of HT_.out (by kernel_rfl)) (fun _ _ _ h => h) (Or.inl ⟨by rfl, ?_⟩) ?_ ?_
  rotate_left
  · intro w'
    go_simp
    with_reducible rfl
  rotate_left
  · simp only [Act.put, List.setIfInBounds_toArray, List.set_cons_zero, List.set_cons_succ, i64_w, i32_w]
    rfl
  refine pure_ (i := 9) (N := some 22) (v := undef) (a' := ?_) #[true, true, true, true, true, true, true, true, true, true, false, false, false, false, false, false, false, false, false, false, false, false, false, false, false, false, false, false, false, false, false, false, false, false, false, false, false, false, false, false] rfl rfl (any_of HT_.out (by kernel_rfl)) (fun _ _ _ h => h) (Or.inr ⟨by rfl, rfl⟩) ?_ ?_
  rotate_left
  · simp only [Act.put, List.setIfInBounds_toArray, List.set_cons_zero, List.set_cons_succ, i64_w, i32_w]
    rfl
  refine pure_ (i := 10) (N := some 23) (v := undef) (a' := ?_) #[true, true, true, true, true, true, true, true, true, true, true, false, false, false, false, false, false, false, false, false, false, false, false, false, false, false, false, false, false, false, false, false, false, false, false, false, false, false, false, false] rfl rfl (any_of HT_.out (by kernel_rfl)) (fun _ _ _ h => h) (Or.inr ⟨by rfl, rfl⟩) ?_ ?_
  rotate_left
  · simp only [Act.put, List.setIfInBounds_toArray, List.set_cons_zero, List.set_cons_succ, i64_w, i32_w]
    rfl
  refine pure_ (i := 11) (N := some 24) (v := undef) (a' := ?_) #[true, true, true, true, true, true, true, true, true, true, true, true, false, false, false, false, false, false, false, false, false, false, false, false, false, false, false, false, false, false, false, false, false, false, false, false, false, false, false, false] rfl rfl (any_of HT_.out (by kernel_rfl)) (fun _ _ _ h => h) (Or.inr ⟨by rfl, rfl⟩) ?_ ?_
  rotate_left
  · simp only [Act.put, List.setIfInBounds_toArray, List.set_cons_zero, List.set_cons_succ, i64_w, i32_w]
    rfl
  refine pure_ (i := 12) (N := some 25) (v := undef) (a' := ?_) #[true, true, true, true, true, true, true, true, true, true, true, true, true, false, false, false, false, false, false, false, false, false, false, false, false, false, false, false, false, false, false, false, false, false, false, false, false, false, false, false] rfl rfl (any_of HT_.out (by kernel_rfl)) (fun _ _ _ h => h) (Or.inr ⟨by rfl, rfl⟩) ?_ ?_
  rotate_left
  · simp only [Act.put, List.setIfInBounds_toArray, List.set_cons_zero, List.set_cons_succ, i64_w, i32_w]
    rfl
  refine pure_ (i := 13) (N := some 26) (v := undef) (a' := ?_) #[true, true, true, true, true, true, true, true, true, true, true, true, true, true, false, false, false, false, false, false, false, false, false, false, false, false, false, false, false, false, false, false, false, false, false, false, false, false, false, false] rfl rfl (any_of HT_.out (by kernel_rfl)) (fun _ _ _ h => h) (Or.inr ⟨by rfl, rfl⟩) ?_ ?_
  rotate_left
  · simp only [Act.put, List.setIfInBounds_toArray, List.set_cons_zero, List.set_cons_succ, i64_w, i32_w]
    rfl
  refine pure_ (i := 14) (N := some 27) (v := undef) (a' := ?_) #[true, true, true, true, true, true, true, true, true, true, true, true, true, true, true, false, false, false, false, false, false, false, false, false, false, false, false, false, false, false, false, false, false, false, false, false, false, false, false, false] rfl rfl (any_of HT_.out (by kernel_rfl)) (fun _ _ _ h => h) (Or.inr ⟨by rfl, rfl⟩) ?_ ?_
  rotate_left
  · simp only [Act.put, List.setIfInBounds_toArray, List.set_cons_zero, List.set_cons_succ, i64_w, i32_w]
    rfl
  refine pure_ (i := 15) (N := some 28) (v := ?_) (a' := ?_) #[true, true, true, true, true, true, true, true, true, true, true, true, true, true, true, true, false, false, false, false, false, false, false, false, false, false, false, false, false, false, false, false, false, false, false, false, false, false, false, false] rfl rfl (any_of HT_.out (by kernel_rfl)) (fun _ _ _ h => h) (Or.inl ⟨by rfl, ?_⟩) ?_ ?_
  rotate_left
  · intro w'
    go_simp
    with_reducible rfl
  rotate_left
  · simp only [Act.put, List.setIfInBounds_toArray, List.set_cons_zero, List.set_cons_succ, i64_w, i32_w]
    rfl
  refine pure_ (i := 16) (N := some 29) (v := ?_) (a' := ?_) #[true, true, true, true, true, true, true, true, true, true, true, true, true, true, true, true, true, false, false, false, false, false, false, false, false, false, false, false, false, false, false, false, false, false, false, false, false, false, false, false] rfl rfl (any_of HT_.out (by kernel_rfl)) (fun _ _ _ h => h) (Or.inl ⟨by rfl, ?_⟩) ?_ ?_
  rotate_left
  · intro w'
    go_simp
    with_reducible rfl
  rotate_left
  · simp only [Act.put, List.setIfInBounds_toArray, List.set_cons_zero, List.set_cons_succ, i64_w, i32_w]
    rfl
  refine pure_ (i := 17) (N := some 30) (v := undef) (a' := ?_) #[true, true, true, true, true, true, true, true, true, true, true, true, true, true, true, true, true, true, false, false, false, false, false, false, false, false, false, false, false, false, false, false, false, false, false, false, false, false, false, false] rfl rfl (any_of HT_.out (by kernel_rfl)) (fun _ _ _ h => h) (Or.inr ⟨by rfl, rfl⟩) ?_ ?_
  rotate_left
  · simp only [Act.put, List.setIfInBounds_toArray, List.set_cons_zero, List.set_cons_succ, i64_w, i32_w]
    rfl
  refine pure_ (i := 18) (N := some 31) (v := undef) (a' := ?_) #[true, true, true, true, true, true, true, true, true, true, true, true, true, true, true, true, true, true, true, false, false, false, false, false, false, false, false, false, false, false, false, false, false, false, false, false, false, false, false, false] rfl rfl (any_of HT_.out (by kernel_rfl)) (fun _ _ _ h => h) (Or.inr ⟨by rfl, rfl⟩) ?_ ?_
  rotate_left
  · simp only [Act.put, List.setIfInBounds_toArray, List.set_cons_zero, List.set_cons_succ, i64_w, i32_w]
    rfl
  refine pure_ (i := 19) (N := some 32) (v := undef) (a' := ?_) #[true, true, true, true, true, true, true, true, true, true, true, true, true, true, true, true, true, true, true, true, false, false, false, false, false, false, false, false, false, false, false, false, false, false, false, false, false, false, false, false] rfl rfl (any_of HT_.out (by kernel_rfl)) (fun _ _ _ h => h) (Or.inr ⟨by rfl, rfl⟩) ?_ ?_
  rotate_left
  · simp only [Act.put, List.setIfInBounds_toArray, List.set_cons_zero, List.set_cons_succ, i64_w, i32_w]
    rfl
  refine pure_ (i := 20) (N := some 33) (v := undef) (a' := ?_) #[true, true, true, true, true, true, true, true, true, true, true, true, true, true, true, true, true, true, true, true, true, false, false, false, false, false, false, false, false, false, false, false, false, false, false, false, false, false, false, false] rfl rfl (any_of HT_.out (by kernel_rfl)) (fun _ _ _ h => h) (Or.inr ⟨by rfl, rfl⟩) ?_ ?_
  rotate_left
  · simp only [Act.put, List.setIfInBounds_toArray, List.set_cons_zero, List.set_cons_succ, i64_w, i32_w]
    rfl
  refine pure_ (i := 21) (N := some 34) (v := undef) (a' := ?_) #[true, true, true, true, true, true, true, true, true, true, true, true, true, true, true, true, true, true, true, true, true, true, false, false, false, false, false, false, false, false, false, false, false, false, false, false, false, false, false, false] rfl rfl (any_of HT_.out (by kernel_rfl)) (fun _ _ _ h => h) (Or.inr ⟨by rfl, rfl⟩) ?_ ?_
  rotate_left
  · simp only [Act.put, List.setIfInBounds_toArray, List.set_cons_zero, List.set_cons_succ, i64_w, i32_w]
    rfl
  refine pure_ (i := 22) (N := some 35) (v := undef) (a' := ?_) #[true, true, true, true, true, true, true, true, true, true, true, true, true, true, true, true, true, true, true, true, true, true, true, false, false, false, false, false, false, false, false, false, false, false, false, false, false, false, false, false] rfl rfl (any_of HT_.out (by kernel_rfl)) (fun _ _ _ h => h) (Or.inr ⟨by rfl, rfl⟩) ?_ ?_
  rotate_left
  · simp only [Act.put, List.setIfInBounds_toArray, List.set_cons_zero, List.set_cons_succ, i64_w, i32_w]
    rfl
  refine pure_ (i := 23) (N := some 36) (v := undef) (a' := ?_) #[true, true, true, true, true, true, true, true, true, true, true, true, true, true, true, true, true, true, true, true, true, true, true, true, false, false, false, false, false, false, false, false, false, false, false, false, false, false, false, false] rfl rfl (any_of HT_.out (by kernel_rfl)) (fun _ _ _ h => h) (Or.inr ⟨by rfl, rfl⟩) ?_ ?_
  rotate_left
  · simp only [Act.put, List.setIfInBounds_toArray, List.set_cons_zero, List.set_cons_succ, i64_w, i32_w]
    rfl
  refine pure_ (i := 24) (N := some 37) (v := undef) (a' := ?_) #[true, true, true, true, true, true, true, true, true, true, true, true, true, true, true, true, true, true, true, true, true, true, true, true, true, false, false, false, false, false, false, false, false, false, false, false, false, false, false, false] rfl rfl (any_of HT_.out (by kernel_rfl)) (fun _ _ _ h => h) (Or.inr ⟨by rfl, rfl⟩) ?_ ?_
  rotate_left
  · simp only [Act.put, List.setIfInBounds_toArray, List.set_cons_zero, List.set_cons_succ, i64_w, i32_w]
    rfl
  refine pure_ (i := 25) (N := some 38) (v := undef) (a' := ?_) #[true, true, true, true, true, true, true, true, true, true, true, true, true, true, true, true, true, true, true, true, true, true, true, true, true, true, false, false, false, false, false, false, false, false, false, false, false, false, false, false] rfl rfl (any_of HT_.out (by kernel_rfl)) (fun _ _ _ h => h) (Or.inr ⟨by rfl, rfl⟩) ?_ ?_
  rotate_left
  · simp only [Act.put, List.setIfInBounds_toArray, List.set_cons_zero, List.set_cons_succ, i64_w, i32_w]
    rfl
  refine pure_ (i := 26) (N := some 39) (v := undef) (a' := ?_) #[true, true, true, true, true, true, true, true, true, true, true, true, true, true, true, true, true, true, true, true, true, true, true, true, true, true, true, false, false, false, false, false, false, false, false, false, false, false, false, false] rfl rfl (any_of HT_.out (by kernel_rfl)) (fun _ _ _ h => h) (Or.inr ⟨by rfl, rfl⟩) ?_ ?_
  rotate_left
  · simp only [Act.put, List.setIfInBounds_toArray, List.set_cons_zero, List.set_cons_succ, i64_w, i32_w]
    rfl
  refine pure_ (i := 27) (N := some 40) (v := undef) (a' := ?_) #[true, true, true, true, true, true, true, true, true, true, true, true, true, true, true, true, true, true, true, true, true, true, true, true, true, true, true, true, false, false, false, false, false, false, false, false, false, false, false, false] rfl rfl (any_of HT_.out (by kernel_rfl)) (fun _ _ _ h => h) (Or.inr ⟨by rfl, rfl⟩) ?_ ?_
  rotate_left
  · simp only [Act.put, List.setIfInBounds_toArray, List.set_cons_zero, List.set_cons_succ, i64_w, i32_w]
    rfl
  refine pure_ (i := 28) (N := some 41) (v := undef) (a' := ?_) #[true, true, true, true, true, true, true, true, true, true, true, true, true, true, true, true, true, true, true, true, true, true, true, true, true, true, true, true, true, false, false, false, false, false, false, false, false, false, false, false] rfl rfl (any_of HT_.out (by kernel_rfl)) (fun _ _ _ h => h) (Or.inr ⟨by rfl, rfl⟩) ?_ ?_
  rotate_left
  · simp only [Act.put, List.setIfInBounds_toArray, List.set_cons_zero, List.set_cons_succ, i64_w, i32_w]
    rfl
  refine pure_ (i := 29) (N := some 42) (v := undef) (a' := ?_) #[true, true, true, true, true, true, true, true, true, true, true, true, true, true, true, true, true, true, true, true, true, true, true, true, true, true, true, true, true, true, false, false, false, false, false, false, false, false, false, false] rfl rfl (any_of HT_.out (by kernel_rfl)) (fun _ _ _ h => h) (Or.inr ⟨by rfl, rfl⟩) ?_ ?_
  rotate_left
  · simp only [Act.put, List.setIfInBounds_toArray, List.set_cons_zero, List.set_cons_succ, i64_w, i32_w]
    rfl
  refine pure_ (i := 30) (N := some 43) (v := undef) (a' := ?_) #[true, true, true, true, true, true, true, true, true, true, true, true, true, true, true, true, true, true, true, true, true, true, true, true, true, true, true, true, true, true, true, false, false, false, false, false, false, false, false, false] rfl rfl (any_of HT_.out (by kernel_rfl)) (fun _ _ _ h => h) (Or.inr ⟨by rfl, rfl⟩) ?_ ?_
  rotate_left
  · simp only [Act.put, List.setIfInBounds_toArray, List.set_cons_zero, List.set_cons_succ, i64_w, i32_w]
    rfl
  refine pure_ (i := 31) (N := some 44) (v := ?_) (a' := ?_) #[true, true, true, true, true, true, true, true, true, true, true, true, true, true, true, true, true, true, true, true, true, true, true, true, true, true, true, true, true, true, true, true, false, false, false, false, false, false, false, false] rfl rfl (any_of HT_.out (by kernel_rfl)) (fun _ _ _ h => h) (Or.inl ⟨by rfl, ?_⟩) ?_ ?_
  rotate_left
  · intro w'
    go_simp
    with_reducible rfl
  rotate_left
  · simp only [Act.put, List.setIfInBounds_toArray, List.set_cons_zero, List.set_cons_succ, i64_w, i32_w]
    rfl
  refine pure_ (i := 32) (N := some 45) (v := ?_) (a' := ?_) #[true, true, true, true, true, true, true, true, true, true, true, true, true, true, true, true, true, true, true, true, true, true, true, true, true, true, true, true, true, true, true, true, true, false, false, false, false, false, false, false] rfl rfl (any_of HT_.out (by kernel_rfl)) (fun _ _ _ h => h) (Or.inl ⟨by rfl, ?_⟩) ?_ ?_
  rotate_left
  · intro w'
    go_simp
    with_reducible rfl
  rotate_left
  · simp only [Act.put, List.setIfInBounds_toArray, List.set_cons_zero, List.set_cons_succ, i64_w, i32_w]
    rfl
  refine pure_ (i := 33) (N := some 46) (v := undef) (a' := ?_) #[true, true, true, true, true, true, true, true, true, true, true, true, true, true, true, true, true, true, true, true, true, true, true, true, true, true, true, true, true, true, true, true, true, true, false, false, false, false, false, false] rfl rfl (any_of HT_.out (by kernel_rfl)) (fun _ _ _ h => h) (Or.inr ⟨by rfl, rfl⟩) ?_ ?_
  rotate_left
  · simp only [Act.put, List.setIfInBounds_toArray, List.set_cons_zero, List.set_cons_succ, i64_w, i32_w]
    rfl
  refine pure_ (i := 34) (N := some 47) (v := undef) (a' := ?_) #[true, true, true, true, true, true, true, true, true, true, true, true, true, true, true, true, true, true, true, true, true, true, true, true, true, true, true, true, true, true, true, true, true, true, true, false, false, false, false, false] rfl rfl (any_of HT_.out (by kernel_rfl)) (fun _ _ _ h => h) (Or.inr ⟨by rfl, rfl⟩) ?_ ?_
  rotate_left
  · simp only [Act.put, List.setIfInBounds_toArray, List.set_cons_zero, List.set_cons_succ, i64_w, i32_w]
    rfl
  refine pure_ (i := 35) (N := some 48) (v := undef) (a' := ?_) #[true, true, true, true, true, true, true, true, true, true, true, true, true, true, true, true, true, true, true, true, true, true, true, true, true, true, true, true, true, true, true, true, true, true, true, true, false, false, false, false] rfl rfl (any_of HT_.out (by kernel_rfl)) (fun _ _ _ h => h) (Or.inr ⟨by rfl, rfl⟩) ?_ ?_
  rotate_left
  · simp only [Act.put, List.setIfInBounds_toArray, List.set_cons_zero, List.set_cons_succ, i64_w, i32_w]
    rfl
  refine pure_ (i := 36) (N := some 49) (v := undef) (a' := ?_) #[true, true, true, true, true, true, true, true, true, true, true, true, true, true, true, true, true, true, true, true, true, true, true, true, true, true, true, true, true, true, true, true, true, true, true, true, true, false, false, false] rfl rfl (any_of HT_.out (by kernel_rfl)) (fun _ _ _ h => h) (Or.inr ⟨by rfl, rfl⟩) ?_ ?_
  rotate_left
  · simp only [Act.put, List.setIfInBounds_toArray, List.set_cons_zero, List.set_cons_succ, i64_w, i32_w]
    rfl
  refine pure_ (i := 37) (N := some 50) (v := undef) (a' := ?_) #[true, true, true, true, true, true, true, true, true, true, true, true, true, true, true, true, true, true, true, true, true, true, true, true, true, true, true, true, true, true, true, true, true, true, true, true, true, true, false, false] rfl rfl (any_of HT_.out (by kernel_rfl)) (fun _ _ _ h => h) (Or.inr ⟨by rfl, rfl⟩) ?_ ?_
  rotate_left
  · simp only [Act.put, List.setIfInBounds_toArray, List.set_cons_zero, List.set_cons_succ, i64_w, i32_w]
    rfl
  refine pure_ (i := 38) (N := some 51) (v := ?_) (a' := ?_) #[true, true, true, true, true, true, true, true, true, true, true, true, true, true, true, true, true, true, true, true, true, true, true, true, true, true, true, true, true, true, true, true, true, true, true, true, true, true, true, false] rfl rfl (any_of HT_.out (by kernel_rfl)) (fun _ _ _ h => h) (Or.inl ⟨by rfl, ?_⟩) ?_ ?_
  rotate_left
  · intro w'
    go_simp
    with_reducible rfl
  rotate_left
  · simp only [Act.put, List.setIfInBounds_toArray, List.set_cons_zero, List.set_cons_succ, i64_w, i32_w]
    rfl
  refine pure_ (i := 39) (N := some 4) (v := ?_) (a' := ?_) #[true, true, true, true, true, true, true, true, true, true, true, true, true, true, true, true, true, true, true, true, true, true, true, true, true, true, true, true, true, true, true, true, true, true, true, true, true, true, true, true] rfl rfl (any_of HT_.out (by kernel_rfl)) (fun _ _ _ h => h) (Or.inl ⟨by rfl, ?_⟩) ?_ ?_
  rotate_left
  · intro w'
    go_simp
    with_reducible rfl
  rotate_left
  · simp only [Act.put, List.setIfInBounds_toArray, List.set_cons_zero, List.set_cons_succ, i64_w, i32_w]
    rfl
  refine done_ (done_of HT_.out (by kernel_rfl)) ?_
  have HBQ := Aside0.mk hHeld
  clear hS0 hHeld HT_ HW_
  go_wp2
  go_ret
  exact ⟨rfl, HBQ.out⟩
theorem next_no {w : World} {v : Value} {now : Int} (h : Nil w v) : Calls Tryd.prog 13 #[v, .int .i64 now] w fun e w' => e = .returned (.tuple #[.int .i64 0, .int .i64 0, .bool false]) ∧ w' = w := by
  have H := Aside0.mk h
  clear h
  go_enter Tryd.func13, Tryd.ntmps13
  go_wp2_with fail
  refine (left_no H.out).mono ?_
  rintro e w1 ⟨rfl, hw⟩
  replace hw := hw.symm
  subst hw
  go_wp2
  go_ret3
  exact ⟨rfl, rfl⟩
end Go.Proofs.YtoiblfmlahedlaaDoor.Fe
end
section
namespace Go.Proofs.YtoiblfmlahedlaaDoor.Fe
open Go.RowKit Go.Proofs.YtoiblfmlahedlaaDoorW.PrintWords Go.Proofs.YtoiblfmlahedlaaDoorW.PrintLast Go.Proofs.YtoiblfmlahedlaaDoorW.PrintMore
set_option linter.unusedVariables false
set_option linter.unusedSimpArgs false
set_option maxRecDepth 100000
open Go.Proofs.YtoiblfmlahedlaaDoor.Sha (cb vd countN rootOf checkB B KD isRow dg_start dg_ret infoDg cb_size cb_one wpList_load_at)
def zD : List Int := List.replicate 32 0
set_option maxHeartbeats 1600000 in
theorem froot_no {w : World} {v : Value} (h : Nil w v) : Calls Tryd.prog 25 #[v] w fun e w' => e = .returned (vd zD) ∧ Below w.heap.size w w' := by
  have H0 := Aside0.mk h
  clear h
  go_enter Tryd.func25, Tryd.ntmps25
  go_upto_region 1 with (fail)
  obtain ⟨w1, hw1, HB1, HD, HZ1⟩ := dg_start w
  rw [hw1]
  clear hw1
  have H := Aside0.mk (H0.out.below HB1.out)
  go_wp2_with fail
  refine (ready_no H.out).mono ?_
  rintro e w2 ⟨rfl, hw⟩
  replace hw := hw.symm
  subst hw
  have HZL := Aside0.mk (show zD.length = 32 by decide)
  have HD1 := Aside0.mk (show w1.heap[w.heap.size]? = some (.cells (cb zD) 31 (0, 0)) from HD.out)
  generalize hZ : zD = Z at HZL HD1
  replace hZ := Aside0.mk hZ
  have HX2 := Aside0.mk (box_load HD1.out HZL.out)
  go_wp2_with (first
    | ((with_reducible refine gate_dst (N := 9) rfl ?_); refine wpList_load_at rfl (ty := 31) (x := .tmp 2) (p := .pointer (some ⟨w.heap.size, 0, none⟩)) (v := vd Z) rfl rfl HX2.out ?_)
    | (refine wpList_store_row rfl 31 (.tmp 2) (.tmp 9) rfl w.heap.size (cb Z) rfl rfl 31 _ HD1.out (infoDg _ HZL.out) rfl (cb_one _) ?_))
  (try simp only [Exit.inBlock, Exit.then])
  exact dg_ret rfl rfl HZL.out (setRow_heap _ _ _ _ _ _ HD1.out) rfl ⟨by rw [hZ.out], below_setRow HB1.out (Nat.le_refl _) _⟩
end Go.Proofs.YtoiblfmlahedlaaDoor.Fe
end
section
namespace Go.Proofs.YtoiblfmlahedlaaDoor.Fe
open Go.RowKit Go.Proofs.YtoiblfmlahedlaaDoorW.PrintWords Go.Proofs.YtoiblfmlahedlaaDoorW.PrintLast Go.Proofs.YtoiblfmlahedlaaDoorW.PrintMore
set_option linter.unusedVariables false
set_option linter.unusedSimpArgs false
set_option maxRecDepth 100000
open Go.Proofs.YtoiblfmlahedlaaDoor.As (St leftF ks0 nextF hadR hadS stOf)
open Go.Proofs.YtoiblfmlahedlaaDoor.Sha (countN rootOf checkB proofOf chunkL)
open Go.Proofs.YtoiblfmlahedlaaDoor.Sha (prove_yes)
def kB : List Int := List.replicate 64 0 ++ [7]
def kF (R : List Int) : Cf := ⟨R, 65, [7, 9], 1, 5, 100, 0⟩
def kS1 (R : List Int) : St := (fnextF (kF R) ks0 (fun _ => []) 0).2
def kS2 (R : List Int) : St := (fnextF (kF R) (kS1 R) (fun _ => []) 0).2
def kS3 (R : List Int) : St := (fnextF (kF R) (kS2 R) (fun _ => []) 0).2
theorem kn1 (R : List Int) : (fnextF (kF R) ks0 (fun _ => []) 0).1 = (0, 7, true) := by kernel_rfl
theorem kn2 (R : List Int) : (fnextF (kF R) (kS1 R) (fun _ => []) 0).1 = (1, 9, true) := by kernel_rfl
theorem kn3 (R : List Int) : (fnextF (kF R) (kS2 R) (fun _ => []) 0).1 = (0, 0, false) := by kernel_rfl
theorem kmay : fmayB 65 [7, 9] 1 5 100 = true := by decide
def kS4 (R : List Int) : St := (hearF (kF R) (kS3 R) (fun _ => []) 7 0 [110, 111] []).2.1
theorem kh1' (R : List Int) : hearF (kF R) (kS3 R) (fun _ => []) 7 0 [110, 111] [] = (5, kS4 R, fun _ => []) := by kernel_rfl
theorem kc0 : chunkL kB 0 = List.replicate 64 0 := by kernel_rfl
theorem kc1 : chunkL kB 1 = [7] := by kernel_rfl
theorem kBl : kB.length = 65 := by kernel_rfl
def kS5 (R : List Int) : St := hadS 2 (kS4 R) 1
def kS6 (R : List Int) : St := hadS 2 (kS5 R) 0
def kK1 : Nat → List Int := updK (fun _ => []) 1 [7]
def kK2 : Nat → List Int := updK kK1 0 (List.replicate 64 0)
theorem kcn (R : List Int) : countN (kF R).L = 2 := by kernel_rfl
theorem hear_true {R : List Int} {s : St} {K : Nat → List Int} {x : Int} {i : Nat} {l : List Int} {p : List (List Int)} (hi : (0 : Int) ≤ i ∧ (i : Int) < countN (kF R).L ∧ 0 ≤ idxF (kF R).ps x) (hs : stOf s.1 (countN (kF R).L) i ≠ 2) (hc : checkB R 65 (i : Int) l p = true) (hh : hadR (countN (kF R).L) s i = 0) :
    hearF (kF R) s K x i l p = (0, hadS 2 s i, updK K i l) := by
  unfold hearF
  rw [if_pos hi, if_neg hs, if_pos (show checkB (kF R).R (kF R).L i l p = true from hc), hh, Int.toNat_natCast, kcn]
theorem kh2 : hearF (kF (rootOf kB)) (kS4 (rootOf kB)) (fun _ => []) 9 1 [7] (proofOf kB 1) = (0, kS5 (rootOf kB), kK1) := by
  have h := prove_yes kB 1 (by rw [kBl]; decide)
  rw [kBl, kc1] at h
  generalize rootOf kB = R at h ⊢
  have hst : ∀ R, stOf (kS4 R).1 (countN (kF R).L) ((1 : Nat) : Int) = 1 := fun R => by kernel_rfl
  have hh : ∀ R, hadR (countN (kF R).L) (kS4 R) ((1 : Nat) : Int) = 0 := fun R => by kernel_rfl
  exact hear_true (i := 1) ⟨by decide, by rw [kcn]; decide, by show (0 : Int) ≤ idxF [7, 9] 9; decide⟩ (by rw [hst]; decide) h (hh R)
theorem kh3 : hearF (kF (rootOf kB)) (kS5 (rootOf kB)) kK1 7 0 (List.replicate 64 0) (proofOf kB 0) = (0, kS6 (rootOf kB), kK2) := by
  have h := prove_yes kB 0 (by rw [kBl]; decide)
  rw [kBl, kc0] at h
  generalize rootOf kB = R at h ⊢
  have hst : ∀ R, stOf (kS5 R).1 (countN (kF R).L) ((0 : Nat) : Int) = 0 := fun R => by kernel_rfl
  have hh : ∀ R, hadR (countN (kF R).L) (kS5 R) ((0 : Nat) : Int) = 0 := fun R => by kernel_rfl
  exact hear_true (i := 0) ⟨by decide, by rw [kcn]; decide, by show (0 : Int) ≤ idxF [7, 9] 7; decide⟩ (by rw [hst]; decide) h (hh R)
theorem kb4 : blobF (kF (rootOf kB)) (kS6 (rootOf kB)) kK2 = some kB := by
  have h1 : ∀ R, leftF (kS6 R).1 (countN (kF R).L) = 0 := fun R => by kernel_rfl
  have h2 : ∀ R, cat kK2 (countN (kF R).L) = kB := fun R => by kernel_rfl
  unfold blobF
  rw [if_neg (by rw [h1]; simp), h2, if_pos ⟨kBl, rfl⟩]
theorem kh5 (R : List Int) : (hearF (kF R) (kS6 R) kK2 7 0 (List.replicate 64 0) []) = (7, kS6 R, kK2) := by kernel_rfl
end Go.Proofs.YtoiblfmlahedlaaDoor.Fe
end
section
namespace Go.Proofs.YtoiblfmlahedlaaDoor.Fe
open Go.RowKit Go.Proofs.YtoiblfmlahedlaaDoorW.PrintWords Go.Proofs.YtoiblfmlahedlaaDoorW.PrintLast Go.Proofs.YtoiblfmlahedlaaDoorW.PrintMore
set_option linter.unusedVariables false
set_option linter.unusedSimpArgs false
set_option maxRecDepth 100000
open Go.Proofs.YtoiblfmlahedlaaDoor.As (St PW ks0)
open Go.Proofs.YtoiblfmlahedlaaDoor.Sha (cb vd countN rootOf checkB B KD isRow proofOf)
open Go.Proofs.YtoiblfmlahedlaaDoor.Ref (new_calls rroot_calls rproof_calls)
def zC65 : Array Value := madeCells (Value.int .u8 0).cells 65
def kC65 : Array Value := (kB.map (Value.int .u8)).toArray
theorem make_B65 (w : World) : (Instr.makeSlice 22 (.int .i64 65) (.int .i64 65)).run Tryd.prog w = .ok (.slice (some ⟨w.heap.size, 0, none⟩) 65 65) (w.alloc (.cells zC65 5)) := by
  obtain ⟨i, hi, hz, hs, hb⟩ := info_parts infoB
  have h := run_make (P := Tryd.prog) w 22 5 i _ Tryd.underlying22 hi hz .i64 .i64 65 65 (by omega) (Int.le_refl _) (by rw [hb]; omega) (by omega)
  rw [hs] at h
  exact h
theorem kBb : Sha.bytes kB := by unfold Sha.bytes kB; intro x hx; simp at hx; omega
theorem rowB {w : World} {g : Nat} (h : w.heap[g]? = some (.cells kC65 5 (0, 0))) (o : Nat) (l : List Int) (hl : ∀ j x, l[j]? = some x → kC65[o + j]? = some (.int .u8 x)) (hn : l.length ≤ 65) : B.C w (some ⟨g, o, none⟩) l.length l := by
  refine ⟨rfl, by omega, fun _ => ⟨_, rfl, fun j x hx => ⟨[.int .u8 x], rfl, by rfl, fun i u hu => ?_⟩⟩⟩
  rcases i with _ | i
  · simp at hu
    subst hu
    have := hl j x hx
    rw [show (Addr.mk g o none).add (j * B.sz + 0) = ⟨g, o + j, none⟩ by
      rw [show j * B.sz + 0 = j by show j * 1 + 0 = j; omega]
      simp [Addr.add_lit]]
    simp [World.cell?, h, this]
  · simp at hu
theorem Mov.keep {lo hi k : Nat} {w w' : World} {o : Obj} (h : Mov lo hi w w') (hk : k < lo) (ho : w.heap[k]? = some o) : w'.heap[k]? = some o := (h.block k (Array.getElem?_eq_some_iff.1 ho).1 (Or.inl hk)).trans ho
theorem Mov.held {lo hi : Nat} {w0 w w' : World} (h : Mov lo hi w w') (hb : Below w0.heap.size w0 w) (h0 : w0.heap.size ≤ lo) (hl : lo ≤ w.heap.size) : Below w0.heap.size w0 w' := below_weaken hb h0 (h.below hl)
abbrev noC : Array Value := #[.int .u8 110, .int .u8 111]
def noW (w : World) : World := (w.alloc (.cells noC 5)).freeze ⟨w.heap.size, 2, none⟩ 1
theorem cv_no (w : World) : (convert 22 22 (.slice (some ⟨w.heap.size, 0, none⟩) 2 2)).run Tryd.prog (w.alloc (.cells #[.int .u8 110, .int .u8 111] 5)) = .ok (.slice (some ⟨w.heap.size, 0, none⟩) 2 2) (noW w) := by
  have hsh : (w.alloc (.cells noC 5)).shape? w.heap.size = some (5, 2) := by
    simp [World.shape?, World.alloc, -World.alloc_eq]
  simp [convert, run_underlying Tryd.underlying22, run_underlying Tryd.underlying5, markStringish, Question.forced, noW, hsh, Result.andThen]
theorem noW_old (w : World) (j : Nat) (hj : j < w.heap.size) : (noW w).heap[j]? = w.heap[j]? := by
  have h1 : w.heap.size ≠ j := by omega
  simp [noW, World.freeze, World.alloc, -World.alloc_eq, Array.getElem?_modify, Array.getElem?_push, h1, Ne.symm h1]
theorem noW_new (w : World) : (noW w).heap[w.heap.size]? = some (.cells noC 5 (2, 3)) := by
  simp [noW, World.freeze, World.alloc, -World.alloc_eq]
  rw [Array.getElem_modify_self]
  simp
theorem noW_below (w : World) : Below w.heap.size w (noW w) :=
  ⟨rfl, rfl, rfl, by simp [noW, World.freeze, World.alloc, -World.alloc_eq], fun k hk => noW_old w k hk⟩
theorem kpl (i : Nat) : (proofOf kB i).length < 1000000 := by
  have := Go.Proofs.YtoiblfmlahedlaaDoor.Sha.proofP_le2 (Sha.leavesL kB) i
  rw [Sha.leavesL_len, kBl] at this
  unfold proofOf
  have h : countN 65 = 2 := by decide
  omega
theorem rowAll {w : World} {g : Nat} (h : w.heap[g]? = some (.cells kC65 5 (0, 0))) : B.C w (some ⟨g, 0, none⟩) kB.length kB := rowB h 0 kB (fun j x hx => by unfold kC65; rw [Nat.zero_add, List.getElem?_toArray, List.getElem?_map, hx]; rfl) (by rw [kBl]; omega)
theorem rowHi {w : World} {g : Nat} (h : w.heap[g]? = some (.cells kC65 5 (0, 0))) : B.C w (some ⟨g, 64, none⟩) ([7] : List Int).length [7] := by
  refine rowB h 64 [7] ?_ (by decide)
  intro j x hx
  rcases j with _ | j
  · simp at hx
    subst hx
    kernel_rfl
  · simp at hx
theorem rowLo {w : World} {g : Nat} (h : w.heap[g]? = some (.cells kC65 5 (0, 0))) : B.C w (some ⟨g, 0, none⟩) (List.replicate 64 (0 : Int)).length (List.replicate 64 0) := rowB h 0 (List.replicate 64 0) (fun j x hx => by
  unfold kC65 kB
  rw [List.getElem?_replicate] at hx
  split at hx
  · rename_i h64
    rw [Nat.zero_add, List.getElem?_toArray, List.getElem?_map, List.getElem?_append_left (by simpa using h64), List.getElem?_replicate, if_pos h64]
    cases hx
    rfl
  · cases hx) (by decide)
def kno_T12 : Bool × List (List Nat × List Nat) := (true, [([], []), ([], []), ([1], [1]), ([], []), ([], []), ([3, 4], [3, 4]), ([0, 2, 5, 5], [0, 2, 5]), ([6], [6]), ([7, 6], [7]), ([8], [8]), ([8], [8]), ([10, 8], [8, 10]), ([8], [8]), ([8], [8]), ([12, 13, 8, 8], [8, 12, 13]), ([9, 11, 14, 14, 8], [8, 9, 11, 14]), ([15, 8], [8, 15]), ([8, 16], [8, 16])])
def kno_B12 : List Nat := [0, 0, 2, 0, 0, 24, 63, 127, 255, 511, 511, 1535, 511, 511, 12799, 32767, 65535, 131071]
theorem kno_tab12 : rtab .any (opsOf Tryd.f9 12) = kno_T12 := by kernel_rfl
theorem kno_bits12 : waitsOk kno_T12.2 kno_B12 = true := by kernel_rfl
theorem z64b : Sha.bytes (List.replicate 64 (0 : Int)) := fun y hy => by rw [List.mem_replicate] at hy; omega
set_option maxHeartbeats 3200000 in
theorem known_calls (w : World) (hT : Sha.Tab w) : Calls Tryd.prog 9 #[] w fun e w' => e = .returned (.bool true) ∧ Below w.heap.size w w' := by
  have HT := Aside0.mk hT
  have hmk := make_B65
  clear hT
  go_enter Tryd.func9, Tryd.ntmps9
  go_upto_region 2 with (fail)
  obtain ⟨w1, hw1⟩ : ∃ w1, w.alloc (.cells zC65 5) = w1 := ⟨_, rfl⟩
  have hz1 : w1.heap[w.heap.size]? = some (.cells zC65 5 (0, 0)) := by rw [← hw1]; exact Go.Proofs.YtoiblfmlahedlaaDoor.As.heap_new _ _
  have HB1 := Aside0.mk (show Below w.heap.size w w1 by rw [← hw1]; exact (Below.refl _ _).alloc (Nat.le_refl _) _)
  rw [hw1]
  clear hw1
  have y0 : w1.cell? ⟨w.heap.size, 64, none⟩ = some (.int .u8 0) := by
    rw [World.cell?]
    simp only [hz1]
    kernel_rfl
  have z0 : w1.frozen? ⟨w.heap.size, 64, none⟩ = false := by simp [World.frozen?, hz1]
  have HZ1 := Aside0.mk hz1
  clear hz1
  go_upto_region 3 with (fail)
  obtain ⟨w2, hw2⟩ : ∃ w2, w1.setCell ⟨w.heap.size, 64, none⟩ (.int .u8 7) = w2 := ⟨_, rfl⟩
  have HK := Aside0.mk (show w2.heap[w.heap.size]? = some (.cells kC65 5 (0, 0)) by
    rw [← hw2, show kC65 = zC65.setIfInBounds 64 (.int .u8 7) by kernel_rfl]
    exact heap_setCell_same _ _ _ _ _ _ HZ1.out)
  have HB2 := Aside0.mk (show Below w.heap.size w w2 by rw [← hw2]; exact HB1.out.setCell (p := ⟨w.heap.size, 64, none⟩) (Nat.le_refl _) _)
  rw [hw2]
  clear hw2 HB1 HZ1 y0 z0
  generalize hg : w.heap.size = g at HK ⊢
  replace hg := Aside0.mk hg
  go_wp2_with fail
  refine (new_calls _).mono ?_
  rintro e w3 ⟨gh, rfl, hgl, hgh, hb⟩
  have HGH := Aside0.mk hgh
  have HB3 := Aside0.mk (below_step HB2.out hb)
  have HK3 := Aside0.mk (Go.Proofs.YtoiblfmlahedlaaDoor.As.heap_keep HK.out hb)
  clear hgl hgh hb HK
  go_wp2_with fail
  refine (rroot_calls gh (some ⟨g, 0, none⟩) 65 kB _ HGH.out (rowB HK3.out 0 kB (fun j x hx => by unfold kC65; rw [Nat.zero_add, List.getElem?_toArray, List.getElem?_map, hx]; rfl) (by rw [kBl]; omega)) (by rw [kBl]; omega) kBb (by rw [kBl]; omega)).mono ?_
  rintro e w4 ⟨rfl, hb⟩
  have HGH4 := Aside0.mk (Go.Proofs.YtoiblfmlahedlaaDoor.As.heap_keep HGH.out hb)
  have HK4 := Aside0.mk (Go.Proofs.YtoiblfmlahedlaaDoor.As.heap_keep HK3.out hb)
  have HB4 := Aside0.mk (below_step HB3.out hb)
  clear hb HGH HK3 HB3 HB2
  have HRL := Aside0.mk (show (rootOf kB).length = 32 by unfold rootOf Sha.rootI; exact Sha.shaI_len _)
  have HRB := Aside0.mk (show Sha.bytes (rootOf kB) by unfold rootOf Sha.rootI; exact Sha.shaI_bytes _)
  have KH2 := Aside0.mk kh2
  have KH3 := Aside0.mk kh3
  have KB4 := Aside0.mk kb4
  generalize rootOf kB = R at HRL HRB KH2 KH3 KB4 ⊢
  go_wp2_with fail
  obtain ⟨w5, hw5⟩ : ∃ w5, w4.alloc (.cells #[.int .i64 7, .int .i64 9] 3) = w5 := ⟨_, rfl⟩
  have hp5 : w5.heap[w4.heap.size]? = some (.cells #[.int .i64 7, .int .i64 9] 3 (0, 0)) := by rw [← hw5]; exact Go.Proofs.YtoiblfmlahedlaaDoor.As.heap_new _ _
  have hb5 : Below w4.heap.size w4 w5 := by rw [← hw5]; exact (Below.refl _ _).alloc (Nat.le_refl _) _
  have HP5 : Aside0 (I.C w5 (some ⟨w4.heap.size, 0, none⟩) ([7, 9] : List Int).length [7, 9]) := ⟨by
    refine ⟨rfl, by decide, fun _ => ⟨_, rfl, fun j x hx => ⟨[.int .i64 x], rfl, by rfl, fun i u hu => ?_⟩⟩⟩
    rcases i with _ | i
    · simp at hu
      subst hu
      rw [show (Addr.mk w4.heap.size 0 none).add (j * I.sz + 0) = ⟨w4.heap.size, 0 + j, none⟩ by
        rw [show j * I.sz + 0 = j by show j * 1 + 0 = j; omega]
        simp [Addr.add_lit]]
      rcases j with _ | _ | j
      · simp at hx; subst hx; simp [World.cell?, hp5]
      · simp at hx; subst hx; simp [World.cell?, hp5]
      · simp at hx
    · simp at hu⟩
  have HB5 := Aside0.mk (below_step HB4.out hb5)
  have HGH5 := Aside0.mk (Go.Proofs.YtoiblfmlahedlaaDoor.As.heap_keep HGH4.out hb5)
  have HK5 := Aside0.mk (Go.Proofs.YtoiblfmlahedlaaDoor.As.heap_keep HK4.out hb5)
  rw [hw5]
  clear hw5 hp5 hb5 HGH4 HK4 HB4
  refine (fnew_yes (L := 65) (ps := [7, 9]) (win := 1) (tm := 5) (bu := 100) (be := 0) HRL.out HRB.out HP5.out (by decide) (by intro x hx; simp at hx; omega) (by omega) kmay).mono ?_
  rintro e w6 ⟨v, rfl, a, rfl, hfw, hin, hb⟩
  have HF6 := Aside0.mk (show FW w6 a (kF R) 0 ks0 (fun _ => []) from hfw)
  have HIN := Aside0.mk hin
  have HB6 := Aside0.mk (below_step HB5.out hb)
  have HGH6 := Aside0.mk (Go.Proofs.YtoiblfmlahedlaaDoor.As.heap_keep HGH5.out hb)
  have HK6 := Aside0.mk (Go.Proofs.YtoiblfmlahedlaaDoor.As.heap_keep HK5.out hb)
  have HLO := Aside0.mk (show g < w5.heap.size ∧ gh < w5.heap.size ∧ w.heap.size ≤ w5.heap.size ∧ w5.heap.size ≤ w6.heap.size from ⟨(Array.getElem?_eq_some_iff.1 HK5.out).1, (Array.getElem?_eq_some_iff.1 HGH5.out).1, HB5.out.size, hb.size⟩)
  generalize w5.heap.size = lo at HIN HLO
  clear hfw hin hb HB5 HGH5 HK5 HP5
  go_wp2_with fail
  refine (fnext_calls (r := (0, 7, true)) (s' := kS1 R) HF6.out HIN.out (by omega) (HT.out.below HB6.out) (by omega) (kn1 R) rfl).mono ?_
  rintro e w7 ⟨rfl, hfw, hm⟩
  have HF7 := Aside0.mk hfw
  have HB7 := Aside0.mk (hm.held HB6.out HLO.out.2.2.1 HLO.out.2.2.2)
  have HGH7 := Aside0.mk (hm.keep HLO.out.2.1 HGH6.out)
  have HK7 := Aside0.mk (hm.keep HLO.out.1 HK6.out)
  have HL7 := Aside0.mk (show lo ≤ w7.heap.size from Nat.le_trans HLO.out.2.2.2 hm.size)
  replace HLO := Aside0.mk (show g < lo ∧ gh < lo ∧ w.heap.size ≤ lo ∧ lo ≤ w7.heap.size from ⟨HLO.out.1, HLO.out.2.1, HLO.out.2.2.1, HL7.out⟩)
  clear hfw hm HF6 HB6 HGH6 HK6 HL7
  go_wp2_with fail
  refine (fnext_calls (r := (1, 9, true)) (s' := kS2 R) HF7.out HIN.out (by omega) (HT.out.below HB7.out) (by omega) (kn2 R) rfl).mono ?_
  rintro e w8 ⟨rfl, hfw, hm⟩
  have HF8 := Aside0.mk hfw
  have HB8 := Aside0.mk (hm.held HB7.out HLO.out.2.2.1 HLO.out.2.2.2)
  have HGH8 := Aside0.mk (hm.keep HLO.out.2.1 HGH7.out)
  have HK8 := Aside0.mk (hm.keep HLO.out.1 HK7.out)
  have HL8 := Aside0.mk (show lo ≤ w8.heap.size from Nat.le_trans HLO.out.2.2.2 hm.size)
  replace HLO := Aside0.mk (show g < lo ∧ gh < lo ∧ w.heap.size ≤ lo ∧ lo ≤ w8.heap.size from ⟨HLO.out.1, HLO.out.2.1, HLO.out.2.2.1, HL8.out⟩)
  clear hfw hm HF7 HB7 HGH7 HK7 HL8
  go_wp2_with fail
  refine (fnext_calls (r := (0, 0, false)) (s' := kS3 R) HF8.out HIN.out (by omega) (HT.out.below HB8.out) (by omega) (kn3 R) rfl).mono ?_
  rintro e w9 ⟨rfl, hfw, hm⟩
  have HF9 := Aside0.mk hfw
  have HB9 := Aside0.mk (hm.held HB8.out HLO.out.2.2.1 HLO.out.2.2.2)
  have HGH9 := Aside0.mk (hm.keep HLO.out.2.1 HGH8.out)
  have HK9 := Aside0.mk (hm.keep HLO.out.1 HK8.out)
  have HL9 := Aside0.mk (show lo ≤ w9.heap.size from Nat.le_trans HLO.out.2.2.2 hm.size)
  replace HLO := Aside0.mk (show g < lo ∧ gh < lo ∧ w.heap.size ≤ lo ∧ lo ≤ w9.heap.size from ⟨HLO.out.1, HLO.out.2.1, HLO.out.2.2.1, HL9.out⟩)
  clear hfw hm HF8 HB8 HGH8 HK8 HL9
  have hcv := cv_no
  go_wp2_with fail
  have hn9 := noW_new w9
  have hb9 := noW_below w9
  have HCN : Aside0 (B.C (noW w9) (some ⟨w9.heap.size, 0, none⟩) ([110, 111] : List Int).length [110, 111]) := ⟨by
    refine ⟨rfl, by decide, fun _ => ⟨_, rfl, fun j x hx => ⟨[.int .u8 x], rfl, by rfl, fun i u hu => ?_⟩⟩⟩
    rcases i with _ | i
    · simp at hu
      subst hu
      rw [show (Addr.mk w9.heap.size 0 none).add (j * B.sz + 0) = ⟨w9.heap.size, 0 + j, none⟩ by
        rw [show j * B.sz + 0 = j by show j * 1 + 0 = j; omega]
        simp [Addr.add_lit]]
      rcases j with _ | _ | j
      · simp at hx; subst hx; simp [World.cell?, hn9]
      · simp at hx; subst hx; simp [World.cell?, hn9]
      · simp at hx
    · simp at hu⟩
  have HF10 := Aside0.mk (HF9.out.below hb9)
  have HB10 := Aside0.mk (below_step HB9.out hb9)
  have HGH10 := Aside0.mk (Go.Proofs.YtoiblfmlahedlaaDoor.As.heap_keep HGH9.out hb9)
  have HK10 := Aside0.mk (Go.Proofs.YtoiblfmlahedlaaDoor.As.heap_keep HK9.out hb9)
  replace HLO := Aside0.mk (show g < lo ∧ gh < lo ∧ w.heap.size ≤ lo ∧ lo ≤ (noW w9).heap.size from ⟨HLO.out.1, HLO.out.2.1, HLO.out.2.2.1, Nat.le_trans HLO.out.2.2.2 hb9.size⟩)
  generalize w9.heap.size = gn at HCN ⊢
  generalize noW w9 = w10 at HCN HF10 HB10 HGH10 HK10 HLO ⊢
  clear hn9 hb9 HF9 HB9 HGH9 HK9 hcv
  refine (hear_calls (r := 5) (s' := kS4 R) (K' := fun _ => []) (l := [110, 111]) (p := []) HF10.out HIN.out (by omega) (HT.out.below HB10.out) HCN.out (by intro y hy; simp at hy; omega) (by decide) (Kd.C_nil _ _) (by intro y hy; cases hy) (by decide) (kh1' R)).mono ?_
  rintro e w11 ⟨rfl, hfw, hm⟩
  have HF11 := Aside0.mk hfw
  have HB11 := Aside0.mk (hm.held HB10.out HLO.out.2.2.1 HLO.out.2.2.2)
  have HGH11 := Aside0.mk (hm.keep HLO.out.2.1 HGH10.out)
  have HK11 := Aside0.mk (hm.keep HLO.out.1 HK10.out)
  have HL11 := Aside0.mk (show lo ≤ w11.heap.size from Nat.le_trans HLO.out.2.2.2 hm.size)
  replace HLO := Aside0.mk (show g < lo ∧ gh < lo ∧ w.heap.size ≤ lo ∧ lo ≤ w11.heap.size from ⟨HLO.out.1, HLO.out.2.1, HLO.out.2.2.1, HL11.out⟩)
  clear hfw hm HF10 HB10 HGH10 HK10 HL11 HCN
  go_upto_region 12 with (fail)
  obtain ⟨hi, hhi⟩ : ∃ hi, w6.heap.size = hi := ⟨_, rfl⟩
  rw [hhi] at HIN
  clear hhi
  have hD := below_drew1 (Below.refl w11.heap.size w11)
  have HFd := Aside0.mk (HF11.out.below hD)
  have HGd := Aside0.mk (Go.Proofs.YtoiblfmlahedlaaDoor.As.heap_keep HGH11.out hD)
  have HKd := Aside0.mk (Go.Proofs.YtoiblfmlahedlaaDoor.As.heap_keep HK11.out hD)
  have HBd := Aside0.mk (below_step HB11.out hD)
  have hS0 : Mov lo hi w11 w11.drew := Mov.of_below hD
  obtain ⟨P1, hP1⟩ : ∃ P, proofOf kB 1 = P := ⟨_, rfl⟩
  obtain ⟨P2, hP2⟩ : ∃ P, proofOf kB 0 = P := ⟨_, rfl⟩
  have HP1R := Aside0.mk (show Sha.isRow P1 from hP1 ▸ Sha.proof_row kB 1)
  have HP2R := Aside0.mk (show Sha.isRow P2 from hP2 ▸ Sha.proof_row kB 0)
  have HP1L := Aside0.mk (show P1.length < 1000000 from hP1 ▸ kpl 1)
  have HP2L := Aside0.mk (show P2.length < 1000000 from hP2 ▸ kpl 0)
  rw [hP1] at KH2
  rw [hP2] at KH3
  have HP1 := Aside0.mk hP1
  have HP2 := Aside0.mk hP2
  clear hD hP1 hP2
  refine start_ (n := 18) (S := fun w' => Mov lo hi w11 w') (ds := []) #[false, false, false, false, false, false, false, false, false, false, false, false, false, false, false, false, false, false] (by kernel_rfl) rfl rfl (by exact hS0) (fun hHeld => ?_)
  refine with_tabW kno_tab12 kno_bits12 (fun HT_ HW_ => ?_)
  generalize w11.drew = wq at hHeld hS0 HFd HGd HKd HBd ⊢
  refine pure_ (i := 0) (N := some 84) (v := ?_) (a' := ?_) #[true, false, false, false, false, false, false, false, false, false, false, false, false, false, false, false, false, false] rfl rfl (any_of HT_.out (by kernel_rfl)) (fun _ _ _ h => h) (Or.inl ⟨by rfl, ?_⟩) ?_ ?_
  rotate_left
  · intro w'
    go_simp
    with_reducible rfl
  rotate_left
  · simp only [Act.put, List.setIfInBounds_toArray, List.set_cons_zero, List.set_cons_succ, i64_w, i32_w]
    rfl
  refine pure_ (i := 1) (N := some 85) (v := ?_) (a' := ?_) #[true, true, false, false, false, false, false, false, false, false, false, false, false, false, false, false, false, false] rfl rfl (any_of HT_.out (by kernel_rfl)) (fun _ _ _ h => h) (Or.inl ⟨by rfl, ?_⟩) ?_ ?_
  rotate_left
  · intro w'
    go_simp
    with_reducible rfl
  rotate_left
  · simp only [Act.put, List.setIfInBounds_toArray, List.set_cons_zero, List.set_cons_succ, i64_w, i32_w]
    rfl
  refine pure_ (i := 2) (N := some 86) (v := ?_) (a' := ?_) #[true, true, true, false, false, false, false, false, false, false, false, false, false, false, false, false, false, false] rfl rfl (any_of HT_.out (by kernel_rfl)) (fun _ _ _ h => h) (Or.inl ⟨by rfl, ?_⟩) ?_ ?_
  rotate_left
  · intro w'
    go_simp
    with_reducible rfl
  rotate_left
  · simp only [Act.put, List.setIfInBounds_toArray, List.set_cons_zero, List.set_cons_succ, i64_w, i32_w]
    rfl
  refine pure_ (i := 3) (N := some 87) (v := ?_) (a' := ?_) #[true, true, true, true, false, false, false, false, false, false, false, false, false, false, false, false, false, false] rfl rfl (any_of HT_.out (by kernel_rfl)) (fun _ _ _ h => h) (Or.inl ⟨by rfl, ?_⟩) ?_ ?_
  rotate_left
  · intro w'
    go_simp
    with_reducible rfl
  rotate_left
  · simp only [Act.put, List.setIfInBounds_toArray, List.set_cons_zero, List.set_cons_succ, i64_w, i32_w]
    rfl
  refine pure_ (i := 4) (N := some 88) (v := ?_) (a' := ?_) #[true, true, true, true, true, false, false, false, false, false, false, false, false, false, false, false, false, false] rfl rfl (any_of HT_.out (by kernel_rfl)) (fun _ _ _ h => h) (Or.inl ⟨by rfl, ?_⟩) ?_ ?_
  rotate_left
  · intro w'
    go_simp
    with_reducible rfl
  rotate_left
  · simp only [Act.put, List.setIfInBounds_toArray, List.set_cons_zero, List.set_cons_succ, i64_w, i32_w]
    rfl
  refine one_ (i := 5) (N := some 89) #[true, true, true, true, true, true, false, false, false, false, false, false, false, false, false, false, false, false] rfl rfl (one_of HT_.out (by kernel_rfl)) (by decide) (fun K hK => ?_)
  refine goes_ Tryd.func19 (by kernel_rfl) rfl #[.pointer (some ⟨gh, 0, none⟩), .slice (some ⟨g, 0, none⟩) 65 65, .int .i64 1] (by rfl) rfl rfl (by (try simp only [List.map_toArray, List.map_cons, List.map_nil]); first | done | rfl) ?_
  refine (rproof_calls gh (some ⟨g, 0, none⟩) 65 kB 1 _ HGd.out (rowAll HKd.out) (by rw [kBl]; omega) kBb (by rw [kBl]; omega) (by rw [kBl]; decide)).mono ?_
  rintro e w12 ⟨v, rfl, ho, hb⟩
  refine ⟨_, rfl, ?_⟩
  have hS1 := hHeld.trans (Mov.of_below hb)
  rw [HP1.out] at ho
  obtain ⟨A1, c1, rfl, hc1, hr1⟩ := Kd.R_reads ho
  have HC1 := Aside0.mk hr1
  have HPC1 := Aside0.mk hc1
  have HF12 := Aside0.mk (HFd.out.below hb)
  have HB12 := Aside0.mk (below_step HBd.out hb)
  have HG12 := Aside0.mk (Go.Proofs.YtoiblfmlahedlaaDoor.As.heap_keep HGd.out hb)
  have HK12 := Aside0.mk (Go.Proofs.YtoiblfmlahedlaaDoor.As.heap_keep HKd.out hb)
  clear hb ho hr1 hc1
  refine hK.out _ _ (by exact hS1) (fun hHeld => ?_)
  clear hK K
  refine norm_ (a' := ?_) ?_ ?_
  rotate_left
  · first
    | (show Act.put _ (some 89) _ = _; simp only [Act.put, List.setIfInBounds_toArray, List.set_cons_zero, List.set_cons_succ, i64_w, i32_w]; rfl)
    | rfl
  refine one_ (i := 6) (N := some 90) #[true, true, true, true, true, true, true, false, false, false, false, false, false, false, false, false, false, false] rfl rfl (one_of HT_.out (by kernel_rfl)) (by decide) (fun K hK => ?_)
  refine goes_ Tryd.func15 (by kernel_rfl) rfl #[.pointer (some ⟨a.p, 0, none⟩), .int .i64 9, .int .i64 1, .slice (some ⟨g, 64, none⟩) 1 1, .slice A1 P1.length c1] (by rfl) rfl rfl (by (try simp only [List.map_toArray, List.map_cons, List.map_nil]); first | done | rfl) ?_
  refine (hear_calls (r := 0) (s' := kS5 R) (K' := kK1) (l := [7]) (p := P1) HF12.out HIN.out (by omega) (HT.out.below HB12.out) (rowHi HK12.out) (by intro y hy; simp at hy; omega) (by decide) HC1.out HP1R.out ⟨HPC1.out, HP1L.out⟩ KH2.out).mono ?_
  rintro e w13 ⟨rfl, hfw, hm⟩
  refine ⟨_, rfl, ?_⟩
  have hS1 := hHeld.trans hm
  have HF13 := Aside0.mk hfw
  have HL12 := Nat.le_trans HLO.out.2.2.2 hHeld.size
  have HB13 := Aside0.mk (hm.held HB12.out HLO.out.2.2.1 HL12)
  have HG13 := Aside0.mk (hm.keep HLO.out.2.1 HG12.out)
  have HK13 := Aside0.mk (hm.keep HLO.out.1 HK12.out)
  clear hfw hm HL12
  refine hK.out _ _ (by exact hS1) (fun hHeld => ?_)
  clear hK K
  refine norm_ (a' := ?_) ?_ ?_
  rotate_left
  · first
    | (show Act.put _ (some 90) _ = _; simp only [Act.put, List.setIfInBounds_toArray, List.set_cons_zero, List.set_cons_succ, i64_w, i32_w]; rfl)
    | rfl
  refine pure_ (i := 7) (N := some 91) (v := ?_) (a' := ?_) #[true, true, true, true, true, true, true, true, false, false, false, false, false, false, false, false, false, false] rfl rfl (any_of HT_.out (by kernel_rfl)) (fun _ _ _ h => h) (Or.inl ⟨by rfl, ?_⟩) ?_ ?_
  rotate_left
  · intro w'
    go_simp
    with_reducible rfl
  rotate_left
  · simp only [Act.put, List.setIfInBounds_toArray, List.set_cons_zero, List.set_cons_succ, i64_w, i32_w]
    rfl
  refine pure_ (i := 8) (N := some 92) (v := ?_) (a' := ?_) #[true, true, true, true, true, true, true, true, true, false, false, false, false, false, false, false, false, false] rfl rfl (any_of HT_.out (by kernel_rfl)) (fun _ _ _ h => h) (Or.inl ⟨by rfl, ?_⟩) ?_ ?_
  rotate_left
  · intro w'
    go_simp
    with_reducible rfl
  rotate_left
  · simp only [Act.put, List.setIfInBounds_toArray, List.set_cons_zero, List.set_cons_succ, i64_w, i32_w]
    rfl
  refine pure_ (i := 9) (N := some 93) (v := ?_) (a' := ?_) #[true, true, true, true, true, true, true, true, true, true, false, false, false, false, false, false, false, false] rfl rfl (any_of HT_.out (by kernel_rfl)) (fun _ _ _ h => h) (Or.inl ⟨by rfl, ?_⟩) ?_ ?_
  rotate_left
  · intro w'
    go_simp
    with_reducible rfl
  rotate_left
  · simp only [Act.put, List.setIfInBounds_toArray, List.set_cons_zero, List.set_cons_succ, i64_w, i32_w]
    rfl
  refine pure_ (i := 10) (N := some 94) (v := ?_) (a' := ?_) #[true, true, true, true, true, true, true, true, true, true, true, false, false, false, false, false, false, false] rfl rfl (any_of HT_.out (by kernel_rfl)) (fun _ _ _ h => h) (Or.inl ⟨by rfl, ?_⟩) ?_ ?_
  rotate_left
  · intro w'
    go_simp
    with_reducible rfl
  rotate_left
  · simp only [Act.put, List.setIfInBounds_toArray, List.set_cons_zero, List.set_cons_succ, i64_w, i32_w]
    rfl
  refine pure_ (i := 11) (N := some 95) (v := ?_) (a' := ?_) #[true, true, true, true, true, true, true, true, true, true, true, true, false, false, false, false, false, false] rfl rfl (any_of HT_.out (by kernel_rfl)) (fun _ _ _ h => h) (Or.inl ⟨by rfl, ?_⟩) ?_ ?_
  rotate_left
  · intro w'
    go_simp
    with_reducible rfl
  rotate_left
  · simp only [Act.put, List.setIfInBounds_toArray, List.set_cons_zero, List.set_cons_succ, i64_w, i32_w]
    rfl
  refine pure_ (i := 12) (N := some 96) (v := ?_) (a' := ?_) #[true, true, true, true, true, true, true, true, true, true, true, true, true, false, false, false, false, false] rfl rfl (any_of HT_.out (by kernel_rfl)) (fun _ _ _ h => h) (Or.inl ⟨by rfl, ?_⟩) ?_ ?_
  rotate_left
  · intro w'
    go_simp
    with_reducible rfl
  rotate_left
  · simp only [Act.put, List.setIfInBounds_toArray, List.set_cons_zero, List.set_cons_succ, i64_w, i32_w]
    rfl
  refine pure_ (i := 13) (N := some 97) (v := ?_) (a' := ?_) #[true, true, true, true, true, true, true, true, true, true, true, true, true, true, false, false, false, false] rfl rfl (any_of HT_.out (by kernel_rfl)) (fun _ _ _ h => h) (Or.inl ⟨by rfl, ?_⟩) ?_ ?_
  rotate_left
  · intro w'
    go_simp
    with_reducible rfl
  rotate_left
  · simp only [Act.put, List.setIfInBounds_toArray, List.set_cons_zero, List.set_cons_succ, i64_w, i32_w]
    rfl
  refine one_ (i := 14) (N := some 98) #[true, true, true, true, true, true, true, true, true, true, true, true, true, true, true, false, false, false] rfl rfl (one_of HT_.out (by kernel_rfl)) (by decide) (fun K hK => ?_)
  refine goes_ Tryd.func19 (by kernel_rfl) rfl #[.pointer (some ⟨gh, 0, none⟩), .slice (some ⟨g, 0, none⟩) 65 65, .int .i64 0] (by rfl) rfl rfl (by (try simp only [List.map_toArray, List.map_cons, List.map_nil]); first | done | rfl) ?_
  refine (rproof_calls gh (some ⟨g, 0, none⟩) 65 kB 0 _ HG13.out (rowAll HK13.out) (by rw [kBl]; omega) kBb (by rw [kBl]; omega) (by rw [kBl]; decide)).mono ?_
  rintro e w14 ⟨v, rfl, ho, hb⟩
  refine ⟨_, rfl, ?_⟩
  have hS1 := hHeld.trans (Mov.of_below hb)
  rw [HP2.out] at ho
  obtain ⟨A2, c2, rfl, hc2, hr2⟩ := Kd.R_reads ho
  have HC2 := Aside0.mk hr2
  have HPC2 := Aside0.mk hc2
  have HF14 := Aside0.mk (HF13.out.below hb)
  have HB14 := Aside0.mk (below_step HB13.out hb)
  have HG14 := Aside0.mk (Go.Proofs.YtoiblfmlahedlaaDoor.As.heap_keep HG13.out hb)
  have HK14 := Aside0.mk (Go.Proofs.YtoiblfmlahedlaaDoor.As.heap_keep HK13.out hb)
  clear hb ho hr2 hc2
  refine hK.out _ _ (by exact hS1) (fun hHeld => ?_)
  clear hK K
  refine norm_ (a' := ?_) ?_ ?_
  rotate_left
  · first
    | (show Act.put _ (some 98) _ = _; simp only [Act.put, List.setIfInBounds_toArray, List.set_cons_zero, List.set_cons_succ, i64_w, i32_w]; rfl)
    | rfl
  refine one_ (i := 15) (N := some 99) #[true, true, true, true, true, true, true, true, true, true, true, true, true, true, true, true, false, false] rfl rfl (one_of HT_.out (by kernel_rfl)) (by decide) (fun K hK => ?_)
  refine goes_ Tryd.func15 (by kernel_rfl) rfl #[.pointer (some ⟨a.p, 0, none⟩), .int .i64 7, .int .i64 0, .slice (some ⟨g, 0, none⟩) 64 65, .slice A2 P2.length c2] (by rfl) rfl rfl (by (try simp only [List.map_toArray, List.map_cons, List.map_nil]); first | done | rfl) ?_
  refine (hear_calls (r := 0) (s' := kS6 R) (K' := kK2) (l := List.replicate 64 0) (p := P2) HF14.out HIN.out (by omega) (HT.out.below HB14.out) (rowLo HK14.out) z64b (by decide) HC2.out HP2R.out ⟨HPC2.out, HP2L.out⟩ KH3.out).mono ?_
  rintro e w15 ⟨rfl, hfw, hm⟩
  refine ⟨_, rfl, ?_⟩
  have hS1 := hHeld.trans hm
  have HF15 := Aside0.mk hfw
  have HL14 := Nat.le_trans HLO.out.2.2.2 hHeld.size
  have HB15 := Aside0.mk (hm.held HB14.out HLO.out.2.2.1 HL14)
  have HG15 := Aside0.mk (hm.keep HLO.out.2.1 HG14.out)
  have HK15 := Aside0.mk (hm.keep HLO.out.1 HK14.out)
  clear hfw hm HL14
  refine hK.out _ _ (by exact hS1) (fun hHeld => ?_)
  clear hK K
  refine norm_ (a' := ?_) ?_ ?_
  rotate_left
  · first
    | (show Act.put _ (some 99) _ = _; simp only [Act.put, List.setIfInBounds_toArray, List.set_cons_zero, List.set_cons_succ, i64_w, i32_w]; rfl)
    | rfl
  refine pure_ (i := 16) (N := some 100) (v := ?_) (a' := ?_) #[true, true, true, true, true, true, true, true, true, true, true, true, true, true, true, true, true, false] rfl rfl (any_of HT_.out (by kernel_rfl)) (fun _ _ _ h => h) (Or.inl ⟨by rfl, ?_⟩) ?_ ?_
  rotate_left
  · intro w'
    go_simp
    with_reducible rfl
  rotate_left
  · simp only [Act.put, List.setIfInBounds_toArray, List.set_cons_zero, List.set_cons_succ, i64_w, i32_w]
    rfl
  refine pure_ (i := 17) (N := some 101) (v := ?_) (a' := ?_) #[true, true, true, true, true, true, true, true, true, true, true, true, true, true, true, true, true, true] rfl rfl (any_of HT_.out (by kernel_rfl)) (fun _ _ _ h => h) (Or.inl ⟨by rfl, ?_⟩) ?_ ?_
  rotate_left
  · intro w'
    go_simp
    with_reducible rfl
  rotate_left
  · simp only [Act.put, List.setIfInBounds_toArray, List.set_cons_zero, List.set_cons_succ, i64_w, i32_w]
    rfl
  refine done_ (done_of HT_.out (by kernel_rfl)) ?_
  have hHH := hHeld
  clear hHeld HT_ HW_ hS0 HFd HGd HKd HBd
  go_wp2_with fail
  refine (blob_calls (r := some kB) HF15.out (by omega) (HT.out.below HB15.out) KB4.out).mono ?_
  rintro e w16 ⟨v, rfl, _, ho, hb⟩
  obtain ⟨A3, c3, rfl, hc3, hr3⟩ := Kd.R_reads (ho kB rfl)
  have HF16 := Aside0.mk (HF15.out.below hb)
  have HB16 := Aside0.mk (below_step HB15.out hb)
  have HK16 := Aside0.mk (Go.Proofs.YtoiblfmlahedlaaDoor.As.heap_keep HK15.out hb)
  have HL16 := Aside0.mk (show lo ≤ w16.heap.size from Nat.le_trans (Nat.le_trans HLO.out.2.2.2 hHH.size) hb.size)
  have hcv1 : (convert 22 9 (.slice A3 kB.length c3)).run Tryd.prog w16 = .ok (.string (strOfNums kB)) w16 := Kd.C_string Tryd.underlying22 Tryd.underlying5 Tryd.underlying9 hr3
  have hcv2 : (convert 22 9 (.slice (some ⟨g, 0, none⟩) 65 65)).run Tryd.prog w16 = .ok (.string (strOfNums kB)) w16 := Kd.C_string Tryd.underlying22 Tryd.underlying5 Tryd.underlying9 (rowAll HK16.out)
  rw [kBl] at hcv1 ⊢
  generalize strOfNums kB = sb at hcv1 hcv2
  clear ho hb hr3 hHH HF15 HB15 HK15 HG15
  go_wp2_with fail
  refine (hear_calls (r := 7) (s' := kS6 R) (K' := kK2) (l := List.replicate 64 0) (p := []) HF16.out HIN.out (by omega) (HT.out.below HB16.out) (rowLo HK16.out) z64b (by decide) (Kd.C_nil _ _) (by intro y hy; cases hy) (by decide) (kh5 R)).mono ?_
  rintro e w17 ⟨rfl, hfw, hm⟩
  have HB17 := Aside0.mk (hm.held HB16.out HLO.out.2.2.1 HL16.out)
  clear hfw hm hcv1 hcv2
  go_wp2
  go_ret
  exact ⟨rfl, HB17.out⟩
end Go.Proofs.YtoiblfmlahedlaaDoor.Fe
end
section
namespace Go.Proofs.YtoiblfmlahedlaaDoor.Fe
open Go.RowKit Go.Proofs.YtoiblfmlahedlaaDoorW.PrintWords Go.Proofs.YtoiblfmlahedlaaDoorW.PrintLast Go.Proofs.YtoiblfmlahedlaaDoorW.PrintMore
set_option linter.unusedVariables false
set_option linter.unusedSimpArgs false
set_option maxRecDepth 100000
open Go.Proofs.YtoiblfmlahedlaaDoor.Sha (cb vd countN rootOf checkB B KD isRow infoDg cb_size cb_one)
abbrev zFC : Array Value := #[.int .u8 0, .int .u8 0, .int .u8 0, .int .u8 0, .int .u8 0, .int .u8 0, .int .u8 0, .int .u8 0, .int .u8 0, .int .u8 0, .int .u8 0, .int .u8 0, .int .u8 0, .int .u8 0, .int .u8 0, .int .u8 0, .int .u8 0, .int .u8 0, .int .u8 0, .int .u8 0, .int .u8 0, .int .u8 0, .int .u8 0, .int .u8 0, .int .u8 0, .int .u8 0, .int .u8 0, .int .u8 0, .int .u8 0, .int .u8 0, .int .u8 0, .int .u8 0, .int .i64 0, .slice none 0 0, .pointer none, .map none, .int .i64 0, .int .i64 0]
theorem eq_zero (w : World) : (Op.equalIn 10000 31 (.agg (cb zD)) (.agg #[.int .u8 0, .int .u8 0, .int .u8 0, .int .u8 0, .int .u8 0, .int .u8 0, .int .u8 0, .int .u8 0, .int .u8 0, .int .u8 0, .int .u8 0, .int .u8 0, .int .u8 0, .int .u8 0, .int .u8 0, .int .u8 0, .int .u8 0, .int .u8 0, .int .u8 0, .int .u8 0, .int .u8 0, .int .u8 0, .int .u8 0, .int .u8 0, .int .u8 0, .int .u8 0, .int .u8 0, .int .u8 0, .int .u8 0, .int .u8 0, .int .u8 0, .int .u8 0])).run Tryd.prog w = .ok true w := by
  have h := Sha.eqD (a := zD) (b := zD) (by decide) (by decide) w
  rw [decide_eq_true rfl] at h
  exact h
theorem Nil.at {w w' : World} {v : Value} (h : Nil w v) (hb : Below w.heap.size w w') : Nil w' v := h.below hb
set_option maxHeartbeats 3200000 in
theorem none_walk (cs0 : Array Value) (x0 : Open.OpB) (w : World) (hT : Sha.Tab w) (hx : Open.k_t38.K w x0 cs0.toList) (k0 : Open.okOpB x0) :
    Calls Tryd.prog 8 #[.agg cs0] w fun e w' => e = .returned (.bool true) ∧ Below w.heap.size w w' := by
  obtain ⟨A4, c4, e, l4, C4⟩ := Open.cells_OpB hx
  obtain ⟨cl⟩ := cs0
  have e : cl = _ := e
  subst e
  obtain ⟨kd, xi, xp, xn, b⟩ := x0
  simp only [] at *
  have HT := Aside0.mk hT
  have HC := Aside0.mk C4
  clear hx hT C4 k0
  go_enter Tryd.func8, Tryd.ntmps8
  go_upto_region 1 with (fail)
  obtain ⟨w1, hw1⟩ : ∃ w1, w.alloc (.cells #[.int .i64 kd, .int .i64 xi, .int .i64 xp, .int .i64 xn, .slice A4 b.length c4] 38) = w1 := ⟨_, rfl⟩
  have HO1 := Aside0.mk (show w1.heap[w.heap.size]? = some (.cells #[.int .i64 kd, .int .i64 xi, .int .i64 xp, .int .i64 xn, .slice A4 b.length c4] 38 (0, 0)) by rw [← hw1]; exact Go.Proofs.YtoiblfmlahedlaaDoor.As.heap_new _ _)
  have HB1 := Aside0.mk (show Below w.heap.size w w1 by rw [← hw1]; exact (Below.refl _ _).alloc (Nat.le_refl _) _)
  rw [hw1]
  clear hw1
  obtain ⟨go, hgo⟩ : ∃ g, w.heap.size = g := ⟨_, rfl⟩
  rw [hgo] at HO1 ⊢
  have HGO := Aside0.mk hgo
  clear hgo
  have ocu : ∀ {w' : World}, w'.heap[go]? = some (.cells #[.int .i64 kd, .int .i64 xi, .int .i64 xp, .int .i64 xn, .slice A4 b.length c4] 38 (0, 0)) → w'.cell? ⟨go, 1, none⟩ = some (.int .i64 xi) ∧ w'.cell? ⟨go, 2, none⟩ = some (.int .i64 xp) ∧ w'.cell? ⟨go, 3, none⟩ = some (.int .i64 xn) ∧ w'.cell? ⟨go, 4, none⟩ = some (.slice A4 b.length c4) := by
    intro w' h
    refine ⟨?_, ?_, ?_, ?_⟩ <;> simp [World.cell?, h]
  have OCU := Aside0.mk @ocu
  clear ocu
  obtain ⟨o1, o2, o3, o4⟩ := OCU.out HO1.out
  by_cases hb : b.length > 200
  · have e1 : decide ((b.length : Int) > 200) = true := decide_eq_true (by omega)
    have e2 : decide (b.length > 200) = true := decide_eq_true hb
    clear hb
    go_wp2_with fail
    refine (known_calls _ (HT.out.below HB1.out)).mono ?_
    rintro e w2 ⟨rfl, hb⟩
    have HB2 := Aside0.mk (below_step HB1.out hb)
    clear hb
    go_wp2
    go_ret
    exact ⟨rfl, by rw [HGO.out]; rw [HGO.out] at HB2; exact HB2.out⟩
  have e1 : decide ((b.length : Int) > 200) = false := decide_eq_false (by omega)
  have e2 : decide (b.length > 200) = false := decide_eq_false hb
  have HBL := Aside0.mk hb
  clear hb
  go_upto_region 4 with (fail)
  have hl1 : go < w1.heap.size := (Array.getElem?_eq_some_iff.1 HO1.out).1
  obtain ⟨w2, hw2⟩ : ∃ w2, w1.alloc (.cells zFC 62) = w2 := ⟨_, rfl⟩
  have hz2 : w2.heap[w1.heap.size]? = some (.cells zFC 62 (0, 0)) := by rw [← hw2]; exact Go.Proofs.YtoiblfmlahedlaaDoor.As.heap_new _ _
  have hb2 : Below w1.heap.size w1 w2 := by rw [← hw2]; exact (Below.refl _ _).alloc (Nat.le_refl _) _
  have HB2 := Aside0.mk (below_step HB1.out hb2)
  have HO2 := Aside0.mk (Go.Proofs.YtoiblfmlahedlaaDoor.As.heap_keep HO1.out hb2)
  rw [hw2]
  obtain ⟨gz, hgz⟩ : ∃ g, w1.heap.size = g := ⟨_, rfl⟩
  rw [hgz] at hz2 ⊢
  have HN2 : Aside0 (Nil w2 (.pointer (some ⟨gz, 0, none⟩))) := ⟨Or.inr ⟨gz, rfl, by simp [World.cell?, hz2]⟩⟩
  clear hw2 hz2 hb2 hl1 hgz o1 o2 o3 o4
  go_upto_region 5 with (fail)
  obtain ⟨gs, hgs⟩ : ∃ g, w2.heap.size = g := ⟨_, rfl⟩
  obtain ⟨w3, hw3⟩ : ∃ w3, w2.alloc (.cells #[.pointer none, .pointer (some ⟨gz, 0, none⟩)] 33) = w3 := ⟨_, rfl⟩
  have hs3 : w3.heap[w2.heap.size]? = some (.cells #[.pointer none, .pointer (some ⟨gz, 0, none⟩)] 33 (0, 0)) := by rw [← hw3]; exact Go.Proofs.YtoiblfmlahedlaaDoor.As.heap_new _ _
  have hb3 : Below w2.heap.size w2 w3 := by rw [← hw3]; exact (Below.refl _ _).alloc (Nat.le_refl _) _
  have HB3 := Aside0.mk (below_step HB2.out hb3)
  have HO3 := Aside0.mk (Go.Proofs.YtoiblfmlahedlaaDoor.As.heap_keep HO2.out hb3)
  have HN3 := Aside0.mk (HN2.out.below hb3)
  rw [hw3]
  rw [hgs] at hs3 ⊢
  have HS3 := Aside0.mk hs3
  obtain ⟨ad, had⟩ : ∃ a : Addr, ⟨gs, 0, none⟩ = a := ⟨_, rfl⟩
  rw [had]
  have HAD := Aside0.mk had
  clear hs3 hw3 hb3 hgs had HN2 HO2 HB2 HB1 HO1 e1 e2
  go_wp2
  go_loopw [20] (fun v wr => ∃ i : Nat, i ≤ 2 ∧ v = .int .i64 (i : Int) ∧ Aside0 (wr.heap[go]? = some (.cells #[.int .i64 kd, .int .i64 xi, .int .i64 xp, .int .i64 xn, .slice A4 b.length c4] 38 (0, 0))) ∧ Aside0 (wr.heap[gs]? = some (.cells #[.pointer none, .pointer (some ⟨gz, 0, none⟩)] 33 (0, 0))) ∧ Aside0 (Nil wr (.pointer (some ⟨gz, 0, none⟩))) ∧ Aside0 (Below w.heap.size w wr)) (fun v _ => 2 - (intOf v).toNat)
  case atStart => exact ⟨0, by omega, rfl, HO3, HS3, HN3, by rw [HGO.out]; rw [HGO.out] at HB3; exact HB3⟩
  case round =>
    clear HO3 HS3 HN3 HB3
    obtain ⟨i, hi, rfl, HO, HS, HN, HB⟩ := hrel
    by_cases hlt : i < 2
    rotate_left
    · obtain rfl : i = 2 := by omega
      go_wp2_with fail
      refine (known_calls _ (HT.out.below HB.out)).mono ?_
      rintro e w5 ⟨rfl, hb⟩
      have HB5 := Aside0.mk (below_step HB.out hb)
      clear hb
      go_wp2
      go_ret
      exact ⟨rfl, HB5.out⟩
    have e1 : decide ((i : Int) < 2) = true := decide_eq_true (by omega)
    have e2 : decide (i < 2) = true := decide_eq_true hlt
    obtain ⟨v, hv, cv⟩ : ∃ v, Nil wr v ∧ wr.cell? (ad.add i) = some v := by
      rw [← HAD.out, Addr.add_lit]
      rcases i with _ | _ | i
      · exact ⟨_, Or.inl rfl, by simp [World.cell?, HS.out]⟩
      · exact ⟨_, HN.out, by simp [World.cell?, HS.out]⟩
      · omega
    have HV := Aside0.mk hv
    clear hv
    obtain ⟨o1, o2, o3, o4⟩ := OCU.out HO.out
    go_wp2_with fail
    refine (next_no HV.out).mono ?_
    rintro e w5 ⟨rfl, hw⟩
    replace hw := hw.symm
    subst hw
    go_wp2_with fail
    refine (blob_no HV.out).mono ?_
    rintro e w5 ⟨rfl, hw⟩
    replace hw := hw.symm
    subst hw
    go_wp2_with fail
    refine (hear_no HV.out).mono ?_
    rintro e w5 ⟨rfl, hb⟩
    have HV5 := Aside0.mk (HV.out.below hb)
    have HB5 := Aside0.mk (below_step HB.out hb)
    have HO5 := Aside0.mk (Go.Proofs.YtoiblfmlahedlaaDoor.As.heap_keep HO.out hb)
    have HS5 := Aside0.mk (Go.Proofs.YtoiblfmlahedlaaDoor.As.heap_keep HS.out hb)
    have HN5 := Aside0.mk (HN.out.below hb)
    clear hb HV HB HO HS HN o1 o2 o3 o4
    obtain ⟨o1, o2, o3, o4⟩ := OCU.out HO5.out
    go_wp2_with fail
    refine (over_no HV5.out).mono ?_
    rintro e w6 ⟨rfl, hb⟩
    have HV6 := Aside0.mk (HV5.out.below hb)
    have HB6 := Aside0.mk (below_step HB5.out hb)
    have HO6 := Aside0.mk (Go.Proofs.YtoiblfmlahedlaaDoor.As.heap_keep HO5.out hb)
    have HS6 := Aside0.mk (Go.Proofs.YtoiblfmlahedlaaDoor.As.heap_keep HS5.out hb)
    have HN6 := Aside0.mk (HN5.out.below hb)
    clear hb HV5 HB5 HO5 HS5 HN5 o1 o2 o3 o4
    go_wp2_with fail
    refine (left_no HV6.out).mono ?_
    rintro e w7 ⟨rfl, hw⟩
    replace hw := hw.symm
    subst hw
    go_wp2_with fail
    refine (len_no HV6.out).mono ?_
    rintro e w7 ⟨rfl, hw⟩
    replace hw := hw.symm
    subst hw
    go_wp2_with fail
    refine (froot_no HV6.out).mono ?_
    rintro e w7 ⟨rfl, hb⟩
    have HB7 := Aside0.mk (below_step HB6.out hb)
    have HO7 := Aside0.mk (Go.Proofs.YtoiblfmlahedlaaDoor.As.heap_keep HO6.out hb)
    have HS7 := Aside0.mk (Go.Proofs.YtoiblfmlahedlaaDoor.As.heap_keep HS6.out hb)
    have HN7 := Aside0.mk (HN6.out.below hb)
    clear hb HV6 HB6 HO6 HS6 HN6
    have heq := eq_zero
    go_wp2_with fail
    go_roundw
    case rel => exact ⟨i + 1, by omega, by first | rfl | go_num, HO7, HS7, HN7, HB7⟩
    case measure => simp [intOf]; omega
end Go.Proofs.YtoiblfmlahedlaaDoor.Fe
end
