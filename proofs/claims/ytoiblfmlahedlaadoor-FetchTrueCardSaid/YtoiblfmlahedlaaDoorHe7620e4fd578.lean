/- What calls of Go functions of this seat come to, as the rows need it: under the conditions that each theorem names. -/
import Derived.Test.YtoiblfmlahedlaaDoorH8cf79964d4d1
import Derived.Test.YtoiblfmlahedlaaDoorH9de385ce2dc3
import Derived.Test.YtoiblfmlahedlaaDoorH46bbd05baa38
import Derived.Test.YtoiblfmlahedlaaDoorH9c39fe4fc8f2
import Derived.Test.YtoiblfmlahedlaaDoorH0b3318bc74c2
import Derived.Test.YtoiblfmlahedlaaDoorH3d502e5f63d5
import Derived.Test.YtoiblfmlahedlaaDoorHa9f540acf226
import Derived.Test.YtoiblfmlahedlaaDoorHb082461a76ec
import Derived.Deep.QuietTactic
import Derived.BigQuiet
import Derived.Lib.ConvBytes
section
namespace Go.Proofs.YtoiblfmlahedlaaDoor.Fe
open Go.RowKit Go.Proofs.YtoiblfmlahedlaaDoorW.PrintWords Go.Proofs.YtoiblfmlahedlaaDoorW.PrintLast Go.Proofs.YtoiblfmlahedlaaDoorW.PrintMore
set_option linter.unusedVariables false
set_option linter.unusedSimpArgs false
set_option maxRecDepth 100000
open Go.Proofs.YtoiblfmlahedlaaDoor.As (St PW Pl Chg Fst leftF stuckB nextF hadR hadS badR badS stOf left_calls stuckB_calls state_calls had_at bad_at)
open Go.Proofs.YtoiblfmlahedlaaDoor.Sha (cb vd countN rootOf checkB B KD isRow)
open Go.Proofs.YtoiblfmlahedlaaDoor.Ref (check_any)
theorem own_ints {w : World} {base base' : Nat} {v : Value} {zs : List Int} (h : Kd.R B 5 w base (fun _ => True) v zs) (hb : Sha.bytes zs) (hv : v ≠ .slice none 0 0) (hl : base' ≤ base) : (∃ g, v.ownBlock = some g ∧ base ≤ g) ∧ w.ownsInts base' 5 .u8 v zs := by
  have ho := Kd.own_of_R h
  rcases ho with ⟨e0, h0 | ⟨g, cap, cur, rfl, hB, hr⟩⟩
  · exact absurd h0.1 hv
  · refine ⟨⟨g, rfl, hB⟩, ⟨e0, Or.inr ⟨g, cap, cur, rfl, by omega, hr⟩⟩, fun z hz => ?_⟩
    have := hb z hz
    simp [Lit.wf, IntKind.min, IntKind.max, IntKind.signed, IntKind.bits]
    omega
theorem FW.stored {w w2 : World} {a : Ad} {f : Cf} {c : Nat} {s : St} {K K' : Nat → List Int} (h : FW w a f c s K) (hk : ∀ k, k < w.heap.size → k ≠ a.gx → w2.heap[k]? = w.heap[k]?) (hm : Mk w2 a.gx (c + 1 + 64) K') (hK : ∀ i, (K' i).length ≤ 64 ∧ Sha.bytes (K' i)) : FW w2 a f (c + 1) s K' := by
  have kp : ∀ (k : Nat) (o : Obj), k ≠ a.gx → w.heap[k]? = some o → w2.heap[k]? = some o := fun k o hne ho => (hk k (Array.getElem?_eq_some_iff.1 ho).1 hne).trans ho
  obtain ⟨D1, ⟨es1, cl1, y1, _⟩, _⟩ := h.mp
  have h2 := pw_more h.pl (show c ≤ c + 1 by omega)
  have hpl := h2.pl
  obtain ⟨cs, q1, q2, q3⟩ := hpl.ch
  obtain ⟨ds, q1', q2', q3'⟩ := hpl.de
  obtain ⟨D, ⟨es, cl, y, F, hs, hD⟩, hT⟩ := h2.mp
  refine ⟨kp _ _ h.d1.2.2.2.2 h.blk, ⟨⟨kp _ _ h.d2.1.symm hpl.blk, ⟨cs, kp _ _ h.d2.2.1.symm q1, q2, q3⟩, ⟨ds, kp _ _ h.d2.2.2.1.symm q1', q2', q3'⟩, hpl.n1, hpl.m1, hpl.e1, hpl.e2, hpl.e3, hpl.e4, hpl.e5, hpl.e6⟩, ⟨D, ⟨es, cl, kp _ _ h.d2.2.2.2.symm y, F, hs, hD⟩, hT⟩, h2.good, h2.tb, h2.t1, h2.t2⟩, ?_, hm, h.d1, h.d2, h.d3, h.hR, h.bR, h.hL, h.hm, h.hb, h.he, h.hw, hK⟩
  rcases h.pe with h1 | ⟨g, cur, e, hg, hx⟩
  · exact Or.inl h1
  · exact Or.inr ⟨g, cur, e, kp _ _ (fun e1 => by subst e1; rw [y1] at hg; simp at hg) hg, hx⟩
def hearF (f : Cf) (s : St) (K : Nat → List Int) (x i : Int) (l : List Int) (p : List (List Int)) : Int × St × (Nat → List Int) :=
  if 0 ≤ i ∧ i < countN f.L ∧ 0 ≤ idxF f.ps x then
    if stOf s.1 (countN f.L) i = 2 then (7, s, K) else
      if checkB f.R f.L i l p = true then (hadR (countN f.L) s i, hadS (countN f.L) s i, updK K i.toNat l) else (5, badS (countN f.L) f.ps.length s i (idxF f.ps x), K)
  else (6, s, K)
theorem checkB_size {R : List Int} {L j : Nat} {l : List Int} {p : List (List Int)} (h : checkB R L (j : Int) l p = true) (hL : 1 ≤ L) (hj : j < countN L) : 1 ≤ l.length ∧ l.length ≤ 64 := by
  unfold checkB at h
  split at h
  · rename_i h1
    have h2 := h1.2.2.2
    rw [Int.toNat_natCast, Int.toNat_natCast] at h2
    unfold Sha.sizeN at h2
    unfold countN at hj
    omega
  · cases h
def hea_T8 : Bool × List (List Nat × List Nat) := (true, [([], []), ([0], [0]), ([1], [1]), ([2], [2]), ([], []), ([4], [4]), ([5], [5]), ([6], [6]), ([], []), ([], []), ([], []), ([3, 7, 8, 9, 10], [3, 7, 8, 9, 10]), ([11], [11]), ([12, 11], [12])])
def hea_B8 : List Nat := [0, 1, 3, 7, 0, 16, 48, 112, 0, 0, 0, 2047, 4095, 8191]
theorem hea_tab8 : rtab .any (opsOf Tryd.f15 8) = hea_T8 := by kernel_rfl
theorem hea_bits8 : waitsOk hea_T8.2 hea_B8 = true := by kernel_rfl
def hea_T11 : Bool × List (List Nat × List Nat) := (true, [([], []), ([0], [0]), ([1], [1]), ([2], [2]), ([], []), ([], []), ([5], [5]), ([3, 4, 6, 6, 0, 1, 2, 3, 4, 5, 6], [3, 4, 6])])
def hea_B11 : List Nat := [0, 1, 3, 7, 0, 0, 32, 127]
theorem hea_tab11 : rtab .any (opsOf Tryd.f15 11) = hea_T11 := by kernel_rfl
theorem hea_bits11 : waitsOk hea_T11.2 hea_B11 = true := by kernel_rfl
set_option maxHeartbeats 3200000 in
theorem hear_calls {w : World} {a : Ad} {f : Cf} {c lo hi cl cp : Nat} {s s' : St} {K K' : Nat → List Int} {x i r : Int} {A A' : Option Addr} {l : List Int} {p : List (List Int)} (h : FW w a f c s K) (hin : In a lo hi) (hc : c ≤ 3000000) (hT : Sha.Tab w) (hl : B.C w A l.length l) (hlb : Sha.bytes l) (hlc : l.length ≤ cl ∧ l.length ≤ 1000000)
    (hp : KD.C w A' p.length p) (hpr : isRow p) (hpc : p.length ≤ cp ∧ p.length < 1000000) (hr : hearF f s K x i l p = (r, s', K')) :
    Calls Tryd.prog 15 #[.pointer (some ⟨a.p, 0, none⟩), .int .i64 x, .int .i64 i, .slice A l.length cl, .slice A' p.length cp] w fun e w' => e = .returned (.int .i64 r) ∧ FW w' a f (c + 2) s' K' ∧ Mov lo hi w w' := by
  have H := Aside0.mk h
  have HIN := Aside0.mk hin
  have HT := Aside0.mk hT
  have HFR := Aside0.mk h.hR
  have HFL := Aside0.mk h.hL
  have hm := h.hm
  have HLC0 := Aside0.mk hl
  have HLB := Aside0.mk hlb
  have HLN := Aside0.mk hlc
  have HPC0 := Aside0.mk hp
  have HPR := Aside0.mk hpr
  have HPN := Aside0.mk hpc
  obtain ⟨n, hn⟩ : ∃ n, countN f.L = n := ⟨_, rfl⟩
  have hn100 : n ≤ 100 := hn ▸ count_100 h.hL.2
  have HNN := Aside0.mk hn
  obtain ⟨ix, hix⟩ : ∃ ix, idxF f.ps x = ix := ⟨_, rfl⟩
  obtain ⟨cbv, hcb⟩ : ∃ v, checkB f.R f.L i l p = v := ⟨_, rfl⟩
  obtain ⟨st, hst⟩ : ∃ v, stOf s.1 n i = v := ⟨_, rfl⟩
  unfold hearF at hr
  rw [hn, hix, hst, hcb] at hr
  have HIX := Aside0.mk hix
  clear h hin hT hl hlb hlc hp hpr hpc hn hix
  go_enter Tryd.func15, Tryd.ntmps15
  go_upto_region 1 with (fail)
  obtain ⟨w2, hw2⟩ : ∃ w2, w.alloc (.cells #[.int .i64 x] 3) = w2 := ⟨_, rfl⟩
  have hn0 : w2.heap[w.heap.size]? = some (.cells #[.int .i64 x] 3 (0, 0)) := by rw [← hw2]; exact Go.Proofs.YtoiblfmlahedlaaDoor.As.heap_new _ _
  have HB2 := Aside0.mk (show Below w.heap.size w w2 by rw [← hw2]; exact (Below.refl _ _).alloc (Nat.le_refl _) _)
  have HY0 : Aside0 (w2.cell? ⟨w.heap.size, 0, none⟩ = some (.int .i64 x)) := ⟨by simp [World.cell?, hn0]⟩
  rw [hw2]
  clear hw2 hn0
  generalize w.heap.size = gp at HY0 ⊢
  have HF := Aside0.mk (H.out.below HB2.out)
  go_wp2_with fail
  refine (ready_calls HF.out.blk HFR.out).mono ?_
  rintro e w3 ⟨rfl, hw⟩
  replace hw := hw.symm
  subst hw
  obtain ⟨c0, c1, c2, _⟩ := HF.out.blk.cu HFR.out
  go_wp2_with fail
  refine (idxP_calls _ HF.out.pe hm HY0.out).mono ?_
  rintro e w3 ⟨k0, rfl, hf, hw⟩
  replace hw := hw.symm
  subst hw
  have hke := (idxF_fst hf).trans HIX.out
  subst hke
  have HFS := Aside0.mk hf
  clear hf HY0
  by_cases hi0 : i < 0
  · rw [if_neg (by omega)] at hr
    have e1 : decide (i < 0) = true := decide_eq_true hi0
    injection hr with hr1 hr2
    injection hr2 with hr2 hr3
    subst hr1 hr2 hr3
    go_wp2
    go_ret
    exact ⟨rfl, HF.out.grow (by omega), Mov.of_below HB2.out⟩
  obtain ⟨j, rfl⟩ := Int.eq_ofNat_of_zero_le (show 0 ≤ i by omega)
  clear hi0
  have e1 : decide ((j : Int) < 0) = false := decide_eq_false (by omega)
  go_wp2_with fail
  refine (Sha.count_calls f.L _ (by have := HFL.out; omega)).mono ?_
  rintro e w3 ⟨rfl, hw⟩
  replace hw := hw.symm
  subst hw
  rw [HNN.out]
  by_cases hj : j < n
  rotate_left
  · rw [if_neg (by omega)] at hr
    have e2 : decide ((j : Int) ≥ (n : Int)) = true := decide_eq_true (by omega)
    have e3 : decide (j ≥ n) = true := decide_eq_true (by omega)
    injection hr with hr1 hr2
    injection hr2 with hr2 hr3
    subst hr1 hr2 hr3
    go_wp2
    go_ret
    exact ⟨rfl, HF.out.grow (by omega), Mov.of_below HB2.out⟩
  have HJ := Aside0.mk (show j ≤ 1000 by omega)
  have e2 : decide ((j : Int) ≥ (n : Int)) = false := decide_eq_false (by omega)
  have e3 : decide (j ≥ n) = false := decide_eq_false (by omega)
  rcases HFS.out with ⟨rfl, _⟩ | ⟨k, hk, rfl, _, _⟩
  · rw [if_neg (by omega)] at hr
    injection hr with hr1 hr2
    injection hr2 with hr2 hr3
    subst hr1 hr2 hr3
    go_wp2
    go_ret
    exact ⟨rfl, HF.out.grow (by omega), Mov.of_below HB2.out⟩
  rw [if_pos ⟨by omega, by omega, by omega⟩] at hr
  have e4 : decide ((k : Int) < 0) = false := decide_eq_false (by omega)
  have HJN := Aside0.mk hj
  clear hj hk HFS
  have HST := Aside0.mk hst
  clear hst
  go_wp2_with fail
  refine (state_calls (j : Int) _ HF.out.pl.pl).mono ?_
  rintro e w3 ⟨rfl, hw⟩
  replace hw := hw.symm
  subst hw
  rw [HNN.out, HST.out]
  by_cases h2 : st = 2
  · subst h2
    rw [if_pos rfl] at hr
    injection hr with hr1 hr2
    injection hr2 with hr2 hr3
    subst hr1 hr2 hr3
    go_wp2
    go_ret
    exact ⟨rfl, HF.out.grow (by omega), Mov.of_below HB2.out⟩
  rw [if_neg h2] at hr
  have e5 : (st == 2) = false := by rw [beq_eq_false_iff_ne]; exact h2
  clear h2
  have HLC := Aside0.mk (Kd.C_below HLC0.out HB2.out)
  have HPC := Aside0.mk (Kd.C_below HPC0.out HB2.out)
  have HTB := Aside0.mk (HT.out.below HB2.out)
  have HCB := Aside0.mk hcb
  have HRR := Aside0.mk hr
  clear hcb hr c0 c1 c2
  go_upto_region 8 with (fail)
  have hS0 : Below w2.heap.size w2 w2.drew := below_drew1 (Below.refl _ _)
  cases cbv
  · refine start_ (n := 14) (S := fun w' => Below w2.heap.size w2 w') (ds := []) #[false, false, false, false, false, false, false, false, false, false, false, false, false, false] (by kernel_rfl) rfl rfl (by exact hS0) (fun hHeld => ?_)
    refine with_tabW hea_tab8 hea_bits8 (fun HT_ HW_ => ?_)
    generalize w2.drew = wq at hHeld hS0 ⊢
    refine pure_ (i := 0) (N := some 46) (v := ?_) (a' := ?_) #[true, false, false, false, false, false, false, false, false, false, false, false, false, false] rfl rfl (any_of HT_.out (by kernel_rfl)) (fun _ _ _ h => h) (Or.inl ⟨by rfl, ?_⟩) ?_ ?_
    rotate_left
    · intro w'
      go_simp
      with_reducible rfl
    rotate_left
    · simp only [Act.put, List.setIfInBounds_toArray, List.set_cons_zero, List.set_cons_succ, i64_w, i32_w]
      rfl
    refine pure_ (i := 1) (N := some 47) (v := ?_) (a' := ?_) #[true, true, false, false, false, false, false, false, false, false, false, false, false, false] rfl rfl (any_of HT_.out (by kernel_rfl)) (fun _ _ _ h => h) (Or.inl ⟨by rfl, ?_⟩) ?_ ?_
    rotate_left
    · intro w'
      go_simp
      with_reducible rfl
    rotate_left
    · simp only [Act.put, List.setIfInBounds_toArray, List.set_cons_zero, List.set_cons_succ, i64_w, i32_w]
      rfl
    refine pure_ (i := 2) (N := some 48) (v := ?_) (a' := ?_) #[true, true, true, false, false, false, false, false, false, false, false, false, false, false] rfl rfl (any_of HT_.out (by kernel_rfl)) (fun _ _ _ h => h) (Or.inl ⟨by rfl, ?_⟩) ?_ ?_
    rotate_left
    · intro w'
      go_simp
      with_reducible rfl
    rotate_left
    · simp only [Act.put, List.setIfInBounds_toArray, List.set_cons_zero, List.set_cons_succ, i64_w, i32_w]
      rfl
    refine pure_ (i := 4) (N := some 50) (v := ?_) (a' := ?_) #[true, true, true, false, true, false, false, false, false, false, false, false, false, false] rfl rfl (any_of HT_.out (by kernel_rfl)) (fun _ _ _ h => h) (Or.inl ⟨by rfl, ?_⟩) ?_ ?_
    rotate_left
    · intro w'
      go_simp
      with_reducible rfl
    rotate_left
    · simp only [Act.put, List.setIfInBounds_toArray, List.set_cons_zero, List.set_cons_succ, i64_w, i32_w]
      rfl
    refine pure_ (i := 5) (N := some 51) (v := ?_) (a' := ?_) #[true, true, true, false, true, true, false, false, false, false, false, false, false, false] rfl rfl (any_of HT_.out (by kernel_rfl)) (fun _ _ _ h => h) (Or.inl ⟨by rfl, ?_⟩) ?_ ?_
    rotate_left
    · intro w'
      go_simp
      with_reducible rfl
    rotate_left
    · simp only [Act.put, List.setIfInBounds_toArray, List.set_cons_zero, List.set_cons_succ, i64_w, i32_w]
      rfl
    refine pure_ (i := 6) (N := some 52) (v := ?_) (a' := ?_) #[true, true, true, false, true, true, true, false, false, false, false, false, false, false] rfl rfl (any_of HT_.out (by kernel_rfl)) (fun _ _ _ h => h) (Or.inl ⟨by rfl, ?_⟩) ?_ ?_
    rotate_left
    · intro w'
      go_simp
      with_reducible rfl
    rotate_left
    · simp only [Act.put, List.setIfInBounds_toArray, List.set_cons_zero, List.set_cons_succ, i64_w, i32_w]
      rfl
    refine pure_ (i := 8) (N := some 54) (v := ?_) (a' := ?_) #[true, true, true, false, true, true, true, false, true, false, false, false, false, false] rfl rfl (any_of HT_.out (by kernel_rfl)) (fun _ _ _ h => h) (Or.inl ⟨by rfl, ?_⟩) ?_ ?_
    rotate_left
    · intro w'
      go_simp
      with_reducible rfl
    rotate_left
    · simp only [Act.put, List.setIfInBounds_toArray, List.set_cons_zero, List.set_cons_succ, i64_w, i32_w]
      rfl
    refine pure_ (i := 9) (N := some 55) (v := ?_) (a' := ?_) #[true, true, true, false, true, true, true, false, true, true, false, false, false, false] rfl rfl (any_of HT_.out (by kernel_rfl)) (fun _ _ _ h => h) (Or.inl ⟨by rfl, ?_⟩) ?_ ?_
    rotate_left
    · intro w'
      go_simp
      with_reducible rfl
    rotate_left
    · simp only [Act.put, List.setIfInBounds_toArray, List.set_cons_zero, List.set_cons_succ, i64_w, i32_w]
      rfl
    refine pure_ (i := 10) (N := some 56) (v := ?_) (a' := ?_) #[true, true, true, false, true, true, true, false, true, true, true, false, false, false] rfl rfl (any_of HT_.out (by kernel_rfl)) (fun _ _ _ h => h) (Or.inl ⟨by rfl, ?_⟩) ?_ ?_
    rotate_left
    · intro w'
      go_simp
      with_reducible rfl
    rotate_left
    · simp only [Act.put, List.setIfInBounds_toArray, List.set_cons_zero, List.set_cons_succ, i64_w, i32_w]
      rfl
    refine take_ (i := 3) (N := some 49) (v := ?_) (a' := ?_) #[true, true, true, true, true, true, true, false, true, true, true, false, false, false] rfl rfl (take_ofW HT_.out HW_.out (by kernel_rfl)) (fun _ _ _ h => h) (Or.inl ⟨by rfl, ?_⟩) hHeld ?_ ?_
    rotate_left
    · intro w' hSt
      refine (Sha.exec_load (p := .pointer (some ⟨a.p, 0, none⟩)) rfl rfl (root_load (HF.out.below hSt).blk HFR.out)).trans ?_
      rfl
    rotate_left
    · simp only [Act.put, List.setIfInBounds_toArray, List.set_cons_zero, List.set_cons_succ, i64_w, i32_w]
      rfl
    refine take_ (i := 7) (N := some 53) (v := ?_) (a' := ?_) #[true, true, true, true, true, true, true, true, true, true, true, false, false, false] rfl rfl (take_ofW HT_.out HW_.out (by kernel_rfl)) (fun _ _ _ h => h) (Or.inl ⟨by rfl, ?_⟩) hHeld ?_ ?_
    rotate_left
    · intro w' hSt
      obtain ⟨c0, _⟩ := (HF.out.below hSt).blk.cu HFR.out
      go_simp
      with_reducible rfl
    rotate_left
    · simp only [Act.put, List.setIfInBounds_toArray, List.set_cons_zero, List.set_cons_succ, i64_w, i32_w]
      rfl
    refine one_ (i := 11) (N := some 57) #[true, true, true, true, true, true, true, true, true, true, true, true, false, false] rfl rfl (one_of HT_.out (by kernel_rfl)) (by decide) (fun K hK => ?_)
    refine goes_ Tryd.func40 (by kernel_rfl) rfl #[vd f.R, .int .i64 (f.L : Int), .int .i64 (j : Int), .slice A l.length cl, .slice A' p.length cp] (by rfl) rfl rfl (by (try simp only [List.map_toArray, List.map_cons, List.map_nil]); first | done | rfl) ?_
    refine (check_any f.R f.L j A A' cl cp l p _ HFR.out (by have := HFL.out; omega) (Kd.C_below HLC.out hHeld) HLN.out.1 HLB.out (by have := HLN.out; omega) (Kd.C_below HPC.out hHeld) HPN.out.1 HPR.out (by have := HPN.out; omega) (HTB.out.below hHeld)).mono ?_
    rintro e wk ⟨rfl, hb⟩
    refine ⟨_, rfl, ?_⟩
    rw [HCB.out]
    have hS1 := below_step hHeld hb
    clear hb
    refine hK.out _ _ (by exact hS1) (fun hHeld => ?_)
    clear hK K
    refine norm_ (a' := ?_) ?_ ?_
    rotate_left
    · first
      | (show Act.put _ (some 57) _ = _; simp only [Act.put, List.setIfInBounds_toArray, List.set_cons_zero, List.set_cons_succ, i64_w, i32_w]; rfl)
      | rfl
    refine pure_ (i := 12) (N := some 58) (v := ?_) (a' := ?_) #[true, true, true, true, true, true, true, true, true, true, true, true, true, false] rfl rfl (any_of HT_.out (by kernel_rfl)) (fun _ _ _ h => h) (Or.inl ⟨by rfl, ?_⟩) ?_ ?_
    rotate_left
    · intro w'
      go_simp
      with_reducible rfl
    rotate_left
    · simp only [Act.put, List.setIfInBounds_toArray, List.set_cons_zero, List.set_cons_succ, i64_w, i32_w]
      rfl
    refine pure_ (i := 13) (N := some 45) (v := ?_) (a' := ?_) #[true, true, true, true, true, true, true, true, true, true, true, true, true, true] rfl rfl (any_of HT_.out (by kernel_rfl)) (fun _ _ _ h => h) (Or.inl ⟨by rfl, ?_⟩) ?_ ?_
    rotate_left
    · intro w'
      go_simp
      with_reducible rfl
    rotate_left
    · simp only [Act.put, List.setIfInBounds_toArray, List.set_cons_zero, List.set_cons_succ, i64_w, i32_w]
      rfl
    refine done_ (done_of HT_.out (by kernel_rfl)) ?_
    have hr := HRR.out
    rw [if_neg (by simp)] at hr
    injection hr with hr1 hr2
    injection hr2 with hr2 hr3
    subst hr1 hr3
    have HS := Aside0.mk hr2
    have HF3 := Aside0.mk (HF.out.below hHeld)
    have HM3 := Aside0.mk ((Mov.of_below (lo := lo) (hi := hi) HB2.out).trans (Mov.of_below hHeld))
    obtain ⟨_, _, c2, _⟩ := HF3.out.blk.cu HFR.out
    clear hr2 hS0 hHeld HT_ HW_ HRR
    go_wp2_with fail
    refine (bad_at (s' := s') (j : Int) (k : Int) _ HF3.out.pl (by omega) rfl (by rw [HNN.out]; exact HS.out)).mono ?_
    rintro e w5 ⟨rfl, hpw, hch⟩
    have HF5 := Aside0.mk (HF3.out.turn hpw hch)
    have HM5 := Aside0.mk (HM3.out.trans (Mov.of_chg hch HIN.out.c HIN.out.d HIN.out.m))
    clear hpw hch c2
    generalize badR (countN f.L) f.ps.length s (j : Int) (k : Int) = rb
    go_wp2
    go_ret
    exact ⟨rfl, HF5.out.grow (by omega), HM5.out⟩
  have HSZ := Aside0.mk (checkB_size HCB.out HFL.out.1 (by rw [HNN.out]; exact HJN.out))
  refine start_ (n := 14) (S := fun w' => Below w2.heap.size w2 w') (ds := []) #[false, false, false, false, false, false, false, false, false, false, false, false, false, false] (by kernel_rfl) rfl rfl (by exact hS0) (fun hHeld => ?_)
  refine with_tabW hea_tab8 hea_bits8 (fun HT_ HW_ => ?_)
  generalize w2.drew = wq at hHeld hS0 ⊢
  refine pure_ (i := 0) (N := some 46) (v := ?_) (a' := ?_) #[true, false, false, false, false, false, false, false, false, false, false, false, false, false] rfl rfl (any_of HT_.out (by kernel_rfl)) (fun _ _ _ h => h) (Or.inl ⟨by rfl, ?_⟩) ?_ ?_
  rotate_left
  · intro w'
    go_simp
    with_reducible rfl
  rotate_left
  · simp only [Act.put, List.setIfInBounds_toArray, List.set_cons_zero, List.set_cons_succ, i64_w, i32_w]
    rfl
  refine pure_ (i := 1) (N := some 47) (v := ?_) (a' := ?_) #[true, true, false, false, false, false, false, false, false, false, false, false, false, false] rfl rfl (any_of HT_.out (by kernel_rfl)) (fun _ _ _ h => h) (Or.inl ⟨by rfl, ?_⟩) ?_ ?_
  rotate_left
  · intro w'
    go_simp
    with_reducible rfl
  rotate_left
  · simp only [Act.put, List.setIfInBounds_toArray, List.set_cons_zero, List.set_cons_succ, i64_w, i32_w]
    rfl
  refine pure_ (i := 2) (N := some 48) (v := ?_) (a' := ?_) #[true, true, true, false, false, false, false, false, false, false, false, false, false, false] rfl rfl (any_of HT_.out (by kernel_rfl)) (fun _ _ _ h => h) (Or.inl ⟨by rfl, ?_⟩) ?_ ?_
  rotate_left
  · intro w'
    go_simp
    with_reducible rfl
  rotate_left
  · simp only [Act.put, List.setIfInBounds_toArray, List.set_cons_zero, List.set_cons_succ, i64_w, i32_w]
    rfl
  refine pure_ (i := 4) (N := some 50) (v := ?_) (a' := ?_) #[true, true, true, false, true, false, false, false, false, false, false, false, false, false] rfl rfl (any_of HT_.out (by kernel_rfl)) (fun _ _ _ h => h) (Or.inl ⟨by rfl, ?_⟩) ?_ ?_
  rotate_left
  · intro w'
    go_simp
    with_reducible rfl
  rotate_left
  · simp only [Act.put, List.setIfInBounds_toArray, List.set_cons_zero, List.set_cons_succ, i64_w, i32_w]
    rfl
  refine pure_ (i := 5) (N := some 51) (v := ?_) (a' := ?_) #[true, true, true, false, true, true, false, false, false, false, false, false, false, false] rfl rfl (any_of HT_.out (by kernel_rfl)) (fun _ _ _ h => h) (Or.inl ⟨by rfl, ?_⟩) ?_ ?_
  rotate_left
  · intro w'
    go_simp
    with_reducible rfl
  rotate_left
  · simp only [Act.put, List.setIfInBounds_toArray, List.set_cons_zero, List.set_cons_succ, i64_w, i32_w]
    rfl
  refine pure_ (i := 6) (N := some 52) (v := ?_) (a' := ?_) #[true, true, true, false, true, true, true, false, false, false, false, false, false, false] rfl rfl (any_of HT_.out (by kernel_rfl)) (fun _ _ _ h => h) (Or.inl ⟨by rfl, ?_⟩) ?_ ?_
  rotate_left
  · intro w'
    go_simp
    with_reducible rfl
  rotate_left
  · simp only [Act.put, List.setIfInBounds_toArray, List.set_cons_zero, List.set_cons_succ, i64_w, i32_w]
    rfl
  refine pure_ (i := 8) (N := some 54) (v := ?_) (a' := ?_) #[true, true, true, false, true, true, true, false, true, false, false, false, false, false] rfl rfl (any_of HT_.out (by kernel_rfl)) (fun _ _ _ h => h) (Or.inl ⟨by rfl, ?_⟩) ?_ ?_
  rotate_left
  · intro w'
    go_simp
    with_reducible rfl
  rotate_left
  · simp only [Act.put, List.setIfInBounds_toArray, List.set_cons_zero, List.set_cons_succ, i64_w, i32_w]
    rfl
  refine pure_ (i := 9) (N := some 55) (v := ?_) (a' := ?_) #[true, true, true, false, true, true, true, false, true, true, false, false, false, false] rfl rfl (any_of HT_.out (by kernel_rfl)) (fun _ _ _ h => h) (Or.inl ⟨by rfl, ?_⟩) ?_ ?_
  rotate_left
  · intro w'
    go_simp
    with_reducible rfl
  rotate_left
  · simp only [Act.put, List.setIfInBounds_toArray, List.set_cons_zero, List.set_cons_succ, i64_w, i32_w]
    rfl
  refine pure_ (i := 10) (N := some 56) (v := ?_) (a' := ?_) #[true, true, true, false, true, true, true, false, true, true, true, false, false, false] rfl rfl (any_of HT_.out (by kernel_rfl)) (fun _ _ _ h => h) (Or.inl ⟨by rfl, ?_⟩) ?_ ?_
  rotate_left
  · intro w'
    go_simp
    with_reducible rfl
  rotate_left
  · simp only [Act.put, List.setIfInBounds_toArray, List.set_cons_zero, List.set_cons_succ, i64_w, i32_w]
    rfl
  refine take_ (i := 3) (N := some 49) (v := ?_) (a' := ?_) #[true, true, true, true, true, true, true, false, true, true, true, false, false, false] rfl rfl (take_ofW HT_.out HW_.out (by kernel_rfl)) (fun _ _ _ h => h) (Or.inl ⟨by rfl, ?_⟩) hHeld ?_ ?_
  rotate_left
  · intro w' hSt
    refine (Sha.exec_load (p := .pointer (some ⟨a.p, 0, none⟩)) rfl rfl (root_load (HF.out.below hSt).blk HFR.out)).trans ?_
    rfl
  rotate_left
  · simp only [Act.put, List.setIfInBounds_toArray, List.set_cons_zero, List.set_cons_succ, i64_w, i32_w]
    rfl
  refine take_ (i := 7) (N := some 53) (v := ?_) (a' := ?_) #[true, true, true, true, true, true, true, true, true, true, true, false, false, false] rfl rfl (take_ofW HT_.out HW_.out (by kernel_rfl)) (fun _ _ _ h => h) (Or.inl ⟨by rfl, ?_⟩) hHeld ?_ ?_
  rotate_left
  · intro w' hSt
    obtain ⟨c0, _⟩ := (HF.out.below hSt).blk.cu HFR.out
    go_simp
    with_reducible rfl
  rotate_left
  · simp only [Act.put, List.setIfInBounds_toArray, List.set_cons_zero, List.set_cons_succ, i64_w, i32_w]
    rfl
  refine one_ (i := 11) (N := some 57) #[true, true, true, true, true, true, true, true, true, true, true, true, false, false] rfl rfl (one_of HT_.out (by kernel_rfl)) (by decide) (fun K hK => ?_)
  refine goes_ Tryd.func40 (by kernel_rfl) rfl #[vd f.R, .int .i64 (f.L : Int), .int .i64 (j : Int), .slice A l.length cl, .slice A' p.length cp] (by rfl) rfl rfl (by (try simp only [List.map_toArray, List.map_cons, List.map_nil]); first | done | rfl) ?_
  refine (check_any f.R f.L j A A' cl cp l p _ HFR.out (by have := HFL.out; omega) (Kd.C_below HLC.out hHeld) HLN.out.1 HLB.out (by have := HLN.out; omega) (Kd.C_below HPC.out hHeld) HPN.out.1 HPR.out (by have := HPN.out; omega) (HTB.out.below hHeld)).mono ?_
  rintro e wk ⟨rfl, hb⟩
  refine ⟨_, rfl, ?_⟩
  rw [HCB.out]
  have hS1 := below_step hHeld hb
  clear hb
  refine hK.out _ _ (by exact hS1) (fun hHeld => ?_)
  clear hK K
  refine norm_ (a' := ?_) ?_ ?_
  rotate_left
  · first
    | (show Act.put _ (some 57) _ = _; simp only [Act.put, List.setIfInBounds_toArray, List.set_cons_zero, List.set_cons_succ, i64_w, i32_w]; rfl)
    | rfl
  refine pure_ (i := 12) (N := some 58) (v := ?_) (a' := ?_) #[true, true, true, true, true, true, true, true, true, true, true, true, true, false] rfl rfl (any_of HT_.out (by kernel_rfl)) (fun _ _ _ h => h) (Or.inl ⟨by rfl, ?_⟩) ?_ ?_
  rotate_left
  · intro w'
    go_simp
    with_reducible rfl
  rotate_left
  · simp only [Act.put, List.setIfInBounds_toArray, List.set_cons_zero, List.set_cons_succ, i64_w, i32_w]
    rfl
  refine pure_ (i := 13) (N := some 45) (v := ?_) (a' := ?_) #[true, true, true, true, true, true, true, true, true, true, true, true, true, true] rfl rfl (any_of HT_.out (by kernel_rfl)) (fun _ _ _ h => h) (Or.inl ⟨by rfl, ?_⟩) ?_ ?_
  rotate_left
  · intro w'
    go_simp
    with_reducible rfl
  rotate_left
  · simp only [Act.put, List.setIfInBounds_toArray, List.set_cons_zero, List.set_cons_succ, i64_w, i32_w]
    rfl
  refine done_ (done_of HT_.out (by kernel_rfl)) ?_
  have hr := HRR.out
  rw [if_pos rfl] at hr
  injection hr with hr1 hr2
  injection hr2 with hr2 hr3
  have HR1 := Aside0.mk hr1
  have HR2 := Aside0.mk hr2
  have HR3 := Aside0.mk hr3
  have HLC2 := Aside0.mk (Kd.C_below HLC.out hHeld)
  have HF3 := Aside0.mk (HF.out.below hHeld)
  have HM3 := Aside0.mk ((Mov.of_below (lo := lo) (hi := hi) HB2.out).trans (Mov.of_below hHeld))
  clear hr1 hr2 hr3 hS0 hHeld HT_ HW_ HRR HLC HPC HLC0 HPC0 HTB HF HB2 HT H HCB
  have HLC := HLC2
  have HF := HF3
  clear HLC2 HF3
  generalize wk = w4 at HF HM3 HLC ⊢
  rcases A with _ | A0
  · exfalso
    have h9 := HSZ.out.1
    have h10 := HLC.out
    cases l with
    | nil => simp at h9
    | cons y ys => obtain ⟨ad, h11, _⟩ := h10.2.2 (by simp); cases h11
  obtain ⟨_, _, c2, c3, _⟩ := HF.out.blk.cu HFR.out
  clear c2 c3
  go_upto_region 11 with (fail)
  have hS0 : Below w4.heap.size w4 w4.drew := below_drew1 (Below.refl _ _)
  refine start_ (n := 8) (S := fun w' => Below w4.heap.size w4 w') (ds := [7]) #[false, false, false, false, false, false, false, false] (by kernel_rfl) rfl rfl (by exact hS0) (fun hHeld => ?_)
  refine with_tabW hea_tab11 hea_bits11 (fun HT_ HW_ => ?_)
  generalize w4.drew = wr at hHeld hS0 ⊢
  refine pure_ (i := 0) (N := some 66) (v := ?_) (a' := ?_) #[true, false, false, false, false, false, false, false] rfl rfl (any_of HT_.out (by kernel_rfl)) (fun _ _ _ h => h) (Or.inl ⟨by rfl, ?_⟩) ?_ ?_
  rotate_left
  · intro w'
    go_simp
    with_reducible rfl
  rotate_left
  · simp only [Act.put, List.setIfInBounds_toArray, List.set_cons_zero, List.set_cons_succ, i64_w, i32_w]
    rfl
  refine pure_ (i := 1) (N := some 67) (v := ?_) (a' := ?_) #[true, true, false, false, false, false, false, false] rfl rfl (any_of HT_.out (by kernel_rfl)) (fun _ _ _ h => h) (Or.inl ⟨by rfl, ?_⟩) ?_ ?_
  rotate_left
  · intro w'
    go_simp
    with_reducible rfl
  rotate_left
  · simp only [Act.put, List.setIfInBounds_toArray, List.set_cons_zero, List.set_cons_succ, i64_w, i32_w]
    rfl
  refine pure_ (i := 2) (N := some 68) (v := ?_) (a' := ?_) #[true, true, true, false, false, false, false, false] rfl rfl (any_of HT_.out (by kernel_rfl)) (fun _ _ _ h => h) (Or.inl ⟨by rfl, ?_⟩) ?_ ?_
  rotate_left
  · intro w'
    go_simp
    with_reducible rfl
  rotate_left
  · simp only [Act.put, List.setIfInBounds_toArray, List.set_cons_zero, List.set_cons_succ, i64_w, i32_w]
    rfl
  refine pure_ (i := 4) (N := some 70) (v := ?_) (a' := ?_) #[true, true, true, false, true, false, false, false] rfl rfl (any_of HT_.out (by kernel_rfl)) (fun _ _ _ h => h) (Or.inl ⟨by rfl, ?_⟩) ?_ ?_
  rotate_left
  · intro w'
    go_simp
    with_reducible rfl
  rotate_left
  · simp only [Act.put, List.setIfInBounds_toArray, List.set_cons_zero, List.set_cons_succ, i64_w, i32_w]
    rfl
  refine pure_ (i := 5) (N := some 71) (v := ?_) (a' := ?_) #[true, true, true, false, true, true, false, false] rfl rfl (any_of HT_.out (by kernel_rfl)) (fun _ _ _ h => h) (Or.inl ⟨by rfl, ?_⟩) ?_ ?_
  rotate_left
  · intro w'
    go_simp
    with_reducible rfl
  rotate_left
  · simp only [Act.put, List.setIfInBounds_toArray, List.set_cons_zero, List.set_cons_succ, i64_w, i32_w]
    rfl
  refine take_ (i := 3) (N := some 69) (v := ?_) (a' := ?_) #[true, true, true, true, true, true, false, false] rfl rfl (take_ofW HT_.out HW_.out (by kernel_rfl)) (fun _ _ _ h => h) (Or.inl ⟨by rfl, ?_⟩) hHeld ?_ ?_
  rotate_left
  · intro w' hSt
    obtain ⟨_, _, _, c3, _⟩ := (HF.out.below hSt).blk.cu HFR.out
    go_simp
    with_reducible rfl
  rotate_left
  · simp only [Act.put, List.setIfInBounds_toArray, List.set_cons_zero, List.set_cons_succ, i64_w, i32_w]
    rfl
  refine one_ (i := 6) (N := some 72) #[true, true, true, true, true, true, true, false] rfl rfl (one_of HT_.out (by kernel_rfl)) (by decide) (fun K hK => ?_)
  refine goes_ Tryd.func42 (by kernel_rfl) rfl #[.slice (some A0) l.length cl] (by rfl) rfl rfl (by (try simp only [List.map_toArray, List.map_cons, List.map_nil]); first | done | rfl) ?_
  refine (bclone_some A0 cl l _ (Kd.C_below HLC.out hHeld) (by have := HSZ.out; omega)).mono ?_
  rintro e wk ⟨v, rfl, ho, hv, hb⟩
  refine ⟨_, rfl, ?_⟩
  have HSS := Aside0.mk hHeld.size
  have HO := Aside0.mk ho
  have HV := Aside0.mk hv
  have hS1 := below_step hHeld hb
  clear hb ho hv
  refine hK.out _ _ (by exact hS1) (fun hHeld => ?_)
  clear hK K
  refine norm_ (a' := ?_) ?_ ?_
  rotate_left
  · first
    | (show Act.put _ (some 72) _ = _; simp only [Act.put, List.setIfInBounds_toArray, List.set_cons_zero, List.set_cons_succ, i64_w, i32_w]; rfl)
    | rfl
  refine last_ (i := 7) (N := none) #[true, true, true, true, true, true, true, true] rfl rfl (one_of HT_.out (by kernel_rfl)) (by decide) (fun K hK => ?_)
  have hgx := HF.out.mp.lt
  have hHS := HSS.out
  obtain ⟨⟨gv, hgv, hgb⟩, hoi⟩ := own_ints (base' := a.gx + 1) HO.out HLB.out HV.out (by omega)
  obtain ⟨w7, hrun, hmk, hgr⟩ := HF.out.mp.put (by omega) (i := j) (by have := HJ.out; omega) hHeld hoi HSZ.out.2 ⟨gv, hgv, by omega⟩
  refine skip_ (w1 := w7) (by rfl) rfl ?_ ?_
  · go_simp
  have HMK := Aside0.mk hmk
  have HGR := Aside0.mk hgr
  have HHE := Aside0.mk hHeld
  clear hrun hmk hgr hoi hgv hgb hgx hHS
  refine hK.out _ _ ?_
  clear hK K
  refine norm_ (a' := ?_) ?_ ?_
  rotate_left
  · first
    | (show Act.put _ none _ = _; simp only [Act.put, List.setIfInBounds_toArray, List.set_cons_zero, List.set_cons_succ, i64_w, i32_w]; rfl)
    | rfl
  refine done_ (done_of HT_.out (by kernel_rfl)) ?_
  have HF7 := Aside0.mk (HF.out.stored (fun k hk hne => ((HGR.out.block k (Nat.lt_of_lt_of_le hk HHE.out.size) (fun e => hne (by injection e))).trans (HHE.out.block k hk))) (HMK.out.more (by omega)) (fun q => by unfold updK; split; exact ⟨HSZ.out.2, HLB.out⟩; exact HF.out.hK q))
  have HM7 := Aside0.mk (HM3.out.trans (show Mov lo hi w4 w7 from ⟨HGR.out.os.trans HHE.out.os, HGR.out.tape.trans HHE.out.tape, HGR.out.output.trans HHE.out.output, Nat.le_trans HHE.out.size HGR.out.size, fun k hk h1 => ((HGR.out.block k (Nat.lt_of_lt_of_le hk HHE.out.size) (fun e => by injection e with e; have := HIN.out.x; omega)).trans (HHE.out.block k hk))⟩))
  obtain ⟨_, _, c2, _⟩ := HF7.out.blk.cu HFR.out
  rw [Int.toNat_natCast] at HR3
  clear hS0 HT_ HW_ HM3 HGR HHE HMK HO HV HSS HF
  go_wp2_with fail
  refine (had_at (r := r) (s' := s') (j : Int) _ HF7.out.pl (by rw [HNN.out]; exact HR1.out) (by rw [HNN.out]; exact HR2.out)).mono ?_
  rintro e w9 ⟨rfl, hpw, hch⟩
  have HF9 := Aside0.mk (HF7.out.turn hpw hch)
  have HM9 := Aside0.mk (HM7.out.trans (Mov.of_chg hch HIN.out.c HIN.out.d HIN.out.m))
  clear hpw hch c2
  go_wp2
  go_ret
  exact ⟨rfl, by rw [← HR3.out]; exact HF9.out, HM9.out⟩
end Go.Proofs.YtoiblfmlahedlaaDoor.Fe
end
section
namespace Go.Proofs.YtoiblfmlahedlaaDoor.Fe
open Go.RowKit Go.Proofs.YtoiblfmlahedlaaDoorW.PrintWords Go.Proofs.YtoiblfmlahedlaaDoorW.PrintLast Go.Proofs.YtoiblfmlahedlaaDoorW.PrintMore
set_option linter.unusedVariables false
set_option linter.unusedSimpArgs false
set_option maxRecDepth 100000
open Go.Proofs.YtoiblfmlahedlaaDoor.As (St PW Pl Chg leftF ks0 mayB inB new_at new_no)
open Go.Proofs.YtoiblfmlahedlaaDoor.Sha (cb vd countN rootOf checkB B KD isRow)
theorem cloneP {A : Option Addr} {c : Nat} {xs : List Int} (w : World) (hr : I.C w A xs.length xs) (hl : xs.length ≤ 1000000) :
    Calls Tryd.prog 30 #[.slice A xs.length c] w fun e w' => ∃ v, e = .returned v ∧ Kd.R I 3 w' w.heap.size (fun _ => True) v xs ∧ Below w.heap.size w w' := by
  rcases A with _ | a
  · cases xs with
    | nil =>
      refine (clone_nil c w).mono ?_
      rintro e w' ⟨rfl, rfl⟩
      exact ⟨_, rfl, Kd.R_nil _ _ _ _ _, Below.refl _ _⟩
    | cons y ys => obtain ⟨ad, h11, _⟩ := hr.2.2 (by simp); cases h11
  · refine (clone_some a c xs w hr hl).mono ?_
    rintro e w' ⟨v, rfl, h1, _, h2⟩
    exact ⟨v, rfl, h1, h2⟩
theorem peR {w : World} {base : Nat} {v : Value} {xs : List Int} (h : Kd.R I 3 w base (fun _ => True) v xs) : ∃ A c, v = .slice A xs.length c ∧ Pe w A xs ∧ ∀ g, A = some ⟨g, 0, none⟩ → base ≤ g := by
  have ho := Kd.own_of_R h
  rcases ho with ⟨e0, ⟨h0, h1⟩ | ⟨g, cap, cur, rfl, hB, hg, hnc, hcm, hcs, ht⟩⟩
  · have : xs = [] := List.eq_nil_of_length_eq_zero h1
    subst this
    exact ⟨none, 0, h0, Or.inl ⟨rfl, rfl⟩, fun g e => by cases e⟩
  · refine ⟨_, _, rfl, Or.inr ⟨g, cur, rfl, hg, fun j x hx => ?_⟩, fun g' e => by injection e with e; injection e with e; omega⟩
    have hj := (List.getElem?_eq_some_iff.1 hx).1
    have e : (cur.toList.take (xs.length * 1))[j]? = cur.toList[j]? := List.getElem?_take_of_lt (by omega)
    rw [ht] at e
    have e2 : (encs (Value.int .i64) xs)[j]? = some (.int .i64 x) := by
      unfold encs
      rw [List.getElem?_map, hx]
      rfl
    rw [← Array.getElem?_toList, ← e]
    exact e2
def Cl (w : World) (base : Nat) (v : Value) (n : Nat) (xs : List Int) : Prop := (v = .slice none 0 0 ∧ n = 0 ∧ xs = []) ∨ ∃ g cap, v = .slice (some ⟨g, 0, none⟩) n cap ∧ xs.length = n ∧ Nm w base g cap xs
theorem sortP {base : Nat} {v : Value} {xs : List Int} (w : World) (h : Kd.R I 3 w base (fun _ => True) v xs) (hl : xs.length ≤ 1000000) :
    Calls Tryd.prog 31 #[v] w fun e w' => e = .returned (.tuple #[]) ∧ Cl w' base v xs.length (srt xs) ∧ Below base w w' := by
  by_cases hv : v = .slice none 0 0
  · subst hv
    have hx : xs = [] := by
      rcases Kd.own_of_R h with ⟨e0, ⟨h0, h1⟩ | ⟨g, cap, cur, h0, _⟩⟩
      · exact List.eq_nil_of_length_eq_zero h1
      · cases h0
    subst hx
    refine (Tryd.slices_Sort_int_none none 0 w).mono ?_
    rintro e w' ⟨rfl, rfl⟩
    exact ⟨rfl, Or.inl ⟨rfl, rfl, by simp [srt]⟩, Below.refl _ _⟩
  · obtain ⟨g, cap, rfl, hn⟩ := nm_of_R h hv
    refine (sort_calls w hn hl).mono ?_
    rintro e w' ⟨rfl, h1, h2⟩
    exact ⟨rfl, Or.inr ⟨g, cap, rfl, List.length_mergeSort _, h1⟩, h2⟩
theorem compactP {base n : Nat} {v : Value} {xs : List Int} (w : World) (h : Cl w base v n xs) (hl : n ≤ 1000000) :
    Calls Tryd.prog 32 #[v] w fun e w' => ∃ A c, e = .returned (.slice A (Go.Lib.compact xs).length c) ∧ Below base w w' := by
  rcases h with ⟨rfl, rfl, rfl⟩ | ⟨g, cap, rfl, hn, h⟩
  · refine (Tryd.slices_Compact_int_empty none 0 w).mono ?_
    rintro e w' ⟨rfl, rfl⟩
    exact ⟨none, 0, by rfl, Below.refl _ _⟩
  · subst hn
    refine (compact_calls w h hl).mono ?_
    rintro e w' ⟨rfl, h1⟩
    exact ⟨_, _, rfl, h1⟩
def fmayB (L : Int) (ps : List Int) (win tm bu : Int) : Bool :=
  if 1 ≤ L ∧ L ≤ 5000 ∧ ps.Nodup ∧ 1 ≤ bu ∧ bu ≤ 1000000 then mayB (countN L.toNat) ps.length win tm else false
def NewY (w w' : World) (R : List Int) (L : Nat) (ps : List Int) (win tm : Int) (bu : Nat) (be : Int) (v : Value) : Prop :=
  ∃ a : Ad, v = .pointer (some ⟨a.p, 0, none⟩) ∧ FW w' a ⟨R, L, ps, win, tm, bu, be⟩ 0 ks0 (fun _ => []) ∧ In a w.heap.size w'.heap.size ∧ Below w.heap.size w w'
end Go.Proofs.YtoiblfmlahedlaaDoor.Fe
end
section
namespace Go.Proofs.YtoiblfmlahedlaaDoor.Fe
open Go.RowKit Go.Proofs.YtoiblfmlahedlaaDoorW.PrintWords Go.Proofs.YtoiblfmlahedlaaDoorW.PrintLast Go.Proofs.YtoiblfmlahedlaaDoorW.PrintMore
set_option linter.unusedVariables false
set_option linter.unusedSimpArgs false
set_option maxRecDepth 100000
open Go.Proofs.YtoiblfmlahedlaaDoor.As (St PW Pl Chg leftF ks0 mayB inB new_at new_no)
open Go.Proofs.YtoiblfmlahedlaaDoor.Sha (cb vd countN rootOf checkB B KD isRow)
def NF (base : Nat) (w : World) (v : Value) (ps : List Int) : Prop := ∃ A c, v = .slice A ps.length c ∧ Pe w A ps ∧ ∀ g, A = some ⟨g, 0, none⟩ → base ≤ g
theorem NF.below {base : Nat} {w w' : World} {v : Value} {ps : List Int} (h : NF base w v ps) (hb : Below w.heap.size w w') : NF base w' v ps := by
  obtain ⟨A, c, e, h1, h2⟩ := h
  exact ⟨A, c, e, h1.below hb, h2⟩
theorem NF.of {b base : Nat} {w : World} {v : Value} {ps : List Int} (h : Kd.R I 3 w base (fun _ => True) v ps) (hb : b ≤ base) : NF b w v ps := by
  obtain ⟨A, c, e, h1, h2⟩ := peR h
  exact ⟨A, c, e, h1, fun g hg => Nat.le_trans hb (h2 g hg)⟩
theorem box_load {w : World} {g : Nat} {R : List Int} (h : w.heap[g]? = some (.cells (cb R) 31 (0, 0))) (hR : R.length = 32) : (Instr.loadAt 31 (.pointer (some ⟨g, 0, none⟩))).run Tryd.prog w = .ok (.agg (cb R)) w :=
  Sha.run_loadAt_cells w _ 31 (cb R) _ (by
    have := run_loadCells_list (P := Tryd.prog) (w := w) ⟨g, 0, none⟩ (R.map (Value.int .u8)) (fun j v hv => by
      rw [show (Addr.mk g 0 none).add j = ⟨g, 0 + j, none⟩ by simp [Addr.add_lit], Nat.zero_add]
      have h2 : (cb R)[j]? = some v := by
        unfold cb
        rw [List.getElem?_toArray]
        exact hv
      simp [World.cell?, h, h2])
    simpa [loadCells, cb] using this) Tryd.underlying31 rfl (Sha.infoDg _ hR)
theorem exec_build_ {P : Program} {o : Oper} {a : Act} {w : World} {t : TypeId} {parts : Array (Nat × Operand)} {cells : Array Value} (ho : o.op = .build t parts) (h : P.built t (parts.map fun (i, x) => (i, a.eval x)).toList = some cells) : (execOp a.eval o).run P w = .ok (.value (.agg cells)) w := by
  have h1 := run_build (P := P) w t (parts.map fun (i, x) => (i, a.eval x)) cells h
  unfold execOp
  simp only [ho, Sem.run_bind, h1, Result.andThen_ok]
  rfl
theorem built_fetch {R : List Int} (hR : R.length = 32) (a : Ad) (f : Cf) (hf : f.R = R) :
    Tryd.prog.built 62 [(0, vd R), (1, .int .i64 (f.L : Int)), (2, .slice a.A f.ps.length a.cp), (3, .pointer (some ⟨a.q, 0, none⟩)), (4, .map (some a.gx)), (5, .int .i64 (f.bu : Int)), (6, .int .i64 f.be)] = some (fCs a f) := by
  subst hf
  obtain ⟨R, L, ps, win, tm, bu, be⟩ := f
  match R, hR with
  | [r0, r1, r2, r3, r4, r5, r6, r7, r8, r9, r10, r11, r12, r13, r14, r15, r16, r17, r18, r19, r20, r21, r22, r23, r24, r25, r26, r27, r28, r29, r30, r31], _ =>
    show _ = _
    kernel_rfl
theorem mk_new {w : World} {gx : Nat} (h : w.heap[gx]? = some (.map #[] 0)) : Mk w gx 64 (fun _ => []) :=
  ⟨.map [], ⟨#[], 0, h, ⟨by simp, ⟨by simp, by simp⟩, by simp⟩, by simp, rfl, by omega, by simp, by simp⟩, ⟨[], rfl⟩, fun i hi => rfl, by omega⟩
def fnw_T8 : Bool × List (List Nat × List Nat) := (true, [([], []), ([], []), ([], []), ([2], [2]), ([], []), ([], []), ([], []), ([], []), ([0, 1, 3, 4, 5, 6, 7], [0, 1, 3, 4, 5, 6, 7]), ([8], [8]), ([9, 3, 0, 1, 2, 3, 4, 5, 6, 7, 8, 9], [9]), ([10, 0, 1, 2, 3, 4, 5, 6, 7, 8, 9, 10], [])])
def fnw_B8 : List Nat := [0, 0, 0, 4, 0, 0, 0, 0, 255, 511, 1023, 2047]
theorem fnw_tab8 : rtab .any (opsOf Tryd.f12 8) = fnw_T8 := by kernel_rfl
theorem fnw_bits8 : waitsOk fnw_T8.2 fnw_B8 = true := by kernel_rfl
set_option maxHeartbeats 3200000 in
theorem fnew_no {w : World} {R ps : List Int} {A : Option Addr} {cp : Nat} {L win tm bu be : Int} (hR : R.length = 32) (hRb : Sha.bytes R) (hp : I.C w A ps.length ps) (hpc : ps.length ≤ 1000000) (hpw : ∀ x ∈ ps, -9223372036854775808 ≤ x ∧ x ≤ 9223372036854775807)
    (hbe : -9223372036854775808 ≤ be ∧ be ≤ 9223372036854775807) (hok : fmayB L ps win tm bu = false) :
    Calls Tryd.prog 12 #[vd R, .int .i64 L, .slice A ps.length cp, .int .i64 win, .int .i64 tm, .int .i64 bu, .int .i64 be] w fun e w' => e = .returned (.tuple #[.pointer none, .int .i64 2]) ∧ Below w.heap.size w w' := by
  have HR := Aside0.mk hR
  have HRb := Aside0.mk hRb
  have HP := Aside0.mk hp
  have HPW := Aside0.mk hpw
  have HBE := Aside0.mk hbe
  have HCM := Aside0.mk (twins ps)
  have HOK := Aside0.mk hok
  clear hR hRb hp hpw hbe hok
  go_enter Tryd.func12, Tryd.ntmps12
  go_upto_region 1 with (fail)
  obtain ⟨w2, hw2⟩ : ∃ w2, w.alloc (.cells (cb R) 31) = w2 := ⟨_, rfl⟩
  have hn0 : w2.heap[w.heap.size]? = some (.cells (cb R) 31 (0, 0)) := by rw [← hw2]; exact Go.Proofs.YtoiblfmlahedlaaDoor.As.heap_new _ _
  have HB2 := Aside0.mk (show Below w.heap.size w w2 by rw [← hw2]; exact (Below.refl _ _).alloc (Nat.le_refl _) _)
  have HN0 := Aside0.mk hn0
  have HSZ2 := Aside0.mk (show w2.heap.size = w.heap.size + 1 by rw [← hw2]; simp)
  first | rw [hw2] | (simp only [vd, cb] at hw2 ⊢; rw [hw2])
  clear hw2 hn0
  generalize hgp : w.heap.size = gp at HN0 ⊢
  replace hgp := Aside0.mk hgp
  go_wp2_with fail
  refine (cloneP _ (Kd.C_below HP.out HB2.out) hpc).mono ?_
  rintro e w3 ⟨v3, rfl, hR3, hb⟩
  have HR3 := Aside0.mk hR3
  have HB3 := Aside0.mk hb
  clear hR3 hb
  go_wp2_with fail
  refine (sortP _ HR3.out hpc).mono ?_
  rintro e w4 ⟨rfl, hcl, hb⟩
  have HCL := Aside0.mk hcl
  have HB4 := Aside0.mk (HB3.out.trans hb)
  have HB5 := Aside0.mk (below_step HB2.out HB4.out)
  clear hcl hb
  by_cases h1 : L < 1
  · have e1 : decide (L < 1) = true := decide_eq_true h1
    clear h1
    go_wp2
    go_ret2
    exact ⟨rfl, HB5.out⟩
  have e1 : decide (L < 1) = false := decide_eq_false h1
  by_cases h2 : L > 5000
  · have e2 : decide (L > 5000) = true := decide_eq_true h2
    clear h1 h2
    go_wp2
    go_ret2
    exact ⟨rfl, HB5.out⟩
  have e2 : decide (L > 5000) = false := decide_eq_false h2
  go_wp2_with fail
  refine (compactP _ HCL.out hpc).mono ?_
  rintro e w6 ⟨A6, c6, rfl, hb⟩
  have HB6 := Aside0.mk (below_step HB2.out (HB4.out.trans hb))
  clear hb
  obtain ⟨n6, hn6⟩ : ∃ n, (Go.Lib.compact (srt ps)).length = n := ⟨_, rfl⟩
  rw [hn6] at HCM ⊢
  clear hn6
  by_cases h3 : n6 = ps.length
  rotate_left
  · have e3 : ((n6 : Int) == (ps.length : Int)) = false := by rw [beq_eq_false_iff_ne]; omega
    have e4 : (n6 == ps.length) = false := by rw [beq_eq_false_iff_ne]; exact h3
    have e5 : ((n6 : Int) != (ps.length : Int)) = true := by simp only [bne, e3]; rfl
    have e6 : (n6 != ps.length) = true := by simp only [bne, e4]; rfl
    clear h1 h2 h3
    go_wp2
    go_ret2
    exact ⟨rfl, HB6.out⟩
  have e3 : ((n6 : Int) == (ps.length : Int)) = true := by rw [beq_iff_eq]; omega
  have e4 : (n6 == ps.length) = true := by rw [beq_iff_eq]; exact h3
  have e5 : ((n6 : Int) != (ps.length : Int)) = false := by simp only [bne, e3]; rfl
  have e6 : (n6 != ps.length) = false := by simp only [bne, e4]; rfl
  replace h3 := Aside0.mk h3
  by_cases h4 : bu < 1
  · have e7 : decide (bu < 1) = true := decide_eq_true h4
    clear h1 h2 h3 h4
    go_wp2
    go_ret2
    exact ⟨rfl, HB6.out⟩
  have e7 : decide (bu < 1) = false := decide_eq_false h4
  by_cases h5 : bu > 1000000
  · have e8 : decide (bu > 1000000) = true := decide_eq_true h5
    clear h1 h2 h3 h4 h5
    go_wp2
    go_ret2
    exact ⟨rfl, HB6.out⟩
  have e8 : decide (bu > 1000000) = false := decide_eq_false h5
  have hmay := HOK.out
  unfold fmayB at hmay
  rw [if_pos ⟨by omega, by omega, HCM.out.1 h3.out, by omega, by omega⟩] at hmay
  obtain ⟨L, rfl⟩ := Int.eq_ofNat_of_zero_le (show 0 ≤ L by omega)
  rw [Int.toNat_natCast] at hmay
  have HMAY := Aside0.mk hmay
  have hL : L ≤ 5000 := by omega
  clear h1 h2 h3 h4 h5 hmay
  go_wp2_with fail
  refine (Sha.count_calls L _ (by omega)).mono ?_
  rintro e w7 ⟨rfl, hw⟩
  replace hw := hw.symm
  subst hw
  go_wp2_with fail
  refine (new_no _ _ _ _ _ HMAY.out).mono ?_
  rintro e w7 ⟨rfl, hw⟩
  replace hw := hw.symm
  subst hw
  go_wp2
  go_ret2
  exact ⟨rfl, HB6.out⟩
set_option maxHeartbeats 3200000 in
theorem fnew_yes {w : World} {R ps : List Int} {A : Option Addr} {cp : Nat} {L win tm bu be : Int} (hR : R.length = 32) (hRb : Sha.bytes R) (hp : I.C w A ps.length ps) (hpc : ps.length ≤ 1000000) (hpw : ∀ x ∈ ps, -9223372036854775808 ≤ x ∧ x ≤ 9223372036854775807)
    (hbe : -9223372036854775808 ≤ be ∧ be ≤ 9223372036854775807) (hok : fmayB L ps win tm bu = true) :
    Calls Tryd.prog 12 #[vd R, .int .i64 L, .slice A ps.length cp, .int .i64 win, .int .i64 tm, .int .i64 bu, .int .i64 be] w fun e w' => ∃ v, e = .returned (.tuple #[v, .int .i64 0]) ∧ NewY w w' R L.toNat ps win tm bu.toNat be v := by
  have HR := Aside0.mk hR
  have HRb := Aside0.mk hRb
  have HP := Aside0.mk hp
  have HPW := Aside0.mk hpw
  have HBE := Aside0.mk hbe
  have HCM := Aside0.mk (twins ps)
  have HOK := Aside0.mk hok
  clear hR hRb hp hpw hbe hok
  go_enter Tryd.func12, Tryd.ntmps12
  go_upto_region 1 with (fail)
  obtain ⟨w2, hw2⟩ : ∃ w2, w.alloc (.cells (cb R) 31) = w2 := ⟨_, rfl⟩
  have hn0 : w2.heap[w.heap.size]? = some (.cells (cb R) 31 (0, 0)) := by rw [← hw2]; exact Go.Proofs.YtoiblfmlahedlaaDoor.As.heap_new _ _
  have HB2 := Aside0.mk (show Below w.heap.size w w2 by rw [← hw2]; exact (Below.refl _ _).alloc (Nat.le_refl _) _)
  have HN0 := Aside0.mk hn0
  have HSZ2 := Aside0.mk (show w2.heap.size = w.heap.size + 1 by rw [← hw2]; simp)
  first | rw [hw2] | (simp only [vd, cb] at hw2 ⊢; rw [hw2])
  clear hw2 hn0
  generalize hgp : w.heap.size = gp at HN0 ⊢
  replace hgp := Aside0.mk hgp
  go_wp2_with fail
  refine (cloneP _ (Kd.C_below HP.out HB2.out) hpc).mono ?_
  rintro e w3 ⟨v3, rfl, hR3, hb⟩
  have HR3 := Aside0.mk hR3
  have HB3 := Aside0.mk hb
  clear hR3 hb
  go_wp2_with fail
  refine (sortP _ HR3.out hpc).mono ?_
  rintro e w4 ⟨rfl, hcl, hb⟩
  have HCL := Aside0.mk hcl
  have HB4 := Aside0.mk (HB3.out.trans hb)
  have HB5 := Aside0.mk (below_step HB2.out HB4.out)
  clear hcl hb
  have hmay := HOK.out
  unfold fmayB at hmay
  by_cases hcs : 1 ≤ L ∧ L ≤ 5000 ∧ ps.Nodup ∧ 1 ≤ bu ∧ bu ≤ 1000000
  rotate_left
  · rw [if_neg hcs] at hmay
    cases hmay
  rw [if_pos hcs] at hmay
  obtain ⟨h1, h2, h3, h4, h5⟩ := hcs
  obtain ⟨L, rfl⟩ := Int.eq_ofNat_of_zero_le (show 0 ≤ L by omega)
  obtain ⟨bu, rfl⟩ := Int.eq_ofNat_of_zero_le (show 0 ≤ bu by omega)
  rw [Int.toNat_natCast] at hmay
  have HMAY := Aside0.mk hmay
  have hL : 1 ≤ L ∧ L ≤ 5000 := by omega
  have HBU := Aside0.mk (show 1 ≤ bu ∧ bu ≤ 1000000 by omega)
  have h3' := HCM.out.2 h3
  have e1 : decide ((L : Int) < 1) = false := decide_eq_false (by omega)
  have e1' : decide (L < 1) = false := decide_eq_false (by omega)
  have e2 : decide ((L : Int) > 5000) = false := decide_eq_false (by omega)
  have e2' : decide (L > 5000) = false := decide_eq_false (by omega)
  have e7 : decide ((bu : Int) < 1) = false := decide_eq_false (by omega)
  have e7' : decide (bu < 1) = false := decide_eq_false (by omega)
  have e8 : decide ((bu : Int) > 1000000) = false := decide_eq_false (by omega)
  have e8' : decide (bu > 1000000) = false := decide_eq_false (by omega)
  clear h1 h2 h3 h4 h5 hmay
  replace hL := Aside0.mk hL
  go_wp2_with fail
  refine (compactP _ HCL.out hpc).mono ?_
  rintro e w6 ⟨A6, c6, rfl, hb⟩
  have HB6 := Aside0.mk (below_step HB2.out (HB4.out.trans hb))
  have HB26 := Aside0.mk (HB4.out.trans hb)
  clear hb
  rw [h3']
  clear h3'
  go_wp2_with fail
  refine (Sha.count_calls L _ (by have := hL.out; omega)).mono ?_
  rintro e w7 ⟨rfl, hw⟩
  replace hw := hw.symm
  subst hw
  go_wp2_with fail
  refine (new_at _ _ _ _ _ HMAY.out).mono ?_
  rintro e w7 ⟨q, gc, gd, gm, cc, cd, rfl, hpw7, hb, l1, l2, l3, l4⟩
  have HPW7 := Aside0.mk hpw7
  have HB7 := Aside0.mk hb
  have HLL := Aside0.mk (show w6.heap.size ≤ q ∧ w6.heap.size ≤ gc ∧ w6.heap.size ≤ gd ∧ w6.heap.size ≤ gm from ⟨l1, l2, l3, l4⟩)
  clear hpw7 hb l1 l2 l3 l4
  have HN7 := Aside0.mk (Go.Proofs.YtoiblfmlahedlaaDoor.As.heap_keep HN0.out (below_step HB26.out HB7.out))
  have HP7 := Aside0.mk (Kd.C_below HP.out (below_step HB6.out HB7.out))
  have k3 := @run_makeMap Tryd.prog
  go_upto_region 8 with (fail)
  have hS0 : Below w7.heap.size w7 w7.drew := below_drew1 (Below.refl _ _)
  refine start_ (n := 12) (S := fun w' => Below w7.heap.size w7 w') (ds := []) #[false, false, false, false, false, false, false, false, false, false, false, false] (by kernel_rfl) rfl rfl (by exact hS0) (fun hHeld => ?_)
  refine with_tabW fnw_tab8 fnw_bits8 (fun HT_ HW_ => ?_)
  generalize w7.drew = wq at hHeld hS0 ⊢
  refine pure_ (i := 1) (N := some 59) (v := ?_) (a' := ?_) #[false, true, false, false, false, false, false, false, false, false, false, false] rfl rfl (any_of HT_.out (by kernel_rfl)) (fun _ _ _ h => h) (Or.inl ⟨by rfl, ?_⟩) ?_ ?_
  rotate_left
  · intro w'
    go_simp
    with_reducible rfl
  rotate_left
  · simp only [Act.put, List.setIfInBounds_toArray, List.set_cons_zero, List.set_cons_succ, i64_w, i32_w]
    rfl
  refine pure_ (i := 2) (N := some 60) (v := ?_) (a' := ?_) #[false, true, true, false, false, false, false, false, false, false, false, false] rfl rfl (any_of HT_.out (by kernel_rfl)) (fun _ _ _ h => h) (Or.inl ⟨by rfl, ?_⟩) ?_ ?_
  rotate_left
  · intro w'
    go_simp
    with_reducible rfl
  rotate_left
  · simp only [Act.put, List.setIfInBounds_toArray, List.set_cons_zero, List.set_cons_succ, i64_w, i32_w]
    rfl
  refine pure_ (i := 4) (N := some 62) (v := ?_) (a' := ?_) #[false, true, true, false, true, false, false, false, false, false, false, false] rfl rfl (any_of HT_.out (by kernel_rfl)) (fun _ _ _ h => h) (Or.inl ⟨by rfl, ?_⟩) ?_ ?_
  rotate_left
  · intro w'
    go_simp
    with_reducible rfl
  rotate_left
  · simp only [Act.put, List.setIfInBounds_toArray, List.set_cons_zero, List.set_cons_succ, i64_w, i32_w]
    rfl
  refine pure_ (i := 6) (N := some 64) (v := ?_) (a' := ?_) #[false, true, true, false, true, false, true, false, false, false, false, false] rfl rfl (any_of HT_.out (by kernel_rfl)) (fun _ _ _ h => h) (Or.inl ⟨by rfl, ?_⟩) ?_ ?_
  rotate_left
  · intro w'
    go_simp
    with_reducible rfl
  rotate_left
  · simp only [Act.put, List.setIfInBounds_toArray, List.set_cons_zero, List.set_cons_succ, i64_w, i32_w]
    rfl
  refine pure_ (i := 7) (N := some 65) (v := ?_) (a' := ?_) #[false, true, true, false, true, false, true, true, false, false, false, false] rfl rfl (any_of HT_.out (by kernel_rfl)) (fun _ _ _ h => h) (Or.inl ⟨by rfl, ?_⟩) ?_ ?_
  rotate_left
  · intro w'
    go_simp
    with_reducible rfl
  rotate_left
  · simp only [Act.put, List.setIfInBounds_toArray, List.set_cons_zero, List.set_cons_succ, i64_w, i32_w]
    rfl
  refine take_ (i := 0) (N := some 58) (v := ?_) (a' := ?_) #[true, true, true, false, true, false, true, true, false, false, false, false] rfl rfl (take_ofW HT_.out HW_.out (by kernel_rfl)) (fun _ _ _ h => h) (Or.inl ⟨by rfl, ?_⟩) hHeld ?_ ?_
  rotate_left
  · intro w' hSt
    refine (Sha.exec_load (p := .pointer (some ⟨gp, 0, none⟩)) rfl rfl (box_load (Go.Proofs.YtoiblfmlahedlaaDoor.As.heap_keep HN7.out hSt) HR.out)).trans ?_
    rfl
  rotate_left
  · simp only [Act.put, List.setIfInBounds_toArray, List.set_cons_zero, List.set_cons_succ, i64_w, i32_w]
    rfl
  refine join_ (σ := Value × Nat) 4 #[true, true, true, true, true, true, true, true, false, false, false, false] (fun s => [(61, s.1), (63, .map (some s.2))]) (fun s w' => Aside0 (NF w7.heap.size w' s.1 ps) ∧ Aside0 (w'.heap[s.2]? = some (.map #[] 0)) ∧ Aside0 (w7.heap.size ≤ s.2) ∧ Aside0 (Below w7.heap.size w7 w')) ?_ ?_
  rotate_left
  · intro hJ
    refine two_ (i := 3) (j := 5) (Ni := some 61) (Nj := some 63) #[true, true, true, true, true, false, true, true, false, false, false, false] #[true, true, true, false, true, true, true, true, false, false, false, false] rfl rfl rfl rfl (two_of HT_.out (by kernel_rfl)) (by decide) (by decide) (fun K hK => ?_) (fun K hK => ?_)
    · skip
      refine goes_ Tryd.func30 (by kernel_rfl) rfl #[.slice A ps.length cp] (by rfl) rfl rfl (by (try simp only [List.map_toArray, List.map_cons, List.map_nil]); first | done | rfl) ?_
      refine (cloneP _ (Kd.C_below HP7.out hHeld) hpc).mono ?_
      rintro e v1 ⟨vv, rfl, hRv, hb1⟩
      refine ⟨_, rfl, ?_⟩
      have F1 := Aside0.mk (NF.of hRv hHeld.size)
      have hS1 := below_step hHeld hb1
      clear hRv
      refine hK.out _ _ (by exact hS1) (fun hHeld => ?_)
      clear hK K
      refine norm_ (a' := ?_) ?_ ?_
      rotate_left
      · first
        | (show Act.put _ (some 61) _ = _; simp only [Act.put, List.setIfInBounds_toArray, List.set_cons_zero, List.set_cons_succ, i64_w, i32_w]; rfl)
        | rfl
      refine one_ (i := 5) (N := some 63) #[true, true, true, true, true, true, true, true, false, false, false, false] rfl rfl (one_of HT_.out (by kernel_rfl)) (by decide) (fun K hK => ?_)
      obtain ⟨v4, hv4⟩ : ∃ v, v = World.alloc v1 (.map #[] 0) := ⟨_, rfl⟩
      refine value_ (v := .map (some v1.heap.size)) (w1 := v4) (by rfl) rfl (by rw [hv4]; go_simp; first | done | rfl) ?_
      have hb4 : Below v1.heap.size v1 v4 := by rw [hv4]; exact (Below.refl _ _).alloc (Nat.le_refl _) _
      have F2 := Aside0.mk (show v4.heap[v1.heap.size]? = some (.map #[] 0) by rw [hv4]; exact Go.Proofs.YtoiblfmlahedlaaDoor.As.heap_new _ _)
      have F3 := Aside0.mk (F1.out.below hb4)
      have G1 := Aside0.mk hHeld.size
      have hS1 := below_step hHeld hb4
      clear hv4
      refine hK.out _ _ (by exact hS1) (fun hHeld => ?_)
      clear hK K
      refine norm_ ?_ (hJ (vv, v1.heap.size) _ ⟨F3, F2, G1, ⟨hHeld⟩⟩)
      first
        | (simp only [putAll]; simp only [Act.put, List.setIfInBounds_toArray, List.set_cons_zero, List.set_cons_succ, i64_w, i32_w]; done)
        | (simp only [putAll]; simp only [Act.put, List.setIfInBounds_toArray, List.set_cons_zero, List.set_cons_succ, i64_w, i32_w]; rfl)
        | rfl
    · skip
      obtain ⟨v4, hv4⟩ : ∃ v, v = World.alloc wq (.map #[] 0) := ⟨_, rfl⟩
      refine value_ (v := .map (some wq.heap.size)) (w1 := v4) (by rfl) rfl (by rw [hv4]; go_simp; first | done | rfl) ?_
      have hb4 : Below wq.heap.size wq v4 := by rw [hv4]; exact (Below.refl _ _).alloc (Nat.le_refl _) _
      have F2 := Aside0.mk (show v4.heap[wq.heap.size]? = some (.map #[] 0) by rw [hv4]; exact Go.Proofs.YtoiblfmlahedlaaDoor.As.heap_new _ _)
      have G1 := Aside0.mk hHeld.size
      have hS1 := below_step hHeld hb4
      clear hv4
      refine hK.out _ _ (by exact hS1) (fun hHeld => ?_)
      clear hK K
      refine norm_ (a' := ?_) ?_ ?_
      rotate_left
      · first
        | (show Act.put _ (some 63) _ = _; simp only [Act.put, List.setIfInBounds_toArray, List.set_cons_zero, List.set_cons_succ, i64_w, i32_w]; rfl)
        | rfl
      refine one_ (i := 3) (N := some 61) #[true, true, true, true, true, true, true, true, false, false, false, false] rfl rfl (one_of HT_.out (by kernel_rfl)) (by decide) (fun K hK => ?_)
      refine goes_ Tryd.func30 (by kernel_rfl) rfl #[.slice A ps.length cp] (by rfl) rfl rfl (by (try simp only [List.map_toArray, List.map_cons, List.map_nil]); first | done | rfl) ?_
      refine (cloneP _ (Kd.C_below HP7.out hHeld) hpc).mono ?_
      rintro e v1 ⟨vv, rfl, hRv, hb1⟩
      refine ⟨_, rfl, ?_⟩
      have F1 := Aside0.mk (NF.of hRv hHeld.size)
      have F3 := Aside0.mk (Go.Proofs.YtoiblfmlahedlaaDoor.As.heap_keep F2.out hb1)
      have hS1 := below_step hHeld hb1
      clear hRv
      refine hK.out _ _ (by exact hS1) (fun hHeld => ?_)
      clear hK K
      refine norm_ ?_ (hJ (vv, wq.heap.size) _ ⟨F1, F3, G1, ⟨hHeld⟩⟩)
      first
        | (simp only [putAll]; simp only [Act.put, List.setIfInBounds_toArray, List.set_cons_zero, List.set_cons_succ, i64_w, i32_w]; done)
        | (simp only [putAll]; simp only [Act.put, List.setIfInBounds_toArray, List.set_cons_zero, List.set_cons_succ, i64_w, i32_w]; rfl)
        | rfl
  rintro ⟨vc, gx⟩ w9 ⟨HNF, HGX, HGL, HB9⟩
  replace HNF : Aside0 (NF w7.heap.size w9 vc ps) := HNF
  replace HGX : Aside0 (w9.heap[gx]? = some (.map #[] 0)) := HGX
  replace HGL : Aside0 (w7.heap.size ≤ gx) := HGL
  obtain ⟨A5, c5, e5, hpe5, hpa5⟩ := HNF.out
  subst e5
  have HPE5 := Aside0.mk hpe5
  have HPA5 := Aside0.mk hpa5
  clear hpe5 hpa5 HNF
  refine norm_ (a' := ?_) ?_ ?_
  rotate_left
  · simp only [putAll]
    simp only [Act.put, List.setIfInBounds_toArray, List.set_cons_zero, List.set_cons_succ, i64_w, i32_w]
    rfl
  have hHeld := HB9.out
  refine pure_ (i := 8) (N := some 66) (v := ?_) (a' := ?_) #[true, true, true, true, true, true, true, true, true, false, false, false] rfl rfl (any_of HT_.out (by kernel_rfl)) (fun _ _ _ h => h) (Or.inl ⟨by rfl, ?_⟩) ?_ ?_
  rotate_left
  · intro w'
    refine exec_build_ (t := 62) (parts := #[(0, .tmp 58), (1, .tmp 59), (2, .tmp 61), (3, .tmp 62), (4, .tmp 63), (5, .tmp 64), (6, .tmp 65)]) (cells := fCs ⟨w9.heap.size, A5, c5, q, gc, gd, gm, cc, cd, gx⟩ ⟨R, L, ps, win, tm, bu, be⟩) ?hob ?hbb
    case hob => rfl
    refine (Eq.trans (congrArg (Tryd.prog.built 62) ?_) (built_fetch HR.out ⟨w9.heap.size, A5, c5, q, gc, gd, gm, cc, cd, gx⟩ ⟨R, L, ps, win, tm, bu, be⟩ rfl))
    first | (go_simp; done) | rfl | (simp; done)
  rotate_left
  · simp only [Act.put, List.setIfInBounds_toArray, List.set_cons_zero, List.set_cons_succ, i64_w, i32_w]
    rfl
  refine one_ (i := 9) (N := some 67) #[true, true, true, true, true, true, true, true, true, true, false, false] rfl rfl (one_of HT_.out (by kernel_rfl)) (by decide) (fun K hK => ?_)
  obtain ⟨wA, hwA⟩ : ∃ wA, wA = w9.alloc (.cells (fCs ⟨w9.heap.size, A5, c5, q, gc, gd, gm, cc, cd, gx⟩ ⟨R, L, ps, win, tm, bu, be⟩) 62) := ⟨_, rfl⟩
  refine value_ (v := .pointer (some ⟨w9.heap.size, 0, none⟩)) (w1 := wA) (by rfl) rfl (by rw [hwA]; go_simp; first | done | rfl) ?_
  have hbA : Below w9.heap.size w9 wA := by rw [hwA]; exact (Below.refl _ _).alloc (Nat.le_refl _) _
  have HNW := Aside0.mk (show wA.heap[w9.heap.size]? = some (.cells (fCs ⟨w9.heap.size, A5, c5, q, gc, gd, gm, cc, cd, gx⟩ ⟨R, L, ps, win, tm, bu, be⟩) 62 (0, 0)) by rw [hwA]; exact Go.Proofs.YtoiblfmlahedlaaDoor.As.heap_new _ _)
  have HNS := Aside0.mk (show w9.heap.size < wA.heap.size from (Array.getElem?_eq_some_iff.1 HNW.out).1)
  have HBA := Aside0.mk hbA
  have HB9S := Aside0.mk hHeld.size
  have hS1 := below_step hHeld hbA
  clear hwA
  refine hK.out _ _ (by exact hS1) (fun hHeld => ?_)
  clear hK K
  refine norm_ (a' := ?_) ?_ ?_
  rotate_left
  · first
    | (show Act.put _ (some 67) _ = _; simp only [Act.put, List.setIfInBounds_toArray, List.set_cons_zero, List.set_cons_succ, i64_w, i32_w]; rfl)
    | rfl
  refine pure_ (i := 10) (N := some 14) (v := ?_) (a' := ?_) #[true, true, true, true, true, true, true, true, true, true, true, false] rfl rfl (any_of HT_.out (by kernel_rfl)) (fun _ _ _ h => h) (Or.inl ⟨by rfl, ?_⟩) ?_ ?_
  rotate_left
  · intro w'
    go_simp
    with_reducible rfl
  rotate_left
  · simp only [Act.put, List.setIfInBounds_toArray, List.set_cons_zero, List.set_cons_succ, i64_w, i32_w]
    rfl
  refine pure_ (i := 11) (N := some 15) (v := ?_) (a' := ?_) #[true, true, true, true, true, true, true, true, true, true, true, true] rfl rfl (any_of HT_.out (by kernel_rfl)) (fun _ _ _ h => h) (Or.inl ⟨by rfl, ?_⟩) ?_ ?_
  rotate_left
  · intro w'
    go_simp
    with_reducible rfl
  rotate_left
  · simp only [Act.put, List.setIfInBounds_toArray, List.set_cons_zero, List.set_cons_succ, i64_w, i32_w]
    rfl
  refine done_ (done_of HT_.out (by kernel_rfl)) ?_
  have hHH := hHeld
  clear hS0 hHeld HT_ HW_
  go_wp2
  go_ret2
  refine ⟨_, rfl, ?_⟩
  rw [Int.toNat_natCast, Int.toNat_natCast]
  have hq := (Array.getElem?_eq_some_iff.1 HPW7.out.pl.blk).1
  obtain ⟨_, gc1, _⟩ := HPW7.out.pl.ch
  obtain ⟨_, gd1, _⟩ := HPW7.out.pl.de
  obtain ⟨_, ⟨_, _, gm1, _⟩, _⟩ := HPW7.out.mp
  have hgc := (Array.getElem?_eq_some_iff.1 gc1).1
  have hgd := (Array.getElem?_eq_some_iff.1 gd1).1
  have hgm := (Array.getElem?_eq_some_iff.1 gm1).1
  have hgx := (Array.getElem?_eq_some_iff.1 HGX.out).1
  have hgl := HGL.out
  have hll := HLL.out
  have h6s := HB6.out.size
  have hns := HNS.out
  have h9s := HB9S.out
  have hm1 := HPW7.out.pl.m1
  refine ⟨⟨w9.heap.size, A5, c5, q, gc, gd, gm, cc, cd, gx⟩, rfl, ⟨HNW.out, HPW7.out.below hHH, HPE5.out.below HBA.out, mk_new (Go.Proofs.YtoiblfmlahedlaaDoor.As.heap_keep HGX.out HBA.out), ?_, ?_, ?_, HR.out, HRb.out, hL.out, hm1, HBU.out, HBE.out, HPW.out, fun i => ⟨by simp, fun x hx => by cases hx⟩⟩, ⟨?_, ?_, ?_, ?_, ?_, ?_⟩, below_step (below_step HB6.out HB7.out) hHH⟩
  all_goals simp only []
  all_goals first | omega | (intro g hg; have := HPA5.out g hg; omega)
end Go.Proofs.YtoiblfmlahedlaaDoor.Fe
end
section
namespace Go.Proofs.YtoiblfmlahedlaaDoor.Fe
open Go.RowKit Go.Proofs.YtoiblfmlahedlaaDoorW.PrintWords Go.Proofs.YtoiblfmlahedlaaDoorW.PrintLast Go.Proofs.YtoiblfmlahedlaaDoorW.PrintMore
set_option linter.unusedVariables false
set_option linter.unusedSimpArgs false
set_option maxRecDepth 100000
open Go.Proofs.YtoiblfmlahedlaaDoor.Sha (cb vd countN rootOf checkB B KD isRow)
def Nil (w : World) (v : Value) : Prop := v = .pointer none ∨ ∃ p, v = .pointer (some ⟨p, 0, none⟩) ∧ w.cell? ⟨p, 34, none⟩ = some (.pointer none)
theorem Nil.below {w w' : World} {v : Value} (h : Nil w v) (hb : Below w.heap.size w w') : Nil w' v := by
  rcases h with rfl | ⟨p, rfl, h⟩
  · exact Or.inl rfl
  · refine Or.inr ⟨p, rfl, ?_⟩
    have hlt : p < w.heap.size := by
      rcases Nat.lt_or_ge p w.heap.size with h1 | h1
      · exact h1
      · rw [show w.cell? ⟨p, 34, none⟩ = none by simp [World.cell?, Array.getElem?_eq_none h1]] at h
        cases h
    rw [← h]
    exact World.cell?_of_block (hb.block p hlt)
end Go.Proofs.YtoiblfmlahedlaaDoor.Fe
end
section
namespace Go.Proofs.YtoiblfmlahedlaaDoor.Fe
open Go.RowKit Go.Proofs.YtoiblfmlahedlaaDoorW.PrintWords Go.Proofs.YtoiblfmlahedlaaDoorW.PrintLast Go.Proofs.YtoiblfmlahedlaaDoorW.PrintMore
set_option linter.unusedVariables false
set_option linter.unusedSimpArgs false
set_option maxRecDepth 100000
open Go.Proofs.YtoiblfmlahedlaaDoor.Sha (cb vd countN rootOf checkB B KD isRow dg_start dg_ret infoDg cb_size cb_one wpList_load_at)
end Go.Proofs.YtoiblfmlahedlaaDoor.Fe
end
section
namespace Go.Proofs.YtoiblfmlahedlaaDoor.Fe
open Go.RowKit Go.Proofs.YtoiblfmlahedlaaDoorW.PrintWords Go.Proofs.YtoiblfmlahedlaaDoorW.PrintLast Go.Proofs.YtoiblfmlahedlaaDoorW.PrintMore
set_option linter.unusedVariables false
set_option linter.unusedSimpArgs false
set_option maxRecDepth 100000
open Go.Proofs.YtoiblfmlahedlaaDoor.As (St leftF ks0 nextF hadR hadS stOf)
open Go.Proofs.YtoiblfmlahedlaaDoor.Sha (countN rootOf checkB proofOf chunkL)
open Go.Proofs.YtoiblfmlahedlaaDoor.Sha (prove_yes)
def kB : List Int := List.replicate 64 0 ++ [7]
def kF (R : List Int) : Cf := ⟨R, 65, [7, 9], 1, 5, 100, 0⟩
def kS1 (R : List Int) : St := (fnextF (kF R) ks0 (fun _ => []) 0).2
def kS2 (R : List Int) : St := (fnextF (kF R) (kS1 R) (fun _ => []) 0).2
def kS3 (R : List Int) : St := (fnextF (kF R) (kS2 R) (fun _ => []) 0).2
theorem kn1 (R : List Int) : (fnextF (kF R) ks0 (fun _ => []) 0).1 = (0, 7, true) := by kernel_rfl
theorem kn2 (R : List Int) : (fnextF (kF R) (kS1 R) (fun _ => []) 0).1 = (1, 9, true) := by kernel_rfl
theorem kn3 (R : List Int) : (fnextF (kF R) (kS2 R) (fun _ => []) 0).1 = (0, 0, false) := by kernel_rfl
theorem kmay : fmayB 65 [7, 9] 1 5 100 = true := by decide
def kS4 (R : List Int) : St := (hearF (kF R) (kS3 R) (fun _ => []) 7 0 [110, 111] []).2.1
theorem kh1' (R : List Int) : hearF (kF R) (kS3 R) (fun _ => []) 7 0 [110, 111] [] = (5, kS4 R, fun _ => []) := by kernel_rfl
theorem kc0 : chunkL kB 0 = List.replicate 64 0 := by kernel_rfl
theorem kc1 : chunkL kB 1 = [7] := by kernel_rfl
theorem kBl : kB.length = 65 := by kernel_rfl
def kS5 (R : List Int) : St := hadS 2 (kS4 R) 1
def kS6 (R : List Int) : St := hadS 2 (kS5 R) 0
def kK1 : Nat → List Int := updK (fun _ => []) 1 [7]
def kK2 : Nat → List Int := updK kK1 0 (List.replicate 64 0)
theorem kcn (R : List Int) : countN (kF R).L = 2 := by kernel_rfl
theorem hear_true {R : List Int} {s : St} {K : Nat → List Int} {x : Int} {i : Nat} {l : List Int} {p : List (List Int)} (hi : (0 : Int) ≤ i ∧ (i : Int) < countN (kF R).L ∧ 0 ≤ idxF (kF R).ps x) (hs : stOf s.1 (countN (kF R).L) i ≠ 2) (hc : checkB R 65 (i : Int) l p = true) (hh : hadR (countN (kF R).L) s i = 0) :
    hearF (kF R) s K x i l p = (0, hadS 2 s i, updK K i l) := by
  unfold hearF
  rw [if_pos hi, if_neg hs, if_pos (show checkB (kF R).R (kF R).L i l p = true from hc), hh, Int.toNat_natCast, kcn]
theorem kh2 : hearF (kF (rootOf kB)) (kS4 (rootOf kB)) (fun _ => []) 9 1 [7] (proofOf kB 1) = (0, kS5 (rootOf kB), kK1) := by
  have h := prove_yes kB 1 (by rw [kBl]; decide)
  rw [kBl, kc1] at h
  generalize rootOf kB = R at h ⊢
  have hst : ∀ R, stOf (kS4 R).1 (countN (kF R).L) ((1 : Nat) : Int) = 1 := fun R => by kernel_rfl
  have hh : ∀ R, hadR (countN (kF R).L) (kS4 R) ((1 : Nat) : Int) = 0 := fun R => by kernel_rfl
  exact hear_true (i := 1) ⟨by decide, by rw [kcn]; decide, by show (0 : Int) ≤ idxF [7, 9] 9; decide⟩ (by rw [hst]; decide) h (hh R)
theorem kh3 : hearF (kF (rootOf kB)) (kS5 (rootOf kB)) kK1 7 0 (List.replicate 64 0) (proofOf kB 0) = (0, kS6 (rootOf kB), kK2) := by
  have h := prove_yes kB 0 (by rw [kBl]; decide)
  rw [kBl, kc0] at h
  generalize rootOf kB = R at h ⊢
  have hst : ∀ R, stOf (kS5 R).1 (countN (kF R).L) ((0 : Nat) : Int) = 0 := fun R => by kernel_rfl
  have hh : ∀ R, hadR (countN (kF R).L) (kS5 R) ((0 : Nat) : Int) = 0 := fun R => by kernel_rfl
  exact hear_true (i := 0) ⟨by decide, by rw [kcn]; decide, by show (0 : Int) ≤ idxF [7, 9] 7; decide⟩ (by rw [hst]; decide) h (hh R)
theorem kb4 : blobF (kF (rootOf kB)) (kS6 (rootOf kB)) kK2 = some kB := by
  have h1 : ∀ R, leftF (kS6 R).1 (countN (kF R).L) = 0 := fun R => by kernel_rfl
  have h2 : ∀ R, cat kK2 (countN (kF R).L) = kB := fun R => by kernel_rfl
  unfold blobF
  rw [if_neg (by rw [h1]; simp), h2, if_pos ⟨kBl, rfl⟩]
theorem kh5 (R : List Int) : (hearF (kF R) (kS6 R) kK2 7 0 (List.replicate 64 0) []) = (7, kS6 R, kK2) := by kernel_rfl
end Go.Proofs.YtoiblfmlahedlaaDoor.Fe
end
section
namespace Go.Proofs.YtoiblfmlahedlaaDoor.Fe
open Go.RowKit Go.Proofs.YtoiblfmlahedlaaDoorW.PrintWords Go.Proofs.YtoiblfmlahedlaaDoorW.PrintLast Go.Proofs.YtoiblfmlahedlaaDoorW.PrintMore
set_option linter.unusedVariables false
set_option linter.unusedSimpArgs false
set_option maxRecDepth 100000
open Go.Proofs.YtoiblfmlahedlaaDoor.As
open Go.Proofs.YtoiblfmlahedlaaDoor.Sha (countN rootOf checkB)
def NoHad (n : Nat) (s : St) : Prop := ∀ i, i < n → (s.1 i).1 ≠ 2
theorem nohad0 (n : Nat) : NoHad n ks0 := fun i _ => by show (0 : Int) ≠ 2; omega
theorem NoHad.left {n : Nat} {s : St} (h : NoHad n s) : leftF s.1 n = n :=
  (leftF_congr n (fun j hj => ⟨fun e => absurd e (h j hj), fun e => absurd e (nohad0 n j hj)⟩)).trans (leftF_start n)
theorem NoHad.next {n m : Nat} {now win tm : Int} {s : St} (h : NoHad n s) : NoHad n (nextF now win tm n m s).2 := by
  intro i hi
  have hl : ∀ j, j < n → ((lateF now tm s.1 s.2.1 n).1 j).1 ≠ 2 := fun j hj e => h j hj ((lateF_had now tm s.1 s.2.1 n j).1 e)
  unfold nextF
  simp only []
  split
  · show (upd _ _ _ i).1 ≠ 2
    unfold upd
    split
    · show (1 : Int) ≠ 2; omega
    · exact hl i hi
  · exact hl i hi
theorem count_pos {L : Nat} (h : 1 ≤ L) : 1 ≤ countN L := by unfold countN; omega
end Go.Proofs.YtoiblfmlahedlaaDoor.Fe
end
section
namespace Go.Proofs.YtoiblfmlahedlaaDoor.Fe
open Go.RowKit Go.Proofs.YtoiblfmlahedlaaDoorW.PrintWords Go.Proofs.YtoiblfmlahedlaaDoorW.PrintLast Go.Proofs.YtoiblfmlahedlaaDoorW.PrintMore
set_option linter.unusedVariables false
set_option linter.unusedSimpArgs false
set_option maxRecDepth 100000
open Go.Proofs.YtoiblfmlahedlaaDoor.As
open Go.Proofs.YtoiblfmlahedlaaDoor.Sha (countN)
end Go.Proofs.YtoiblfmlahedlaaDoor.Fe
end
section
namespace Go.Proofs.YtoiblfmlahedlaaDoor.Fe
open Go.RowKit Go.Proofs.YtoiblfmlahedlaaDoorW.PrintWords Go.Proofs.YtoiblfmlahedlaaDoorW.PrintLast Go.Proofs.YtoiblfmlahedlaaDoorW.PrintMore
set_option linter.unusedVariables false
set_option linter.unusedSimpArgs false
set_option maxRecDepth 100000
open Go.Proofs.YtoiblfmlahedlaaDoor.As (St PW ks0)
open Go.Proofs.YtoiblfmlahedlaaDoor.Sha (cb vd countN rootOf checkB B KD isRow proofOf)
open Go.Proofs.YtoiblfmlahedlaaDoor.Ref (new_calls rroot_calls rproof_calls)
def zC65 : Array Value := madeCells (Value.int .u8 0).cells 65
def kC65 : Array Value := (kB.map (Value.int .u8)).toArray
theorem make_B65 (w : World) : (Instr.makeSlice 22 (.int .i64 65) (.int .i64 65)).run Tryd.prog w = .ok (.slice (some ⟨w.heap.size, 0, none⟩) 65 65) (w.alloc (.cells zC65 5)) := by
  obtain ⟨i, hi, hz, hs, hb⟩ := info_parts infoB
  have h := run_make (P := Tryd.prog) w 22 5 i _ Tryd.underlying22 hi hz .i64 .i64 65 65 (by omega) (Int.le_refl _) (by rw [hb]; omega) (by omega)
  rw [hs] at h
  exact h
theorem kBb : Sha.bytes kB := by unfold Sha.bytes kB; intro x hx; simp at hx; omega
theorem rowB {w : World} {g : Nat} (h : w.heap[g]? = some (.cells kC65 5 (0, 0))) (o : Nat) (l : List Int) (hl : ∀ j x, l[j]? = some x → kC65[o + j]? = some (.int .u8 x)) (hn : l.length ≤ 65) : B.C w (some ⟨g, o, none⟩) l.length l := by
  refine ⟨rfl, by omega, fun _ => ⟨_, rfl, fun j x hx => ⟨[.int .u8 x], rfl, by rfl, fun i u hu => ?_⟩⟩⟩
  rcases i with _ | i
  · simp at hu
    subst hu
    have := hl j x hx
    rw [show (Addr.mk g o none).add (j * B.sz + 0) = ⟨g, o + j, none⟩ by
      rw [show j * B.sz + 0 = j by show j * 1 + 0 = j; omega]
      simp [Addr.add_lit]]
    simp [World.cell?, h, this]
  · simp at hu
theorem Mov.keep {lo hi k : Nat} {w w' : World} {o : Obj} (h : Mov lo hi w w') (hk : k < lo) (ho : w.heap[k]? = some o) : w'.heap[k]? = some o := (h.block k (Array.getElem?_eq_some_iff.1 ho).1 (Or.inl hk)).trans ho
theorem Mov.held {lo hi : Nat} {w0 w w' : World} (h : Mov lo hi w w') (hb : Below w0.heap.size w0 w) (h0 : w0.heap.size ≤ lo) (hl : lo ≤ w.heap.size) : Below w0.heap.size w0 w' := below_weaken hb h0 (h.below hl)
abbrev noC : Array Value := #[.int .u8 110, .int .u8 111]
def noW (w : World) : World := (w.alloc (.cells noC 5)).freeze ⟨w.heap.size, 2, none⟩ 1
theorem cv_no (w : World) : (convert 22 22 (.slice (some ⟨w.heap.size, 0, none⟩) 2 2)).run Tryd.prog (w.alloc (.cells #[.int .u8 110, .int .u8 111] 5)) = .ok (.slice (some ⟨w.heap.size, 0, none⟩) 2 2) (noW w) := by
  have hsh : (w.alloc (.cells noC 5)).shape? w.heap.size = some (5, 2) := by
    simp [World.shape?, World.alloc, -World.alloc_eq]
  simp [convert, run_underlying Tryd.underlying22, run_underlying Tryd.underlying5, markStringish, Question.forced, noW, hsh, Result.andThen]
theorem noW_old (w : World) (j : Nat) (hj : j < w.heap.size) : (noW w).heap[j]? = w.heap[j]? := by
  have h1 : w.heap.size ≠ j := by omega
  simp [noW, World.freeze, World.alloc, -World.alloc_eq, Array.getElem?_modify, Array.getElem?_push, h1, Ne.symm h1]
theorem noW_new (w : World) : (noW w).heap[w.heap.size]? = some (.cells noC 5 (2, 3)) := by
  simp [noW, World.freeze, World.alloc, -World.alloc_eq]
  rw [Array.getElem_modify_self]
  simp
theorem noW_below (w : World) : Below w.heap.size w (noW w) :=
  ⟨rfl, rfl, rfl, by simp [noW, World.freeze, World.alloc, -World.alloc_eq], fun k hk => noW_old w k hk⟩
theorem kpl (i : Nat) : (proofOf kB i).length < 1000000 := by
  have := Go.Proofs.YtoiblfmlahedlaaDoor.Sha.proofP_le2 (Sha.leavesL kB) i
  rw [Sha.leavesL_len, kBl] at this
  unfold proofOf
  have h : countN 65 = 2 := by decide
  omega
theorem rowAll {w : World} {g : Nat} (h : w.heap[g]? = some (.cells kC65 5 (0, 0))) : B.C w (some ⟨g, 0, none⟩) kB.length kB := rowB h 0 kB (fun j x hx => by unfold kC65; rw [Nat.zero_add, List.getElem?_toArray, List.getElem?_map, hx]; rfl) (by rw [kBl]; omega)
theorem rowHi {w : World} {g : Nat} (h : w.heap[g]? = some (.cells kC65 5 (0, 0))) : B.C w (some ⟨g, 64, none⟩) ([7] : List Int).length [7] := by
  refine rowB h 64 [7] ?_ (by decide)
  intro j x hx
  rcases j with _ | j
  · simp at hx
    subst hx
    kernel_rfl
  · simp at hx
theorem rowLo {w : World} {g : Nat} (h : w.heap[g]? = some (.cells kC65 5 (0, 0))) : B.C w (some ⟨g, 0, none⟩) (List.replicate 64 (0 : Int)).length (List.replicate 64 0) := rowB h 0 (List.replicate 64 0) (fun j x hx => by
  unfold kC65 kB
  rw [List.getElem?_replicate] at hx
  split at hx
  · rename_i h64
    rw [Nat.zero_add, List.getElem?_toArray, List.getElem?_map, List.getElem?_append_left (by simpa using h64), List.getElem?_replicate, if_pos h64]
    cases hx
    rfl
  · cases hx) (by decide)
def kno_T12 : Bool × List (List Nat × List Nat) := (true, [([], []), ([], []), ([1], [1]), ([], []), ([], []), ([3, 4], [3, 4]), ([0, 2, 5, 5], [0, 2, 5]), ([6], [6]), ([7, 6], [7]), ([8], [8]), ([8], [8]), ([10, 8], [8, 10]), ([8], [8]), ([8], [8]), ([12, 13, 8, 8], [8, 12, 13]), ([9, 11, 14, 14, 8], [8, 9, 11, 14]), ([15, 8], [8, 15]), ([8, 16], [8, 16])])
def kno_B12 : List Nat := [0, 0, 2, 0, 0, 24, 63, 127, 255, 511, 511, 1535, 511, 511, 12799, 32767, 65535, 131071]
theorem kno_tab12 : rtab .any (opsOf Tryd.f9 12) = kno_T12 := by kernel_rfl
theorem kno_bits12 : waitsOk kno_T12.2 kno_B12 = true := by kernel_rfl
theorem z64b : Sha.bytes (List.replicate 64 (0 : Int)) := fun y hy => by rw [List.mem_replicate] at hy; omega
set_option maxHeartbeats 3200000 in
theorem known_calls (w : World) (hT : Sha.Tab w) : Calls Tryd.prog 9 #[] w fun e w' => e = .returned (.bool true) ∧ Below w.heap.size w w' := by
  have HT := Aside0.mk hT
  have hmk := make_B65
  clear hT
  go_enter Tryd.func9, Tryd.ntmps9
  go_upto_region 2 with (fail)
  obtain ⟨w1, hw1⟩ : ∃ w1, w.alloc (.cells zC65 5) = w1 := ⟨_, rfl⟩
  have hz1 : w1.heap[w.heap.size]? = some (.cells zC65 5 (0, 0)) := by rw [← hw1]; exact Go.Proofs.YtoiblfmlahedlaaDoor.As.heap_new _ _
  have HB1 := Aside0.mk (show Below w.heap.size w w1 by rw [← hw1]; exact (Below.refl _ _).alloc (Nat.le_refl _) _)
  rw [hw1]
  clear hw1
  have y0 : w1.cell? ⟨w.heap.size, 64, none⟩ = some (.int .u8 0) := by
    rw [World.cell?]
    simp only [hz1]
    kernel_rfl
  have z0 : w1.frozen? ⟨w.heap.size, 64, none⟩ = false := by simp [World.frozen?, hz1]
  have HZ1 := Aside0.mk hz1
  clear hz1
  go_upto_region 3 with (fail)
  obtain ⟨w2, hw2⟩ : ∃ w2, w1.setCell ⟨w.heap.size, 64, none⟩ (.int .u8 7) = w2 := ⟨_, rfl⟩
  have HK := Aside0.mk (show w2.heap[w.heap.size]? = some (.cells kC65 5 (0, 0)) by
    rw [← hw2, show kC65 = zC65.setIfInBounds 64 (.int .u8 7) by kernel_rfl]
    exact heap_setCell_same _ _ _ _ _ _ HZ1.out)
  have HB2 := Aside0.mk (show Below w.heap.size w w2 by rw [← hw2]; exact HB1.out.setCell (p := ⟨w.heap.size, 64, none⟩) (Nat.le_refl _) _)
  rw [hw2]
  clear hw2 HB1 HZ1 y0 z0
  generalize hg : w.heap.size = g at HK ⊢
  replace hg := Aside0.mk hg
  go_wp2_with fail
  refine (new_calls _).mono ?_
  rintro e w3 ⟨gh, rfl, hgl, hgh, hb⟩
  have HGH := Aside0.mk hgh
  have HB3 := Aside0.mk (below_step HB2.out hb)
  have HK3 := Aside0.mk (Go.Proofs.YtoiblfmlahedlaaDoor.As.heap_keep HK.out hb)
  clear hgl hgh hb HK
  go_wp2_with fail
  refine (rroot_calls gh (some ⟨g, 0, none⟩) 65 kB _ HGH.out (rowB HK3.out 0 kB (fun j x hx => by unfold kC65; rw [Nat.zero_add, List.getElem?_toArray, List.getElem?_map, hx]; rfl) (by rw [kBl]; omega)) (by rw [kBl]; omega) kBb (by rw [kBl]; omega)).mono ?_
  rintro e w4 ⟨rfl, hb⟩
  have HGH4 := Aside0.mk (Go.Proofs.YtoiblfmlahedlaaDoor.As.heap_keep HGH.out hb)
  have HK4 := Aside0.mk (Go.Proofs.YtoiblfmlahedlaaDoor.As.heap_keep HK3.out hb)
  have HB4 := Aside0.mk (below_step HB3.out hb)
  clear hb HGH HK3 HB3 HB2
  have HRL := Aside0.mk (show (rootOf kB).length = 32 by unfold rootOf Sha.rootI; exact Sha.shaI_len _)
  have HRB := Aside0.mk (show Sha.bytes (rootOf kB) by unfold rootOf Sha.rootI; exact Sha.shaI_bytes _)
  have KH2 := Aside0.mk kh2
  have KH3 := Aside0.mk kh3
  have KB4 := Aside0.mk kb4
  generalize rootOf kB = R at HRL HRB KH2 KH3 KB4 ⊢
  go_wp2_with fail
  obtain ⟨w5, hw5⟩ : ∃ w5, w4.alloc (.cells #[.int .i64 7, .int .i64 9] 3) = w5 := ⟨_, rfl⟩
  have hp5 : w5.heap[w4.heap.size]? = some (.cells #[.int .i64 7, .int .i64 9] 3 (0, 0)) := by rw [← hw5]; exact Go.Proofs.YtoiblfmlahedlaaDoor.As.heap_new _ _
  have hb5 : Below w4.heap.size w4 w5 := by rw [← hw5]; exact (Below.refl _ _).alloc (Nat.le_refl _) _
  have HP5 : Aside0 (I.C w5 (some ⟨w4.heap.size, 0, none⟩) ([7, 9] : List Int).length [7, 9]) := ⟨by
    refine ⟨rfl, by decide, fun _ => ⟨_, rfl, fun j x hx => ⟨[.int .i64 x], rfl, by rfl, fun i u hu => ?_⟩⟩⟩
    rcases i with _ | i
    · simp at hu
      subst hu
      rw [show (Addr.mk w4.heap.size 0 none).add (j * I.sz + 0) = ⟨w4.heap.size, 0 + j, none⟩ by
        rw [show j * I.sz + 0 = j by show j * 1 + 0 = j; omega]
        simp [Addr.add_lit]]
      rcases j with _ | _ | j
      · simp at hx; subst hx; simp [World.cell?, hp5]
      · simp at hx; subst hx; simp [World.cell?, hp5]
      · simp at hx
    · simp at hu⟩
  have HB5 := Aside0.mk (below_step HB4.out hb5)
  have HGH5 := Aside0.mk (Go.Proofs.YtoiblfmlahedlaaDoor.As.heap_keep HGH4.out hb5)
  have HK5 := Aside0.mk (Go.Proofs.YtoiblfmlahedlaaDoor.As.heap_keep HK4.out hb5)
  rw [hw5]
  clear hw5 hp5 hb5 HGH4 HK4 HB4
  refine (fnew_yes (L := 65) (ps := [7, 9]) (win := 1) (tm := 5) (bu := 100) (be := 0) HRL.out HRB.out HP5.out (by decide) (by intro x hx; simp at hx; omega) (by omega) kmay).mono ?_
  rintro e w6 ⟨v, rfl, a, rfl, hfw, hin, hb⟩
  have HF6 := Aside0.mk (show FW w6 a (kF R) 0 ks0 (fun _ => []) from hfw)
  have HIN := Aside0.mk hin
  have HB6 := Aside0.mk (below_step HB5.out hb)
  have HGH6 := Aside0.mk (Go.Proofs.YtoiblfmlahedlaaDoor.As.heap_keep HGH5.out hb)
  have HK6 := Aside0.mk (Go.Proofs.YtoiblfmlahedlaaDoor.As.heap_keep HK5.out hb)
  have HLO := Aside0.mk (show g < w5.heap.size ∧ gh < w5.heap.size ∧ w.heap.size ≤ w5.heap.size ∧ w5.heap.size ≤ w6.heap.size from ⟨(Array.getElem?_eq_some_iff.1 HK5.out).1, (Array.getElem?_eq_some_iff.1 HGH5.out).1, HB5.out.size, hb.size⟩)
  generalize w5.heap.size = lo at HIN HLO
  clear hfw hin hb HB5 HGH5 HK5 HP5
  go_wp2_with fail
  refine (fnext_calls (r := (0, 7, true)) (s' := kS1 R) HF6.out HIN.out (by omega) (HT.out.below HB6.out) (by omega) (kn1 R) rfl).mono ?_
  rintro e w7 ⟨rfl, hfw, hm⟩
  have HF7 := Aside0.mk hfw
  have HB7 := Aside0.mk (hm.held HB6.out HLO.out.2.2.1 HLO.out.2.2.2)
  have HGH7 := Aside0.mk (hm.keep HLO.out.2.1 HGH6.out)
  have HK7 := Aside0.mk (hm.keep HLO.out.1 HK6.out)
  have HL7 := Aside0.mk (show lo ≤ w7.heap.size from Nat.le_trans HLO.out.2.2.2 hm.size)
  replace HLO := Aside0.mk (show g < lo ∧ gh < lo ∧ w.heap.size ≤ lo ∧ lo ≤ w7.heap.size from ⟨HLO.out.1, HLO.out.2.1, HLO.out.2.2.1, HL7.out⟩)
  clear hfw hm HF6 HB6 HGH6 HK6 HL7
  go_wp2_with fail
  refine (fnext_calls (r := (1, 9, true)) (s' := kS2 R) HF7.out HIN.out (by omega) (HT.out.below HB7.out) (by omega) (kn2 R) rfl).mono ?_
  rintro e w8 ⟨rfl, hfw, hm⟩
  have HF8 := Aside0.mk hfw
  have HB8 := Aside0.mk (hm.held HB7.out HLO.out.2.2.1 HLO.out.2.2.2)
  have HGH8 := Aside0.mk (hm.keep HLO.out.2.1 HGH7.out)
  have HK8 := Aside0.mk (hm.keep HLO.out.1 HK7.out)
  have HL8 := Aside0.mk (show lo ≤ w8.heap.size from Nat.le_trans HLO.out.2.2.2 hm.size)
  replace HLO := Aside0.mk (show g < lo ∧ gh < lo ∧ w.heap.size ≤ lo ∧ lo ≤ w8.heap.size from ⟨HLO.out.1, HLO.out.2.1, HLO.out.2.2.1, HL8.out⟩)
  clear hfw hm HF7 HB7 HGH7 HK7 HL8
  go_wp2_with fail
  refine (fnext_calls (r := (0, 0, false)) (s' := kS3 R) HF8.out HIN.out (by omega) (HT.out.below HB8.out) (by omega) (kn3 R) rfl).mono ?_
  rintro e w9 ⟨rfl, hfw, hm⟩
  have HF9 := Aside0.mk hfw
  have HB9 := Aside0.mk (hm.held HB8.out HLO.out.2.2.1 HLO.out.2.2.2)
  have HGH9 := Aside0.mk (hm.keep HLO.out.2.1 HGH8.out)
  have HK9 := Aside0.mk (hm.keep HLO.out.1 HK8.out)
  have HL9 := Aside0.mk (show lo ≤ w9.heap.size from Nat.le_trans HLO.out.2.2.2 hm.size)
  replace HLO := Aside0.mk (show g < lo ∧ gh < lo ∧ w.heap.size ≤ lo ∧ lo ≤ w9.heap.size from ⟨HLO.out.1, HLO.out.2.1, HLO.out.2.2.1, HL9.out⟩)
  clear hfw hm HF8 HB8 HGH8 HK8 HL9
  have hcv := cv_no
  go_wp2_with fail
  have hn9 := noW_new w9
  have hb9 := noW_below w9
  have HCN : Aside0 (B.C (noW w9) (some ⟨w9.heap.size, 0, none⟩) ([110, 111] : List Int).length [110, 111]) := ⟨by
    refine ⟨rfl, by decide, fun _ => ⟨_, rfl, fun j x hx => ⟨[.int .u8 x], rfl, by rfl, fun i u hu => ?_⟩⟩⟩
    rcases i with _ | i
    · simp at hu
      subst hu
      rw [show (Addr.mk w9.heap.size 0 none).add (j * B.sz + 0) = ⟨w9.heap.size, 0 + j, none⟩ by
        rw [show j * B.sz + 0 = j by show j * 1 + 0 = j; omega]
        simp [Addr.add_lit]]
      rcases j with _ | _ | j
      · simp at hx; subst hx; simp [World.cell?, hn9]
      · simp at hx; subst hx; simp [World.cell?, hn9]
      · simp at hx
    · simp at hu⟩
  have HF10 := Aside0.mk (HF9.out.below hb9)
  have HB10 := Aside0.mk (below_step HB9.out hb9)
  have HGH10 := Aside0.mk (Go.Proofs.YtoiblfmlahedlaaDoor.As.heap_keep HGH9.out hb9)
  have HK10 := Aside0.mk (Go.Proofs.YtoiblfmlahedlaaDoor.As.heap_keep HK9.out hb9)
  replace HLO := Aside0.mk (show g < lo ∧ gh < lo ∧ w.heap.size ≤ lo ∧ lo ≤ (noW w9).heap.size from ⟨HLO.out.1, HLO.out.2.1, HLO.out.2.2.1, Nat.le_trans HLO.out.2.2.2 hb9.size⟩)
  generalize w9.heap.size = gn at HCN ⊢
  generalize noW w9 = w10 at HCN HF10 HB10 HGH10 HK10 HLO ⊢
  clear hn9 hb9 HF9 HB9 HGH9 HK9 hcv
  refine (hear_calls (r := 5) (s' := kS4 R) (K' := fun _ => []) (l := [110, 111]) (p := []) HF10.out HIN.out (by omega) (HT.out.below HB10.out) HCN.out (by intro y hy; simp at hy; omega) (by decide) (Kd.C_nil _ _) (by intro y hy; cases hy) (by decide) (kh1' R)).mono ?_
  rintro e w11 ⟨rfl, hfw, hm⟩
  have HF11 := Aside0.mk hfw
  have HB11 := Aside0.mk (hm.held HB10.out HLO.out.2.2.1 HLO.out.2.2.2)
  have HGH11 := Aside0.mk (hm.keep HLO.out.2.1 HGH10.out)
  have HK11 := Aside0.mk (hm.keep HLO.out.1 HK10.out)
  have HL11 := Aside0.mk (show lo ≤ w11.heap.size from Nat.le_trans HLO.out.2.2.2 hm.size)
  replace HLO := Aside0.mk (show g < lo ∧ gh < lo ∧ w.heap.size ≤ lo ∧ lo ≤ w11.heap.size from ⟨HLO.out.1, HLO.out.2.1, HLO.out.2.2.1, HL11.out⟩)
  clear hfw hm HF10 HB10 HGH10 HK10 HL11 HCN
  go_upto_region 12 with (fail)
  obtain ⟨hi, hhi⟩ : ∃ hi, w6.heap.size = hi := ⟨_, rfl⟩
  rw [hhi] at HIN
  clear hhi
  have hD := below_drew1 (Below.refl w11.heap.size w11)
  have HFd := Aside0.mk (HF11.out.below hD)
  have HGd := Aside0.mk (Go.Proofs.YtoiblfmlahedlaaDoor.As.heap_keep HGH11.out hD)
  have HKd := Aside0.mk (Go.Proofs.YtoiblfmlahedlaaDoor.As.heap_keep HK11.out hD)
  have HBd := Aside0.mk (below_step HB11.out hD)
  have hS0 : Mov lo hi w11 w11.drew := Mov.of_below hD
  obtain ⟨P1, hP1⟩ : ∃ P, proofOf kB 1 = P := ⟨_, rfl⟩
  obtain ⟨P2, hP2⟩ : ∃ P, proofOf kB 0 = P := ⟨_, rfl⟩
  have HP1R := Aside0.mk (show Sha.isRow P1 from hP1 ▸ Sha.proof_row kB 1)
  have HP2R := Aside0.mk (show Sha.isRow P2 from hP2 ▸ Sha.proof_row kB 0)
  have HP1L := Aside0.mk (show P1.length < 1000000 from hP1 ▸ kpl 1)
  have HP2L := Aside0.mk (show P2.length < 1000000 from hP2 ▸ kpl 0)
  rw [hP1] at KH2
  rw [hP2] at KH3
  have HP1 := Aside0.mk hP1
  have HP2 := Aside0.mk hP2
  clear hD hP1 hP2
  refine start_ (n := 18) (S := fun w' => Mov lo hi w11 w') (ds := []) #[false, false, false, false, false, false, false, false, false, false, false, false, false, false, false, false, false, false] (by kernel_rfl) rfl rfl (by exact hS0) (fun hHeld => ?_)
  refine with_tabW kno_tab12 kno_bits12 (fun HT_ HW_ => ?_)
  generalize w11.drew = wq at hHeld hS0 HFd HGd HKd HBd ⊢
  refine pure_ (i := 0) (N := some 84) (v := ?_) (a' := ?_) #[true, false, false, false, false, false, false, false, false, false, false, false, false, false, false, false, false, false] rfl rfl (any_of HT_.out (by kernel_rfl)) (fun _ _ _ h => h) (Or.inl ⟨by rfl, ?_⟩) ?_ ?_
  rotate_left
  · intro w'
    go_simp
    with_reducible rfl
  rotate_left
  · simp only [Act.put, List.setIfInBounds_toArray, List.set_cons_zero, List.set_cons_succ, i64_w, i32_w]
    rfl
  refine pure_ (i := 1) (N := some 85) (v := ?_) (a' := ?_) #[true, true, false, false, false, false, false, false, false, false, false, false, false, false, false, false, false, false] rfl rfl (any_of HT_.out (by kernel_rfl)) (fun _ _ _ h => h) (Or.inl ⟨by rfl, ?_⟩) ?_ ?_
  rotate_left
  · intro w'
    go_simp
    with_reducible rfl
  rotate_left
  · simp only [Act.put, List.setIfInBounds_toArray, List.set_cons_zero, List.set_cons_succ, i64_w, i32_w]
    rfl
  refine pure_ (i := 2) (N := some 86) (v := ?_) (a' := ?_) #[true, true, true, false, false, false, false, false, false, false, false, false, false, false, false, false, false, false] rfl rfl (any_of HT_.out (by kernel_rfl)) (fun _ _ _ h => h) (Or.inl ⟨by rfl, ?_⟩) ?_ ?_
  rotate_left
  · intro w'
    go_simp
    with_reducible rfl
  rotate_left
  · simp only [Act.put, List.setIfInBounds_toArray, List.set_cons_zero, List.set_cons_succ, i64_w, i32_w]
    rfl
  refine pure_ (i := 3) (N := some 87) (v := ?_) (a' := ?_) #[true, true, true, true, false, false, false, false, false, false, false, false, false, false, false, false, false, false] rfl rfl (any_of HT_.out (by kernel_rfl)) (fun _ _ _ h => h) (Or.inl ⟨by rfl, ?_⟩) ?_ ?_
  rotate_left
  · intro w'
    go_simp
    with_reducible rfl
  rotate_left
  · simp only [Act.put, List.setIfInBounds_toArray, List.set_cons_zero, List.set_cons_succ, i64_w, i32_w]
    rfl
  refine pure_ (i := 4) (N := some 88) (v := ?_) (a' := ?_) #[true, true, true, true, true, false, false, false, false, false, false, false, false, false, false, false, false, false] rfl rfl (any_of HT_.out (by kernel_rfl)) (fun _ _ _ h => h) (Or.inl ⟨by rfl, ?_⟩) ?_ ?_
  rotate_left
  · intro w'
    go_simp
    with_reducible rfl
  rotate_left
  · simp only [Act.put, List.setIfInBounds_toArray, List.set_cons_zero, List.set_cons_succ, i64_w, i32_w]
    rfl
  refine one_ (i := 5) (N := some 89) #[true, true, true, true, true, true, false, false, false, false, false, false, false, false, false, false, false, false] rfl rfl (one_of HT_.out (by kernel_rfl)) (by decide) (fun K hK => ?_)
  refine goes_ Tryd.func19 (by kernel_rfl) rfl #[.pointer (some ⟨gh, 0, none⟩), .slice (some ⟨g, 0, none⟩) 65 65, .int .i64 1] (by rfl) rfl rfl (by (try simp only [List.map_toArray, List.map_cons, List.map_nil]); first | done | rfl) ?_
  refine (rproof_calls gh (some ⟨g, 0, none⟩) 65 kB 1 _ HGd.out (rowAll HKd.out) (by rw [kBl]; omega) kBb (by rw [kBl]; omega) (by rw [kBl]; decide)).mono ?_
  rintro e w12 ⟨v, rfl, ho, hb⟩
  refine ⟨_, rfl, ?_⟩
  have hS1 := hHeld.trans (Mov.of_below hb)
  rw [HP1.out] at ho
  obtain ⟨A1, c1, rfl, hc1, hr1⟩ := Kd.R_reads ho
  have HC1 := Aside0.mk hr1
  have HPC1 := Aside0.mk hc1
  have HF12 := Aside0.mk (HFd.out.below hb)
  have HB12 := Aside0.mk (below_step HBd.out hb)
  have HG12 := Aside0.mk (Go.Proofs.YtoiblfmlahedlaaDoor.As.heap_keep HGd.out hb)
  have HK12 := Aside0.mk (Go.Proofs.YtoiblfmlahedlaaDoor.As.heap_keep HKd.out hb)
  clear hb ho hr1 hc1
  refine hK.out _ _ (by exact hS1) (fun hHeld => ?_)
  clear hK K
  refine norm_ (a' := ?_) ?_ ?_
  rotate_left
  · first
    | (show Act.put _ (some 89) _ = _; simp only [Act.put, List.setIfInBounds_toArray, List.set_cons_zero, List.set_cons_succ, i64_w, i32_w]; rfl)
    | rfl
  refine one_ (i := 6) (N := some 90) #[true, true, true, true, true, true, true, false, false, false, false, false, false, false, false, false, false, false] rfl rfl (one_of HT_.out (by kernel_rfl)) (by decide) (fun K hK => ?_)
  refine goes_ Tryd.func15 (by kernel_rfl) rfl #[.pointer (some ⟨a.p, 0, none⟩), .int .i64 9, .int .i64 1, .slice (some ⟨g, 64, none⟩) 1 1, .slice A1 P1.length c1] (by rfl) rfl rfl (by (try simp only [List.map_toArray, List.map_cons, List.map_nil]); first | done | rfl) ?_
  refine (hear_calls (r := 0) (s' := kS5 R) (K' := kK1) (l := [7]) (p := P1) HF12.out HIN.out (by omega) (HT.out.below HB12.out) (rowHi HK12.out) (by intro y hy; simp at hy; omega) (by decide) HC1.out HP1R.out ⟨HPC1.out, HP1L.out⟩ KH2.out).mono ?_
  rintro e w13 ⟨rfl, hfw, hm⟩
  refine ⟨_, rfl, ?_⟩
  have hS1 := hHeld.trans hm
  have HF13 := Aside0.mk hfw
  have HL12 := Nat.le_trans HLO.out.2.2.2 hHeld.size
  have HB13 := Aside0.mk (hm.held HB12.out HLO.out.2.2.1 HL12)
  have HG13 := Aside0.mk (hm.keep HLO.out.2.1 HG12.out)
  have HK13 := Aside0.mk (hm.keep HLO.out.1 HK12.out)
  clear hfw hm HL12
  refine hK.out _ _ (by exact hS1) (fun hHeld => ?_)
  clear hK K
  refine norm_ (a' := ?_) ?_ ?_
  rotate_left
  · first
    | (show Act.put _ (some 90) _ = _; simp only [Act.put, List.setIfInBounds_toArray, List.set_cons_zero, List.set_cons_succ, i64_w, i32_w]; rfl)
    | rfl
  refine pure_ (i := 7) (N := some 91) (v := ?_) (a' := ?_) #[true, true, true, true, true, true, true, true, false, false, false, false, false, false, false, false, false, false] rfl rfl (any_of HT_.out (by kernel_rfl)) (fun _ _ _ h => h) (Or.inl ⟨by rfl, ?_⟩) ?_ ?_
  rotate_left
  · intro w'
    go_simp
    with_reducible rfl
  rotate_left
  · simp only [Act.put, List.setIfInBounds_toArray, List.set_cons_zero, List.set_cons_succ, i64_w, i32_w]
    rfl
  refine pure_ (i := 8) (N := some 92) (v := ?_) (a' := ?_) #[true, true, true, true, true, true, true, true, true, false, false, false, false, false, false, false, false, false] rfl rfl (any_of HT_.out (by kernel_rfl)) (fun _ _ _ h => h) (Or.inl ⟨by rfl, ?_⟩) ?_ ?_
  rotate_left
  · intro w'
    go_simp
    with_reducible rfl
  rotate_left
  · simp only [Act.put, List.setIfInBounds_toArray, List.set_cons_zero, List.set_cons_succ, i64_w, i32_w]
    rfl
  refine pure_ (i := 9) (N := some 93) (v := ?_) (a' := ?_) #[true, true, true, true, true, true, true, true, true, true, false, false, false, false, false, false, false, false] rfl rfl (any_of HT_.out (by kernel_rfl)) (fun _ _ _ h => h) (Or.inl ⟨by rfl, ?_⟩) ?_ ?_
  rotate_left
  · intro w'
    go_simp
    with_reducible rfl
  rotate_left
  · simp only [Act.put, List.setIfInBounds_toArray, List.set_cons_zero, List.set_cons_succ, i64_w, i32_w]
    rfl
  refine pure_ (i := 10) (N := some 94) (v := ?_) (a' := ?_) #[true, true, true, true, true, true, true, true, true, true, true, false, false, false, false, false, false, false] rfl rfl (any_of HT_.out (by kernel_rfl)) (fun _ _ _ h => h) (Or.inl ⟨by rfl, ?_⟩) ?_ ?_
  rotate_left
  · intro w'
    go_simp
    with_reducible rfl
  rotate_left
  · simp only [Act.put, List.setIfInBounds_toArray, List.set_cons_zero, List.set_cons_succ, i64_w, i32_w]
    rfl
  refine pure_ (i := 11) (N := some 95) (v := ?_) (a' := ?_) #[true, true, true, true, true, true, true, true, true, true, true, true, false, false, false, false, false, false] rfl rfl (any_of HT_.out (by kernel_rfl)) (fun _ _ _ h => h) (Or.inl ⟨by rfl, ?_⟩) ?_ ?_
  rotate_left
  · intro w'
    go_simp
    with_reducible rfl
  rotate_left
  · simp only [Act.put, List.setIfInBounds_toArray, List.set_cons_zero, List.set_cons_succ, i64_w, i32_w]
    rfl
  refine pure_ (i := 12) (N := some 96) (v := ?_) (a' := ?_) #[true, true, true, true, true, true, true, true, true, true, true, true, true, false, false, false, false, false] rfl rfl (any_of HT_.out (by kernel_rfl)) (fun _ _ _ h => h) (Or.inl ⟨by rfl, ?_⟩) ?_ ?_
  rotate_left
  · intro w'
    go_simp
    with_reducible rfl
  rotate_left
  · simp only [Act.put, List.setIfInBounds_toArray, List.set_cons_zero, List.set_cons_succ, i64_w, i32_w]
    rfl
  refine pure_ (i := 13) (N := some 97) (v := ?_) (a' := ?_) #[true, true, true, true, true, true, true, true, true, true, true, true, true, true, false, false, false, false] rfl rfl (any_of HT_.out (by kernel_rfl)) (fun _ _ _ h => h) (Or.inl ⟨by rfl, ?_⟩) ?_ ?_
  rotate_left
  · intro w'
    go_simp
    with_reducible rfl
  rotate_left
  · simp only [Act.put, List.setIfInBounds_toArray, List.set_cons_zero, List.set_cons_succ, i64_w, i32_w]
    rfl
  refine one_ (i := 14) (N := some 98) #[true, true, true, true, true, true, true, true, true, true, true, true, true, true, true, false, false, false] rfl rfl (one_of HT_.out (by kernel_rfl)) (by decide) (fun K hK => ?_)
  refine goes_ Tryd.func19 (by kernel_rfl) rfl #[.pointer (some ⟨gh, 0, none⟩), .slice (some ⟨g, 0, none⟩) 65 65, .int .i64 0] (by rfl) rfl rfl (by (try simp only [List.map_toArray, List.map_cons, List.map_nil]); first | done | rfl) ?_
  refine (rproof_calls gh (some ⟨g, 0, none⟩) 65 kB 0 _ HG13.out (rowAll HK13.out) (by rw [kBl]; omega) kBb (by rw [kBl]; omega) (by rw [kBl]; decide)).mono ?_
  rintro e w14 ⟨v, rfl, ho, hb⟩
  refine ⟨_, rfl, ?_⟩
  have hS1 := hHeld.trans (Mov.of_below hb)
  rw [HP2.out] at ho
  obtain ⟨A2, c2, rfl, hc2, hr2⟩ := Kd.R_reads ho
  have HC2 := Aside0.mk hr2
  have HPC2 := Aside0.mk hc2
  have HF14 := Aside0.mk (HF13.out.below hb)
  have HB14 := Aside0.mk (below_step HB13.out hb)
  have HG14 := Aside0.mk (Go.Proofs.YtoiblfmlahedlaaDoor.As.heap_keep HG13.out hb)
  have HK14 := Aside0.mk (Go.Proofs.YtoiblfmlahedlaaDoor.As.heap_keep HK13.out hb)
  clear hb ho hr2 hc2
  refine hK.out _ _ (by exact hS1) (fun hHeld => ?_)
  clear hK K
  refine norm_ (a' := ?_) ?_ ?_
  rotate_left
  · first
    | (show Act.put _ (some 98) _ = _; simp only [Act.put, List.setIfInBounds_toArray, List.set_cons_zero, List.set_cons_succ, i64_w, i32_w]; rfl)
    | rfl
  refine one_ (i := 15) (N := some 99) #[true, true, true, true, true, true, true, true, true, true, true, true, true, true, true, true, false, false] rfl rfl (one_of HT_.out (by kernel_rfl)) (by decide) (fun K hK => ?_)
  refine goes_ Tryd.func15 (by kernel_rfl) rfl #[.pointer (some ⟨a.p, 0, none⟩), .int .i64 7, .int .i64 0, .slice (some ⟨g, 0, none⟩) 64 65, .slice A2 P2.length c2] (by rfl) rfl rfl (by (try simp only [List.map_toArray, List.map_cons, List.map_nil]); first | done | rfl) ?_
  refine (hear_calls (r := 0) (s' := kS6 R) (K' := kK2) (l := List.replicate 64 0) (p := P2) HF14.out HIN.out (by omega) (HT.out.below HB14.out) (rowLo HK14.out) z64b (by decide) HC2.out HP2R.out ⟨HPC2.out, HP2L.out⟩ KH3.out).mono ?_
  rintro e w15 ⟨rfl, hfw, hm⟩
  refine ⟨_, rfl, ?_⟩
  have hS1 := hHeld.trans hm
  have HF15 := Aside0.mk hfw
  have HL14 := Nat.le_trans HLO.out.2.2.2 hHeld.size
  have HB15 := Aside0.mk (hm.held HB14.out HLO.out.2.2.1 HL14)
  have HG15 := Aside0.mk (hm.keep HLO.out.2.1 HG14.out)
  have HK15 := Aside0.mk (hm.keep HLO.out.1 HK14.out)
  clear hfw hm HL14
  refine hK.out _ _ (by exact hS1) (fun hHeld => ?_)
  clear hK K
  refine norm_ (a' := ?_) ?_ ?_
  rotate_left
  · first
    | (show Act.put _ (some 99) _ = _; simp only [Act.put, List.setIfInBounds_toArray, List.set_cons_zero, List.set_cons_succ, i64_w, i32_w]; rfl)
    | rfl
  refine pure_ (i := 16) (N := some 100) (v := ?_) (a' := ?_) #[true, true, true, true, true, true, true, true, true, true, true, true, true, true, true, true, true, false] rfl rfl (any_of HT_.out (by kernel_rfl)) (fun _ _ _ h => h) (Or.inl ⟨by rfl, ?_⟩) ?_ ?_
  rotate_left
  · intro w'
    go_simp
    with_reducible rfl
  rotate_left
  · simp only [Act.put, List.setIfInBounds_toArray, List.set_cons_zero, List.set_cons_succ, i64_w, i32_w]
    rfl
  refine pure_ (i := 17) (N := some 101) (v := ?_) (a' := ?_) #[true, true, true, true, true, true, true, true, true, true, true, true, true, true, true, true, true, true] rfl rfl (any_of HT_.out (by kernel_rfl)) (fun _ _ _ h => h) (Or.inl ⟨by rfl, ?_⟩) ?_ ?_
  rotate_left
  · intro w'
    go_simp
    with_reducible rfl
  rotate_left
  · simp only [Act.put, List.setIfInBounds_toArray, List.set_cons_zero, List.set_cons_succ, i64_w, i32_w]
    rfl
  refine done_ (done_of HT_.out (by kernel_rfl)) ?_
  have hHH := hHeld
  clear hHeld HT_ HW_ hS0 HFd HGd HKd HBd
  go_wp2_with fail
  refine (blob_calls (r := some kB) HF15.out (by omega) (HT.out.below HB15.out) KB4.out).mono ?_
  rintro e w16 ⟨v, rfl, _, ho, hb⟩
  obtain ⟨A3, c3, rfl, hc3, hr3⟩ := Kd.R_reads (ho kB rfl)
  have HF16 := Aside0.mk (HF15.out.below hb)
  have HB16 := Aside0.mk (below_step HB15.out hb)
  have HK16 := Aside0.mk (Go.Proofs.YtoiblfmlahedlaaDoor.As.heap_keep HK15.out hb)
  have HL16 := Aside0.mk (show lo ≤ w16.heap.size from Nat.le_trans (Nat.le_trans HLO.out.2.2.2 hHH.size) hb.size)
  have hcv1 : (convert 22 9 (.slice A3 kB.length c3)).run Tryd.prog w16 = .ok (.string (strOfNums kB)) w16 := Kd.C_string Tryd.underlying22 Tryd.underlying5 Tryd.underlying9 hr3
  have hcv2 : (convert 22 9 (.slice (some ⟨g, 0, none⟩) 65 65)).run Tryd.prog w16 = .ok (.string (strOfNums kB)) w16 := Kd.C_string Tryd.underlying22 Tryd.underlying5 Tryd.underlying9 (rowAll HK16.out)
  rw [kBl] at hcv1 ⊢
  generalize strOfNums kB = sb at hcv1 hcv2
  clear ho hb hr3 hHH HF15 HB15 HK15 HG15
  go_wp2_with fail
  refine (hear_calls (r := 7) (s' := kS6 R) (K' := kK2) (l := List.replicate 64 0) (p := []) HF16.out HIN.out (by omega) (HT.out.below HB16.out) (rowLo HK16.out) z64b (by decide) (Kd.C_nil _ _) (by intro y hy; cases hy) (by decide) (kh5 R)).mono ?_
  rintro e w17 ⟨rfl, hfw, hm⟩
  have HB17 := Aside0.mk (hm.held HB16.out HLO.out.2.2.1 HL16.out)
  clear hfw hm hcv1 hcv2
  go_wp2
  go_ret
  exact ⟨rfl, HB17.out⟩
end Go.Proofs.YtoiblfmlahedlaaDoor.Fe
end
section
namespace Go.Proofs.YtoiblfmlahedlaaDoor.Fe
open Go.RowKit Go.Proofs.YtoiblfmlahedlaaDoorW.PrintWords Go.Proofs.YtoiblfmlahedlaaDoorW.PrintLast Go.Proofs.YtoiblfmlahedlaaDoorW.PrintMore
set_option linter.unusedVariables false
set_option linter.unusedSimpArgs false
set_option maxRecDepth 100000
open Go.Proofs.YtoiblfmlahedlaaDoor.As (St ks0 mayB inB badS nextF)
open Go.Proofs.YtoiblfmlahedlaaDoor.Sha (cb vd countN rootOf checkB B KD isRow)
open Go.Proofs.YtoiblfmlahedlaaDoor.Ref (new_calls rroot_calls)
end Go.Proofs.YtoiblfmlahedlaaDoor.Fe
end
section
namespace Go.Proofs.YtoiblfmlahedlaaDoor.Fe
open Go.RowKit Go.Proofs.YtoiblfmlahedlaaDoorW.PrintWords Go.Proofs.YtoiblfmlahedlaaDoorW.PrintLast Go.Proofs.YtoiblfmlahedlaaDoorW.PrintMore
set_option linter.unusedVariables false
set_option linter.unusedSimpArgs false
set_option maxRecDepth 100000
open Go.Proofs.YtoiblfmlahedlaaDoor.As (St ks0 mayB inB badS nextF U hadS hadR stOf leftF upd isIn upd_same upd_other)
open Go.Proofs.YtoiblfmlahedlaaDoor.Sha (cb vd countN rootOf checkB B KD isRow chunkL proofOf prove_yes)
open Go.Proofs.YtoiblfmlahedlaaDoor.Ref (new_calls rroot_calls rproof_calls rchunk_calls)
theorem chunk_in {l : List Int} (h : Sha.bytes l) (i : Nat) : Sha.bytes (chunkL l i) := fun x hx => h x (by
  unfold chunkL at hx
  exact List.mem_of_mem_take (List.mem_of_mem_drop hx))
theorem chunk_le (l : List Int) (i : Nat) : (chunkL l i).length ≤ 64 := by
  unfold chunkL
  rw [List.length_drop, List.length_take]
  omega
theorem R_mov {α : Type} {d : Kd α} {e : Nat} {w w' : World} {base lo hi : Nat} {v : Value} {xs : List α} (h : Kd.R d e w base (fun _ => True) v xs) (hm : Mov lo hi w w') (hb : hi ≤ base) : Kd.R d e w' base (fun _ => True) v xs :=
  Kd.R_mono (Kd.R_step (Kd.R_bound h) (fun k hk hlt => hm.block k hlt (Or.inr (by have := hk.2.1; omega)))) (fun _ _ => trivial)
theorem mod_nat (x : Int) (L : Nat) (h0 : 0 < L) (h1 : L ≤ 1000) : ∃ kk : Nat, kk < L ∧ wrap64 ((IntKind.u64.wrap x).tmod (L : Int)) = kk := by
  have hw : 0 ≤ IntKind.u64.wrap x := by
    simp only [IntKind.wrap, IntKind.bits, IntKind.signed]
    simp
    omega
  obtain ⟨y, hy⟩ := Int.eq_ofNat_of_zero_le hw
  rw [hy]
  have h2 : ((y : Int).tmod (L : Int)) = ((y % L : Nat) : Int) := by simp [Int.tmod]
  have h3 := Nat.mod_lt y h0
  rw [h2]
  exact ⟨y % L, h3, by unfold wrap64; omega⟩
end Go.Proofs.YtoiblfmlahedlaaDoor.Fe
end
section
namespace Go.Proofs.YtoiblfmlahedlaaDoor.Fe
open Go.RowKit Go.Proofs.YtoiblfmlahedlaaDoorW.PrintWords Go.Proofs.YtoiblfmlahedlaaDoorW.PrintLast Go.Proofs.YtoiblfmlahedlaaDoorW.PrintMore
set_option linter.unusedVariables false
set_option linter.unusedSimpArgs false
set_option maxRecDepth 100000
open Go.Proofs.YtoiblfmlahedlaaDoor.Sha (cb vd countN rootOf checkB B KD isRow chunkL proofOf getB cell_of)
open Go.Proofs.YtoiblfmlahedlaaDoor.Ref (new_calls rroot_calls rproof_calls rchunk_calls)
open Go.Proofs.YtoiblfmlahedlaaDoor.As (heap_keep heap_new)
def OB (w : World) (g : Nat) (l : List Int) : Prop := ∃ cur : Array Value, w.heap[g]? = some (.cells cur 5 (0, 0)) ∧ ∀ (j : Nat) (x : Int), l[j]? = some x → cur[j]? = some (.int .u8 x)
theorem OB.of {w : World} {base : Nat} {ok : Nat → Prop} {v : Value} {xs : List Int} (h : Kd.R B 5 w base ok v xs) (hp : 0 < xs.length) : ∃ g cap, v = .slice (some ⟨g, 0, none⟩) xs.length cap ∧ base ≤ g ∧ xs.length ≤ cap ∧ OB w g xs := by
  obtain ⟨g, cap, rfl, hb, _, cells, hc⟩ := Kd.R_form h hp
  refine ⟨g, cap, rfl, hb, (Kd.R_reads' h).2.1, cells, hc, fun j x hj => ?_⟩
  have hl := (List.getElem?_eq_some_iff.1 hj).1
  obtain ⟨ad, e, hx⟩ := getB (Kd.R_reads' h).2.2 j hl
  injection e with e
  subst e
  rw [show (Addr.mk g 0 none).add j = ⟨g, j, none⟩ by simp [Addr.add_lit]] at hx
  have h2 := (cell_of hc).1 hx
  rw [h2]
  unfold rd
  rw [Int.toNat_natCast, List.getD_eq_getElem?_getD, hj]
  rfl
theorem OB.cell {w : World} {g : Nat} {l : List Int} (h : OB w g l) (j : Nat) (hj : j < l.length) : w.cell? ⟨g, j, none⟩ = some (.int .u8 (l.getD j 0)) ∧ w.frozen? ⟨g, j, none⟩ = false := by
  obtain ⟨cur, h1, h2⟩ := h
  have h3 := h2 j (l.getD j 0) (by rw [List.getD_eq_getElem?_getD, List.getElem?_eq_getElem hj]; rfl)
  exact ⟨(cell_of h1).2 h3, by simp [World.frozen?, h1]⟩
theorem OB.set {w : World} {g : Nat} {l : List Int} (h : OB w g l) (j : Nat) (hj : j < l.length) (y : Int) : OB (w.setCell ⟨g, j, none⟩ (.int .u8 y)) g (l.set j y) := by
  obtain ⟨cur, h1, h2⟩ := h
  refine ⟨_, blk_set h1 j _, fun i x hx => ?_⟩
  rw [List.getElem?_set] at hx
  by_cases hij : j = i
  · subst hij
    rw [if_pos rfl, if_pos hj] at hx
    cases hx
    have h3 := h2 j (l.getD j 0) (by rw [List.getD_eq_getElem?_getD, List.getElem?_eq_getElem hj]; rfl)
    rw [Array.getElem?_setIfInBounds_self_of_lt (Array.getElem?_eq_some_iff.1 h3).1]
  · rw [if_neg hij] at hx
    rw [Array.getElem?_setIfInBounds_ne hij]
    exact h2 i x hx
theorem OB.C {w : World} {g : Nat} {l : List Int} (h : OB w g l) (hn : l.length ≤ 1000000) : B.C w (some ⟨g, 0, none⟩) l.length l := by
  obtain ⟨cur, h1, h2⟩ := h
  refine ⟨rfl, by omega, fun _ => ⟨_, rfl, fun j x hx => ⟨[.int .u8 x], rfl, by rfl, fun i u hu => ?_⟩⟩⟩
  rcases i with _ | i
  · simp at hu
    subst hu
    have := h2 j x hx
    rw [show (Addr.mk g 0 none).add (j * B.sz + 0) = ⟨g, j, none⟩ by
      rw [show j * B.sz + 0 = j by show j * 1 + 0 = j; omega]
      simp [Addr.add_lit]]
    simp [World.cell?, h1, this]
  · simp at hu
theorem OB.below {w w' : World} {g : Nat} {l : List Int} (h : OB w g l) (hb : Below w.heap.size w w') : OB w' g l := by
  obtain ⟨cur, h1, h2⟩ := h
  exact ⟨cur, heap_keep h1 hb, h2⟩
theorem proof_len' {l : List Int} {i : Nat} (h : l.length ≤ 6000) : (proofOf l i).length < 1000000 := by
  have := Sha.proofP_le2 (Sha.leavesL l) i
  rw [Sha.leavesL_len] at this
  unfold proofOf
  have h : countN l.length ≤ 100 := by unfold countN; omega
  omega
theorem mov_set (w : World) (g j : Nat) (v : Value) : Mov g (g + 1) w (w.setCell ⟨g, j, none⟩ v) :=
  ⟨rfl, rfl, rfl, by simp [World.setCell], fun k hk hx => Below.heap_setCell w ⟨g, j, none⟩ v k (by show k ≠ g; omega)⟩
theorem set_bytes {l : List Int} (h : Sha.bytes l) (i : Nat) {y : Int} (hy : 0 ≤ y ∧ y < 256) : Sha.bytes (l.set i y) := fun z hz => by
  rcases List.mem_or_eq_of_mem_set hz with h1 | h1
  · exact h z h1
  · subst h1; exact hy
theorem wrap_u8 (x : Int) : 0 ≤ IntKind.u8.wrap x ∧ IntKind.u8.wrap x < 256 := by rw [IntKind.wrap_u8]; omega
def GivenPost (w : World) (e : Ending) (w' : World) : Prop := ∃ A1 c1 A2 c2 lb pf, e = .returned (.tuple #[.slice A1 (lb : List Int).length c1, .slice A2 (pf : List (List Int)).length c2]) ∧ B.C w' A1 lb.length lb ∧ lb.length ≤ c1 ∧ Sha.bytes lb ∧ lb.length ≤ 1000000 ∧ KD.C w' A2 pf.length pf ∧ pf.length ≤ c2 ∧ isRow pf ∧ pf.length < 1000000 ∧ Below w.heap.size w w'
abbrev cAsk (A0 : Option Addr) (n0 c0 : Nat) (wr : Bool) (A2 : Option Addr) (n2 c2 : Nat) (win tm bu be : Int) : Array Value := #[.slice A0 n0 c0, .bool wr, .slice A2 n2 c2, .int .i64 win, .int .i64 tm, .int .i64 bu, .int .i64 be]
abbrev cOp (kd xi xp xn : Int) (A4 : Option Addr) (n4 c4 : Nat) : Array Value := #[.int .i64 kd, .int .i64 xi, .int .i64 xp, .int .i64 xn, .slice A4 n4 c4]
theorem op_cu {w : World} {g : Nat} {kd xi xp xn : Int} {A4 : Option Addr} {n4 c4 : Nat} (h : w.heap[g]? = some (.cells (cOp kd xi xp xn A4 n4 c4) 38 (0, 0))) :
    w.cell? ⟨g, 0, none⟩ = some (.int .i64 kd) ∧ w.cell? ⟨g, 1, none⟩ = some (.int .i64 xi) ∧ w.cell? ⟨g, 2, none⟩ = some (.int .i64 xp) ∧ w.cell? ⟨g, 3, none⟩ = some (.int .i64 xn) ∧ w.cell? ⟨g, 4, none⟩ = some (.slice A4 n4 c4) := by
  refine ⟨?_, ?_, ?_, ?_, ?_⟩ <;> simp [World.cell?, h]
theorem ask_cu {w : World} {g : Nat} {A0 : Option Addr} {n0 c0 : Nat} {wr : Bool} {A2 : Option Addr} {n2 c2 : Nat} {win tm bu be : Int} (h : w.heap[g]? = some (.cells (cAsk A0 n0 c0 wr A2 n2 c2 win tm bu be) 25 (0, 0))) :
    w.cell? ⟨g, 0, none⟩ = some (.slice A0 n0 c0) ∧ w.cell? ⟨g, 1, none⟩ = some (.bool wr) ∧ w.cell? ⟨g, 2, none⟩ = some (.slice A2 n2 c2) ∧ w.cell? ⟨g, 3, none⟩ = some (.int .i64 win) ∧ w.cell? ⟨g, 4, none⟩ = some (.int .i64 tm) ∧ w.cell? ⟨g, 5, none⟩ = some (.int .i64 bu) ∧ w.cell? ⟨g, 6, none⟩ = some (.int .i64 be) := by
  refine ⟨?_, ?_, ?_, ?_, ?_, ?_, ?_⟩ <;> simp [World.cell?, h]
def giv_T4 : Bool × List (List Nat × List Nat) := (true, [([], []), ([0], [0]), ([], []), ([2], [2]), ([1, 3], [1, 3]), ([], []), ([], []), ([6], [6]), ([], []), ([8], [8]), ([5, 7, 9, 4], [5, 7, 9]), ([4, 10, 0, 1, 2, 3, 4], [4]), ([10, 11, 0, 1, 2, 3, 4, 5, 6, 7, 8, 9, 10, 11], [10])])
def giv_B4 : List Nat := [0, 1, 0, 4, 15, 0, 0, 64, 0, 256, 1023, 2047, 4095]
theorem giv_tab4 : rtab .any (opsOf Tryd.f14 4) = giv_T4 := by kernel_rfl
theorem giv_bits4 : waitsOk giv_T4.2 giv_B4 = true := by kernel_rfl
def giv_T8 : Bool × List (List Nat × List Nat) := (true, [([], []), ([], []), ([1], [1]), ([], []), ([3], [3]), ([4], [4]), ([], []), ([5, 6], [5, 6]), ([0, 2, 7], [0, 2, 7]), ([8, 8, 0, 1, 2, 3, 4, 5, 6, 7, 8], [8])])
def giv_B8 : List Nat := [0, 0, 2, 0, 8, 24, 0, 120, 255, 511]
theorem giv_tab8 : rtab .any (opsOf Tryd.f14 8) = giv_T8 := by kernel_rfl
theorem giv_bits8 : waitsOk giv_T8.2 giv_B8 = true := by kernel_rfl
set_option maxHeartbeats 3200000 in
theorem given_calls {w : World} (gh : Nat) (l b : List Int) (A0 : Option Addr) (c0 : Nat) (wr : Bool) (A2 : Option Addr) (n2 c2 : Nat) (win tm bu be : Int) (kd xi xp xn : Int) (A4 : Option Addr) (c4 : Nat) (hg : w.heap[gh]? = some (.cells Go.Proofs.YtoiblfmlahedlaaDoor.Ref.hk 72 (0, 0)))
    (hC : B.C w A0 l.length l) (hc : l.length ≤ c0) (hb : Sha.bytes l) (hl : l.length ≤ 5001) (hC4 : B.C w A4 b.length b) (hc4 : b.length ≤ c4) (hb4 : Sha.bytes b) (hl4 : b.length ≤ 200) (hxi : -9223372036854775808 ≤ xi ∧ xi ≤ 9223372036854775807) :
    Calls Tryd.prog 14 #[.pointer (some ⟨gh, 0, none⟩), .agg (cAsk A0 l.length c0 wr A2 n2 c2 win tm bu be), .agg (cOp kd xi xp xn A4 b.length c4)] w (GivenPost w) := by
  have HG0 := Aside0.mk hg
  have HC := Aside0.mk hC
  have HC0 := Aside0.mk hc
  have HLB := Aside0.mk hb
  have HLL := Aside0.mk hl
  have HC4 := Aside0.mk hC4
  have HCC4 := Aside0.mk hc4
  have HB4 := Aside0.mk hb4
  have HL4 := Aside0.mk hl4
  have HXI := Aside0.mk hxi
  obtain ⟨n, hn⟩ : ∃ n, countN l.length = n := ⟨_, rfl⟩
  have HN := Aside0.mk hn
  have HN80 := Aside0.mk (show n ≤ 80 by rw [← hn]; unfold countN; omega)
  clear hg hC hc hb hl hC4 hc4 hb4 hl4 hxi hn
  go_enter Tryd.func14, Tryd.ntmps14
  go_upto_region 1 with (fail)
  obtain ⟨gx, hgx⟩ : ∃ g, w.heap.size = g := ⟨_, rfl⟩
  obtain ⟨w1, hw1⟩ : ∃ w1, w.alloc (.cells (cAsk A0 l.length c0 wr A2 n2 c2 win tm bu be) 25) = w1 := ⟨_, rfl⟩
  have hx1 : w1.heap[w.heap.size]? = some (.cells (cAsk A0 l.length c0 wr A2 n2 c2 win tm bu be) 25 (0, 0)) := by rw [← hw1]; exact heap_new _ _
  have hb1 : Below w.heap.size w w1 := by rw [← hw1]; exact (Below.refl _ _).alloc (Nat.le_refl _) _
  rw [hw1]
  have hs1 : w1.heap.size = w.heap.size + 1 := by rw [← hw1]; simp [World.alloc, -World.alloc_eq]
  obtain ⟨go, hgo⟩ : ∃ g, w.heap.size + 1 = g := ⟨_, rfl⟩
  obtain ⟨w2, hw2⟩ : ∃ w2, w1.alloc (.cells (cOp kd xi xp xn A4 b.length c4) 38) = w2 := ⟨_, rfl⟩
  have ho2 : w2.heap[w1.heap.size]? = some (.cells (cOp kd xi xp xn A4 b.length c4) 38 (0, 0)) := by rw [← hw2]; exact heap_new _ _
  have hb2 : Below w1.heap.size w1 w2 := by rw [← hw2]; exact (Below.refl _ _).alloc (Nat.le_refl _) _
  rw [hw2]
  have HB2 := Aside0.mk (below_step hb1 hb2)
  have HX2 := Aside0.mk (heap_keep hx1 hb2)
  have HG2 := Aside0.mk (heap_keep HG0.out (below_step hb1 hb2))
  have HC2 := Aside0.mk (Kd.C_below HC.out (below_step hb1 hb2))
  have HC42 := Aside0.mk (Kd.C_below HC4.out (below_step hb1 hb2))
  rw [hs1, hgo] at ho2
  rw [hgo]
  rw [hgx] at HX2 ⊢
  have HGX := Aside0.mk hgx
  have HO2 := Aside0.mk ho2
  obtain ⟨a0, _⟩ := ask_cu HX2.out
  obtain ⟨o0, o1, _, _, o4⟩ := op_cu HO2.out
  clear hw1 hx1 hb1 hw2 ho2 hb2 hgx hgo hs1 HG0 HC HC4
  go_wp2_with fail
  refine (Go.Proofs.YtoiblfmlahedlaaDoor.Ref.rcount_calls l.length _ (by have := HLL.out; omega)).mono ?_
  rintro e w3 ⟨rfl, hw⟩
  replace hw := hw.symm
  subst hw
  rw [HN.out]
  by_cases hk4 : kd = 4 ∨ xi < 0 ∨ (n : Int) ≤ xi
  · have hq : (((kd == 4) || decide (xi < 0)) || decide (xi ≥ (n : Int))) = true := by
      simp only [Bool.or_eq_true, beq_iff_eq, decide_eq_true_eq]
      omega
    obtain ⟨q1, e1⟩ : ∃ q, (kd == 4) = q := ⟨_, rfl⟩
    obtain ⟨q2, e2⟩ : ∃ q, decide (xi < 0) = q := ⟨_, rfl⟩
    obtain ⟨q3, e3⟩ : ∃ q, decide (xi ≥ (n : Int)) = q := ⟨_, rfl⟩
    have e4 : decide ((n : Int) ≤ xi) = q3 := e3
    rw [e1, e2, e3] at hq
    clear hk4
    rcases q1 with _ | _
    rotate_left
    · clear hq
      go_wp2
      go_ret2
      exact ⟨A4, c4, none, 0, b, [], rfl, HC42.out, HCC4.out, HB4.out, by have := HL4.out; omega, Kd.C_nil _ _, by simp, (fun y hy => by cases hy), by decide, HB2.out⟩
    rcases q2 with _ | _
    rotate_left
    · clear hq
      go_wp2
      go_ret2
      exact ⟨A4, c4, none, 0, b, [], rfl, HC42.out, HCC4.out, HB4.out, by have := HL4.out; omega, Kd.C_nil _ _, by simp, (fun y hy => by cases hy), by decide, HB2.out⟩
    rcases q3 with _ | _
    · exact absurd hq (by decide)
    clear hq
    go_wp2
    go_ret2
    exact ⟨A4, c4, none, 0, b, [], rfl, HC42.out, HCC4.out, HB4.out, by have := HL4.out; omega, Kd.C_nil _ _, by simp, (fun y hy => by cases hy), by decide, HB2.out⟩
  obtain ⟨ix, rfl⟩ := Int.eq_ofNat_of_zero_le (show 0 ≤ xi by omega)
  have HIX := Aside0.mk (show ix < n by omega)
  have e1 : (kd == 4) = false := by rw [beq_eq_false_iff_ne]; omega
  have e2 : decide ((ix : Int) < 0) = false := decide_eq_false (by omega)
  have e3 : decide ((ix : Int) ≥ (n : Int)) = false := decide_eq_false (by omega)
  have e4 : decide (n ≤ ix) = false := decide_eq_false (by omega)
  clear hk4
  go_upto_region 4 with (fail)
  have hS0 := below_drew1 (Below.refl w2.heap.size w2)
  clear e1 e2 e3 e4 o0 o1 o4 a0
  refine start_ (n := 13) (S := fun w' => Below w2.heap.size w2 w') (ds := []) #[false, false, false, false, false, false, false, false, false, false, false, false, false] (by kernel_rfl) rfl rfl (by exact hS0) (fun hHeld => ?_)
  refine with_tabW giv_tab4 giv_bits4 (fun HT_ HW_ => ?_)
  generalize w2.drew = wq at hHeld hS0 ⊢
  refine pure_ (i := 0) (N := some 31) (v := ?_) (a' := ?_) #[true, false, false, false, false, false, false, false, false, false, false, false, false] rfl rfl (any_of HT_.out (by kernel_rfl)) (fun _ _ _ h => h) (Or.inl ⟨by rfl, ?_⟩) ?_ ?_
  rotate_left
  · intro w'
    go_simp
    with_reducible rfl
  rotate_left
  · simp only [Act.put, List.setIfInBounds_toArray, List.set_cons_zero, List.set_cons_succ, i64_w, i32_w]
    rfl
  refine take_ (i := 1) (N := some 32) (v := ?_) (a' := ?_) #[true, true, false, false, false, false, false, false, false, false, false, false, false] rfl rfl (take_ofW HT_.out HW_.out (by kernel_rfl)) (fun _ _ _ h => h) (Or.inl ⟨by rfl, ?_⟩) hHeld ?_ ?_
  rotate_left
  · intro w' hSt
    obtain ⟨a0, _⟩ := ask_cu (heap_keep HX2.out hSt)
    obtain ⟨_, o1, _⟩ := op_cu (heap_keep HO2.out hSt)
    go_simp
    with_reducible rfl
  rotate_left
  · simp only [Act.put, List.setIfInBounds_toArray, List.set_cons_zero, List.set_cons_succ, i64_w, i32_w]
    rfl
  refine pure_ (i := 2) (N := some 33) (v := ?_) (a' := ?_) #[true, true, true, false, false, false, false, false, false, false, false, false, false] rfl rfl (any_of HT_.out (by kernel_rfl)) (fun _ _ _ h => h) (Or.inl ⟨by rfl, ?_⟩) ?_ ?_
  rotate_left
  · intro w'
    go_simp
    with_reducible rfl
  rotate_left
  · simp only [Act.put, List.setIfInBounds_toArray, List.set_cons_zero, List.set_cons_succ, i64_w, i32_w]
    rfl
  refine take_ (i := 3) (N := some 34) (v := ?_) (a' := ?_) #[true, true, true, true, false, false, false, false, false, false, false, false, false] rfl rfl (take_ofW HT_.out HW_.out (by kernel_rfl)) (fun _ _ _ h => h) (Or.inl ⟨by rfl, ?_⟩) hHeld ?_ ?_
  rotate_left
  · intro w' hSt
    obtain ⟨a0, _⟩ := ask_cu (heap_keep HX2.out hSt)
    obtain ⟨_, o1, _⟩ := op_cu (heap_keep HO2.out hSt)
    go_simp
    with_reducible rfl
  rotate_left
  · simp only [Act.put, List.setIfInBounds_toArray, List.set_cons_zero, List.set_cons_succ, i64_w, i32_w]
    rfl
  refine pure_ (i := 5) (N := some 36) (v := ?_) (a' := ?_) #[true, true, true, true, false, true, false, false, false, false, false, false, false] rfl rfl (any_of HT_.out (by kernel_rfl)) (fun _ _ _ h => h) (Or.inl ⟨by rfl, ?_⟩) ?_ ?_
  rotate_left
  · intro w'
    go_simp
    with_reducible rfl
  rotate_left
  · simp only [Act.put, List.setIfInBounds_toArray, List.set_cons_zero, List.set_cons_succ, i64_w, i32_w]
    rfl
  refine pure_ (i := 6) (N := some 37) (v := ?_) (a' := ?_) #[true, true, true, true, false, true, true, false, false, false, false, false, false] rfl rfl (any_of HT_.out (by kernel_rfl)) (fun _ _ _ h => h) (Or.inl ⟨by rfl, ?_⟩) ?_ ?_
  rotate_left
  · intro w'
    go_simp
    with_reducible rfl
  rotate_left
  · simp only [Act.put, List.setIfInBounds_toArray, List.set_cons_zero, List.set_cons_succ, i64_w, i32_w]
    rfl
  refine take_ (i := 7) (N := some 38) (v := ?_) (a' := ?_) #[true, true, true, true, false, true, true, true, false, false, false, false, false] rfl rfl (take_ofW HT_.out HW_.out (by kernel_rfl)) (fun _ _ _ h => h) (Or.inl ⟨by rfl, ?_⟩) hHeld ?_ ?_
  rotate_left
  · intro w' hSt
    obtain ⟨a0, _⟩ := ask_cu (heap_keep HX2.out hSt)
    obtain ⟨_, o1, _⟩ := op_cu (heap_keep HO2.out hSt)
    go_simp
    with_reducible rfl
  rotate_left
  · simp only [Act.put, List.setIfInBounds_toArray, List.set_cons_zero, List.set_cons_succ, i64_w, i32_w]
    rfl
  refine pure_ (i := 8) (N := some 39) (v := ?_) (a' := ?_) #[true, true, true, true, false, true, true, true, true, false, false, false, false] rfl rfl (any_of HT_.out (by kernel_rfl)) (fun _ _ _ h => h) (Or.inl ⟨by rfl, ?_⟩) ?_ ?_
  rotate_left
  · intro w'
    go_simp
    with_reducible rfl
  rotate_left
  · simp only [Act.put, List.setIfInBounds_toArray, List.set_cons_zero, List.set_cons_succ, i64_w, i32_w]
    rfl
  refine take_ (i := 9) (N := some 40) (v := ?_) (a' := ?_) #[true, true, true, true, false, true, true, true, true, true, false, false, false] rfl rfl (take_ofW HT_.out HW_.out (by kernel_rfl)) (fun _ _ _ h => h) (Or.inl ⟨by rfl, ?_⟩) hHeld ?_ ?_
  rotate_left
  · intro w' hSt
    obtain ⟨a0, _⟩ := ask_cu (heap_keep HX2.out hSt)
    obtain ⟨_, o1, _⟩ := op_cu (heap_keep HO2.out hSt)
    go_simp
    with_reducible rfl
  rotate_left
  · simp only [Act.put, List.setIfInBounds_toArray, List.set_cons_zero, List.set_cons_succ, i64_w, i32_w]
    rfl
  refine one_ (i := 4) (N := some 35) #[true, true, true, true, true, true, true, true, true, true, false, false, false] rfl rfl (one_of HT_.out (by kernel_rfl)) (by decide) (fun K hK => ?_)
  refine goes_ Tryd.func18 (by kernel_rfl) rfl #[.slice A0 l.length c0, .int .i64 (ix : Int)] (by rfl) rfl rfl (by (try simp only [List.map_toArray, List.map_cons, List.map_nil]); first | done | rfl) ?_
  refine (rchunk_calls A0 c0 l ix _ (Kd.C_below HC2.out hHeld) HC0.out (by have := HLL.out; omega) (by rw [HN.out]; exact HIX.out)).mono ?_
  rintro e w3 ⟨v, rfl, hob, hb⟩
  refine ⟨_, rfl, ?_⟩
  have hS1 := below_step hHeld hb
  have HCH3 := Aside0.mk hob
  clear hb hob
  refine hK.out _ _ (by exact hS1) (fun hHeld => ?_)
  clear hK K
  refine norm_ (a' := ?_) ?_ ?_
  rotate_left
  · first
    | (show Act.put _ (some 35) _ = _; simp only [Act.put, List.setIfInBounds_toArray, List.set_cons_zero, List.set_cons_succ, i64_w, i32_w]; rfl)
    | rfl
  refine one_ (i := 10) (N := some 41) #[true, true, true, true, true, true, true, true, true, true, true, false, false] rfl rfl (one_of HT_.out (by kernel_rfl)) (by decide) (fun K hK => ?_)
  refine goes_ Tryd.func19 (by kernel_rfl) rfl #[.pointer (some ⟨gh, 0, none⟩), .slice A0 l.length c0, .int .i64 (ix : Int)] (by rfl) rfl rfl (by (try simp only [List.map_toArray, List.map_cons, List.map_nil]); first | done | rfl) ?_
  refine (rproof_calls gh A0 c0 l ix _ (heap_keep HG2.out hHeld) (Kd.C_below HC2.out hHeld) HC0.out HLB.out (by have := HLL.out; omega) (by rw [HN.out]; exact HIX.out)).mono ?_
  rintro e w4 ⟨vp, rfl, hob, hb⟩
  refine ⟨_, rfl, ?_⟩
  have hS1 := below_step hHeld hb
  have HCH4 := Aside0.mk (Kd.R_below HCH3.out hb)
  have HPR4 := Aside0.mk hob
  clear hb hob
  refine hK.out _ _ (by exact hS1) (fun hHeld => ?_)
  clear hK K
  refine norm_ (a' := ?_) ?_ ?_
  rotate_left
  · first
    | (show Act.put _ (some 41) _ = _; simp only [Act.put, List.setIfInBounds_toArray, List.set_cons_zero, List.set_cons_succ, i64_w, i32_w]; rfl)
    | rfl
  refine pure_ (i := 11) (N := some 9) (v := ?_) (a' := ?_) #[true, true, true, true, true, true, true, true, true, true, true, true, false] rfl rfl (any_of HT_.out (by kernel_rfl)) (fun _ _ _ h => h) (Or.inl ⟨by rfl, ?_⟩) ?_ ?_
  rotate_left
  · intro w'
    go_simp
    with_reducible rfl
  rotate_left
  · simp only [Act.put, List.setIfInBounds_toArray, List.set_cons_zero, List.set_cons_succ, i64_w, i32_w]
    rfl
  refine pure_ (i := 12) (N := some 10) (v := ?_) (a' := ?_) #[true, true, true, true, true, true, true, true, true, true, true, true, true] rfl rfl (any_of HT_.out (by kernel_rfl)) (fun _ _ _ h => h) (Or.inl ⟨by rfl, ?_⟩) ?_ ?_
  rotate_left
  · intro w'
    go_simp
    with_reducible rfl
  rotate_left
  · simp only [Act.put, List.setIfInBounds_toArray, List.set_cons_zero, List.set_cons_succ, i64_w, i32_w]
    rfl
  refine done_ (done_of HT_.out (by kernel_rfl)) ?_
  have hHH := hHeld
  have HSQ := Aside0.mk hS0.size
  clear hS0 HT_ HW_ hHeld
  have HG4 := Aside0.mk (heap_keep HG2.out hHH)
  have HX4 := Aside0.mk (heap_keep HX2.out hHH)
  have HO4 := Aside0.mk (heap_keep HO2.out hHH)
  have HO2S := HO2
  have HC4' := Aside0.mk (Kd.C_below HC2.out hHH)
  have HB4' := Aside0.mk (below_step HB2.out hHH)
  have HS4 := Aside0.mk hHH.size
  clear hHH HG2 HX2 HO2 HC2 HC42
  have HCHB := Aside0.mk (chunk_in HLB.out ix)
  have HCHL := Aside0.mk (chunk_le l ix)
  have HPRR := Aside0.mk (Sha.proof_row l ix)
  have HPRL := Aside0.mk (proof_len' (l := l) (i := ix) (Nat.le_trans HLL.out (by decide)))
  generalize chunkL l ix = ch at HCH3 HCH4 HCHB HCHL
  generalize proofOf l ix = pf at HPR4 HPRR HPRL
  obtain ⟨AP, cP, rfl, hcP, hrP⟩ := Kd.R_reads HPR4.out
  have HCP := Aside0.mk hcP
  have HKP := Aside0.mk hrP
  clear hcP hrP
  obtain ⟨a0, _⟩ := ask_cu HX4.out
  obtain ⟨o0, o1, _, o3, _⟩ := op_cu HO4.out
  by_cases hk3 : kd = 3 ∧ 0 < ch.length
  · obtain ⟨rfl, hcl⟩ := hk3
    obtain ⟨gc, cc, rfl, hgc, hcc, hob⟩ := OB.of HCH4.out hcl
    have HOB := Aside0.mk hob
    have HCC := Aside0.mk hcc
    have HGC := Aside0.mk (show w2.heap.size ≤ gc ∧ gc + 1 ≤ w3.heap.size from ⟨Nat.le_trans HSQ.out hgc, Kd.R_lt HCH3.out gc rfl⟩)
    clear hob hcc hgc HCH4 HCH3
    have e1 : decide ((ch.length : Int) > 0) = true := decide_eq_true (by omega)
    have e2 : decide (0 < ch.length) = true := decide_eq_true hcl
    have e3 : (ch.length = 0) = False := by simp only [eq_iff_iff, iff_false]; omega
    have hc64 : ch.length ≤ 64 := HCHL.out
    obtain ⟨kk, hkk, hke⟩ := mod_nat xn ch.length hcl (by omega)
    obtain ⟨y0, hy0⟩ := HOB.out.cell kk hkk
    obtain ⟨y, hy⟩ : ∃ y, ch.getD kk 0 = y := ⟨_, rfl⟩
    rw [hy] at y0
    clear hy
    go_upto_region 7 with (fail)
    obtain ⟨z, hz⟩ : ∃ z, (y + 1) % 256 = z := ⟨_, rfl⟩
    rw [hz]
    obtain ⟨w5, hw5⟩ : ∃ w5, w4.setCell ⟨gc, kk, none⟩ (.int .u8 z) = w5 := ⟨_, rfl⟩
    have hm5 : Mov gc (gc + 1) w4 w5 := hw5 ▸ mov_set w4 gc kk (.int .u8 z)
    have hob5 : OB w5 gc (ch.set kk z) := hw5 ▸ HOB.out.set kk hkk z
    have hb5 : Below w2.heap.size w4 w5 := ⟨hm5.os, hm5.tape, hm5.output, hm5.size, fun k hk => hm5.block k (Nat.lt_of_lt_of_le hk HS4.out) (Or.inl (by have := HGC.out; omega))⟩
    have HO5 := Aside0.mk (hm5.keep (show go < gc by have h := (Array.getElem?_eq_some_iff.1 HO2S.out).1; have := HGC.out; omega) HO4.out)
    rw [hw5]
    clear o0 o1 o3
    obtain ⟨o0, o1, _, o3, _⟩ := op_cu HO5.out
    go_wp2
    go_ret2
    refine ⟨some ⟨gc, 0, none⟩, cc, AP, cP, ch.set kk z, pf, by rw [List.length_set]; rfl, ?_, ?_, ?_, ?_, ?_, HCP.out, HPRR.out, HPRL.out, ?_⟩
    · rw [List.length_set]
      have := hob5.C (by rw [List.length_set]; omega)
      rwa [List.length_set] at this
    · rw [List.length_set]; exact HCC.out
    · exact set_bytes HCHB.out kk (by omega)
    · rw [List.length_set]; omega
    · exact (Kd.R_reads' (R_mov HPR4.out hm5 HGC.out.2)).2.2
    · exact below_weaken HB4'.out HB2.out.size hb5
  obtain ⟨A1, c1, rfl, hc1, hr1⟩ := Kd.R_reads HCH4.out
  have HC1 := Aside0.mk hc1
  have HK1 := Aside0.mk hr1
  clear hc1 hr1 HCH4 HCH3 HPR4
  by_cases hk5 : kd = 5
  rotate_left
  · obtain ⟨q1, e1⟩ : ∃ q, (kd == 3) = q := ⟨_, rfl⟩
    obtain ⟨q2, e2⟩ : ∃ q, decide ((ch.length : Int) > 0) = q := ⟨_, rfl⟩
    have e3 : decide (0 < ch.length) = q2 := by rw [← e2]; exact decide_eq_decide.2 (by omega)
    have e4 : (kd == 5) = false := by rw [beq_eq_false_iff_ne]; exact hk5
    have hq : (q1 && q2) = false := by
      rw [← e1, ← e2]
      by_cases h3 : kd = 3
      · have h5 : ¬ 0 < ch.length := fun h => hk3 ⟨h3, h⟩
        have h0 : decide ((ch.length : Int) > 0) = false := decide_eq_false (by omega)
        rw [h0, Bool.and_false]
      · simp [h3]
    clear hk3 hk5
    rcases q1 with _ | _
    · clear hq
      go_wp2
      go_ret2
      exact ⟨A1, c1, AP, cP, ch, pf, rfl, HK1.out, HC1.out, HCHB.out, by have := HCHL.out; omega, HKP.out, HCP.out, HPRR.out, HPRL.out, HB4'.out⟩
    · rcases q2 with _ | _
      rotate_left
      · exact absurd hq (by decide)
      clear hq
      go_wp2
      go_ret2
      exact ⟨A1, c1, AP, cP, ch, pf, rfl, HK1.out, HC1.out, HCHB.out, by have := HCHL.out; omega, HKP.out, HCP.out, HPRR.out, HPRL.out, HB4'.out⟩
  subst hk5
  clear hk3
  have hn80 := HN80.out
  have hix : ix < n := HIX.out
  go_upto_region 8 with (fail)
  have hn0 : (n : Int) ≠ 0 := by omega
  have hn1 : n ≠ 0 := by omega
  obtain ⟨q, hq, hrem⟩ : ∃ q : Nat, q < n ∧ ((ix : Int) + 1).tmod (n : Int) = (q : Int) := ⟨(ix + 1) % n, Nat.mod_lt _ (by omega), by
    rw [show ((ix : Int) + 1) = ((ix + 1 : Nat) : Int) by omega]; simp [Int.tmod]⟩
  have HQ := Aside0.mk hq
  have hS0 := below_drew1 (Below.refl w4.heap.size w4)
  clear o0 o1 o3 a0 hq
  refine start_ (n := 10) (S := fun w' => Below w4.heap.size w4 w') (ds := []) #[false, false, false, false, false, false, false, false, false, false] (by kernel_rfl) rfl rfl (by exact hS0) (fun hHeld => ?_)
  refine with_tabW giv_tab8 giv_bits8 (fun HT_ HW_ => ?_)
  generalize w4.drew = wq2 at hHeld hS0 ⊢
  refine pure_ (i := 0) (N := some 66) (v := ?_) (a' := ?_) #[true, false, false, false, false, false, false, false, false, false] rfl rfl (any_of HT_.out (by kernel_rfl)) (fun _ _ _ h => h) (Or.inl ⟨by rfl, ?_⟩) ?_ ?_
  rotate_left
  · intro w'
    go_simp
    with_reducible rfl
  rotate_left
  · simp only [Act.put, List.setIfInBounds_toArray, List.set_cons_zero, List.set_cons_succ, i64_w, i32_w]
    rfl
  refine pure_ (i := 1) (N := some 67) (v := ?_) (a' := ?_) #[true, true, false, false, false, false, false, false, false, false] rfl rfl (any_of HT_.out (by kernel_rfl)) (fun _ _ _ h => h) (Or.inl ⟨by rfl, ?_⟩) ?_ ?_
  rotate_left
  · intro w'
    go_simp
    with_reducible rfl
  rotate_left
  · simp only [Act.put, List.setIfInBounds_toArray, List.set_cons_zero, List.set_cons_succ, i64_w, i32_w]
    rfl
  refine pure_ (i := 3) (N := some 69) (v := ?_) (a' := ?_) #[true, true, false, true, false, false, false, false, false, false] rfl rfl (any_of HT_.out (by kernel_rfl)) (fun _ _ _ h => h) (Or.inl ⟨by rfl, ?_⟩) ?_ ?_
  rotate_left
  · intro w'
    go_simp
    with_reducible rfl
  rotate_left
  · simp only [Act.put, List.setIfInBounds_toArray, List.set_cons_zero, List.set_cons_succ, i64_w, i32_w]
    rfl
  refine pure_ (i := 6) (N := some 72) (v := ?_) (a' := ?_) #[true, true, false, true, false, false, true, false, false, false] rfl rfl (any_of HT_.out (by kernel_rfl)) (fun _ _ _ h => h) (Or.inl ⟨by rfl, ?_⟩) ?_ ?_
  rotate_left
  · intro w'
    go_simp
    with_reducible rfl
  rotate_left
  · simp only [Act.put, List.setIfInBounds_toArray, List.set_cons_zero, List.set_cons_succ, i64_w, i32_w]
    rfl
  refine take_ (i := 2) (N := some 68) (v := ?_) (a' := ?_) #[true, true, true, true, false, false, true, false, false, false] rfl rfl (take_ofW HT_.out HW_.out (by kernel_rfl)) (fun _ _ _ h => h) (Or.inl ⟨by rfl, ?_⟩) hHeld ?_ ?_
  rotate_left
  · intro w' hSt
    obtain ⟨a0, _⟩ := ask_cu (heap_keep HX4.out hSt)
    obtain ⟨_, o1, _⟩ := op_cu (heap_keep HO4.out hSt)
    go_simp
    with_reducible rfl
  rotate_left
  · simp only [Act.put, List.setIfInBounds_toArray, List.set_cons_zero, List.set_cons_succ, i64_w, i32_w]
    rfl
  refine take_ (i := 4) (N := some 70) (v := ?_) (a' := ?_) #[true, true, true, true, true, false, true, false, false, false] rfl rfl (take_ofW HT_.out HW_.out (by kernel_rfl)) (fun _ _ _ h => h) (Or.inl ⟨by rfl, ?_⟩) hHeld ?_ ?_
  rotate_left
  · intro w' hSt
    obtain ⟨a0, _⟩ := ask_cu (heap_keep HX4.out hSt)
    obtain ⟨_, o1, _⟩ := op_cu (heap_keep HO4.out hSt)
    go_simp
    with_reducible rfl
  rotate_left
  · simp only [Act.put, List.setIfInBounds_toArray, List.set_cons_zero, List.set_cons_succ, i64_w, i32_w]
    rfl
  refine pure_ (i := 5) (N := some 71) (v := ?_) (a' := ?_) #[true, true, true, true, true, true, true, false, false, false] rfl rfl (any_of HT_.out (by kernel_rfl)) (fun _ _ _ h => h) (Or.inl ⟨by rfl, ?_⟩) ?_ ?_
  rotate_left
  · intro w'
    go_simp
    with_reducible rfl
  rotate_left
  · simp only [Act.put, List.setIfInBounds_toArray, List.set_cons_zero, List.set_cons_succ, i64_w, i32_w]
    rfl
  refine pure_ (i := 7) (N := some 73) (v := ?_) (a' := ?_) #[true, true, true, true, true, true, true, true, false, false] rfl rfl (any_of HT_.out (by kernel_rfl)) (fun _ _ _ h => h) (Or.inl ⟨by rfl, ?_⟩) ?_ ?_
  rotate_left
  · intro w'
    go_simp
    rw [show wrap64 ((ix : Int) + 1) = (ix : Int) + 1 by unfold wrap64; omega, hrem]
    try with_reducible rfl
  rotate_left
  · simp only [Act.put, List.setIfInBounds_toArray, List.set_cons_zero, List.set_cons_succ, i64_w, i32_w]
    rfl
  refine one_ (i := 8) (N := some 74) #[true, true, true, true, true, true, true, true, true, false] rfl rfl (one_of HT_.out (by kernel_rfl)) (by decide) (fun K hK => ?_)
  refine goes_ Tryd.func19 (by kernel_rfl) rfl #[.pointer (some ⟨gh, 0, none⟩), .slice A0 l.length c0, .int .i64 (q : Int)] (by rfl) rfl rfl (by (try simp only [List.map_toArray, List.map_cons, List.map_nil]); first | done | rfl) ?_
  refine (rproof_calls gh A0 c0 l q _ (heap_keep HG4.out hHeld) (Kd.C_below HC4'.out hHeld) HC0.out HLB.out (by have := HLL.out; omega) (by rw [HN.out]; exact HQ.out)).mono ?_
  rintro e w5 ⟨vp, rfl, hob, hb⟩
  refine ⟨_, rfl, ?_⟩
  have hS1 := below_step hHeld hb
  have HPR5 := Aside0.mk hob
  clear hb hob
  refine hK.out _ _ (by exact hS1) (fun hHeld => ?_)
  clear hK K
  refine norm_ (a' := ?_) ?_ ?_
  rotate_left
  · first
    | (show Act.put _ (some 74) _ = _; simp only [Act.put, List.setIfInBounds_toArray, List.set_cons_zero, List.set_cons_succ, i64_w, i32_w]; rfl)
    | rfl
  refine pure_ (i := 9) (N := some 10) (v := ?_) (a' := ?_) #[true, true, true, true, true, true, true, true, true, true] rfl rfl (any_of HT_.out (by kernel_rfl)) (fun _ _ _ h => h) (Or.inl ⟨by rfl, ?_⟩) ?_ ?_
  rotate_left
  · intro w'
    go_simp
    with_reducible rfl
  rotate_left
  · simp only [Act.put, List.setIfInBounds_toArray, List.set_cons_zero, List.set_cons_succ, i64_w, i32_w]
    rfl
  refine done_ (done_of HT_.out (by kernel_rfl)) ?_
  have hHH := hHeld
  clear hS0 HT_ HW_ hHeld
  obtain ⟨AQ, cQ, rfl, hcQ, hrQ⟩ := Kd.R_reads HPR5.out
  have HQR := Aside0.mk (Sha.proof_row l q)
  have HQL := Aside0.mk (proof_len' (l := l) (i := q) (Nat.le_trans HLL.out (by decide)))
  generalize proofOf l q = pq at hcQ hrQ HQR HQL
  have HKQ := Aside0.mk hrQ
  have HCQ := Aside0.mk hcQ
  have HK5 := Aside0.mk (Kd.C_below HK1.out hHH)
  have HB5 := Aside0.mk (below_step HB4'.out hHH)
  clear hrQ hcQ hHH
  go_wp2
  go_ret2
  exact ⟨A1, c1, AQ, cQ, ch, pq, rfl, HK5.out, HC1.out, HCHB.out, by have := HCHL.out; omega, HKQ.out, HCQ.out, HQR.out, HQL.out, HB5.out⟩
end Go.Proofs.YtoiblfmlahedlaaDoor.Fe
end
section
namespace Go.Proofs.YtoiblfmlahedlaaDoor.Fe
open Go.RowKit Go.Proofs.YtoiblfmlahedlaaDoorW.PrintWords Go.Proofs.YtoiblfmlahedlaaDoorW.PrintLast Go.Proofs.YtoiblfmlahedlaaDoorW.PrintMore
set_option linter.unusedVariables false
set_option linter.unusedSimpArgs false
set_option maxRecDepth 100000
open Go.Proofs.YtoiblfmlahedlaaDoor.Sha (cb vd countN rootOf checkB B KD isRow chunkL proofOf infoDg cb_size cb_one wpList_load_at)
open Go.Proofs.YtoiblfmlahedlaaDoor.Ref (new_calls rroot_calls rproof_calls rchunk_calls)
open Go.Proofs.YtoiblfmlahedlaaDoor.As (St ks0 heap_keep heap_new)
open Go.Proofs.YtoiblfmlahedlaaDoor.Open (OpB AskB)
abbrev z32 : Array Value := #[.int .u8 0, .int .u8 0, .int .u8 0, .int .u8 0, .int .u8 0, .int .u8 0, .int .u8 0, .int .u8 0, .int .u8 0, .int .u8 0, .int .u8 0, .int .u8 0, .int .u8 0, .int .u8 0, .int .u8 0, .int .u8 0, .int .u8 0, .int .u8 0, .int .u8 0, .int .u8 0, .int .u8 0, .int .u8 0, .int .u8 0, .int .u8 0, .int .u8 0, .int .u8 0, .int .u8 0, .int .u8 0, .int .u8 0, .int .u8 0, .int .u8 0, .int .u8 0]
abbrev KOp : Kd OpB := Open.k_t38
theorem row_op {w : World} {A : Option Addr} {n : Nat} {xs : List OpB} (h : KOp.C w A n xs) (k : Nat) (hk : k < n) (o : OpB) (ho : xs[k]? = some o) :
    ∃ ad A4 c4, A = some ad ∧ o.2.2.2.2.length ≤ c4 ∧ B.C w A4 o.2.2.2.2.length o.2.2.2.2 ∧ w.cell? (ad.add (k * 5)) = some (.int .i64 o.1) ∧ w.cell? ⟨(ad.add (k * 5)).block, (ad.add (k * 5)).off + 1, none⟩ = some (.int .i64 o.2.1) ∧ w.cell? ⟨(ad.add (k * 5)).block, (ad.add (k * 5)).off + 2, none⟩ = some (.int .i64 o.2.2.1) ∧ w.cell? ⟨(ad.add (k * 5)).block, (ad.add (k * 5)).off + 3, none⟩ = some (.int .i64 o.2.2.2.1) ∧ w.cell? ⟨(ad.add (k * 5)).block, (ad.add (k * 5)).off + 4, none⟩ = some (.slice A4 o.2.2.2.2.length c4) := by
  obtain ⟨ad, c, e, _, hK, hc0⟩ := Kd.C_get h ((0, 0, 0, 0, []) : OpB) (k : Int) (by omega) (by omega)
  simp only [Int.toNat_natCast] at hK hc0
  have hu2 : xs.getD k (0, 0, 0, 0, []) = o := by rw [List.getD_eq_getElem?_getD, ho]; rfl
  rw [hu2] at hK
  obtain ⟨A4, c4, rfl, l4, r4⟩ := Open.cells_OpB hK
  have a0 := hc0 0 _ rfl
  have a1 := hc0 1 _ rfl
  have a2 := hc0 2 _ rfl
  have a3 := hc0 3 _ rfl
  have a4 := hc0 4 _ rfl
  exact ⟨ad, A4, c4, e, l4, r4, a0, (congrArg w.cell? (add_field ad (k * 5) 1 (by omega))).symm.trans a1, (congrArg w.cell? (add_field ad (k * 5) 2 (by omega))).symm.trans a2, (congrArg w.cell? (add_field ad (k * 5) 3 (by omega))).symm.trans a3, (congrArg w.cell? (add_field ad (k * 5) 4 (by omega))).symm.trans a4⟩
set_option maxHeartbeats 3200000 in
theorem true_out (l ps : List Int) (A0 : Option Addr) (c0 : Nat) (wr0 : Bool) (A2 : Option Addr) (c2 : Nat) (win tm bu be : Int) (A : Option Addr) (n c : Nat) (w : World) (hT : Sha.Tab w) (h : ¬ (l.length ≤ 5000 ∧ ps.length ≤ 100 ∧ n ≤ 100)) :
    Calls Tryd.prog 3 #[.agg (cAsk A0 l.length c0 wr0 A2 ps.length c2 win tm bu be), .slice A n c] w fun e w' => e = .returned (.bool true) ∧ Below w.heap.size w w' := by
  have HT := Aside0.mk hT
  obtain ⟨x1, h1⟩ : ∃ x, decide ((l.length : Int) > 5000) = x := ⟨_, rfl⟩
  obtain ⟨x2, h2⟩ : ∃ x, decide ((ps.length : Int) > 100) = x := ⟨_, rfl⟩
  obtain ⟨x3, h3⟩ : ∃ x, decide ((n : Int) > 100) = x := ⟨_, rfl⟩
  have g1 : decide (5000 < l.length) = x1 := by rw [← h1]; exact decide_eq_decide.2 (by omega)
  have g2 : decide (100 < ps.length) = x2 := by rw [← h2]; exact decide_eq_decide.2 (by omega)
  have g3 : decide (100 < n) = x3 := by rw [← h3]; exact decide_eq_decide.2 (by omega)
  have hor : (x1 || x2 || x3) = true := by
    rw [← h1, ← h2, ← h3]
    simp only [Bool.or_eq_true, decide_eq_true_eq]
    omega
  clear hT h
  go_enter Tryd.func3, Tryd.ntmps3
  go_upto_region 1 with (fail)
  obtain ⟨gx, hgx⟩ : ∃ g, w.heap.size = g := ⟨_, rfl⟩
  obtain ⟨w1, hw1⟩ : ∃ w1, w.alloc (.cells (cAsk A0 l.length c0 wr0 A2 ps.length c2 win tm bu be) 25) = w1 := ⟨_, rfl⟩
  have hx1 : w1.heap[w.heap.size]? = some (.cells (cAsk A0 l.length c0 wr0 A2 ps.length c2 win tm bu be) 25 (0, 0)) := by rw [← hw1]; exact heap_new _ _
  have hb1 : Below w.heap.size w w1 := by rw [← hw1]; exact (Below.refl _ _).alloc (Nat.le_refl _) _
  rw [hw1]
  have HX1 := Aside0.mk (show w1.heap[gx]? = some (.cells (cAsk A0 l.length c0 wr0 A2 ps.length c2 win tm bu be) 25 (0, 0)) from hgx ▸ hx1)
  have HB1 := Aside0.mk hb1
  rw [hgx]
  have HGX := Aside0.mk hgx
  clear hw1 hx1 hb1 hgx
  obtain ⟨a0, a1, a2, a3, a4, a5, a6⟩ := ask_cu HX1.out
  rcases x1 with _ | _
  rotate_left
  · clear hor
    go_wp2_with fail
    refine (known_calls _ (HT.out.below HB1.out)).mono ?_
    rintro e w2 ⟨rfl, hb⟩
    have HB2 := Aside0.mk (below_step HB1.out hb)
    clear hb
    go_wp2
    go_ret
    exact ⟨rfl, HB2.out⟩
  rcases x2 with _ | _
  rotate_left
  · clear hor
    go_wp2_with fail
    refine (known_calls _ (HT.out.below HB1.out)).mono ?_
    rintro e w2 ⟨rfl, hb⟩
    have HB2 := Aside0.mk (below_step HB1.out hb)
    clear hb
    go_wp2
    go_ret
    exact ⟨rfl, HB2.out⟩
  rcases x3 with _ | _
  rotate_left
  · clear hor
    go_wp2_with fail
    refine (known_calls _ (HT.out.below HB1.out)).mono ?_
    rintro e w2 ⟨rfl, hb⟩
    have HB2 := Aside0.mk (below_step HB1.out hb)
    clear hb
    go_wp2
    go_ret
    exact ⟨rfl, HB2.out⟩
  exact absurd hor (by decide)
theorem blob_some {f : Cf} {s : St} {K : Nat → List Int} {b : List Int} (h : blobF f s K = some b) : b = cat K (countN f.L) ∧ b.length = f.L ∧ rootOf b = f.R := by
  unfold blobF at h
  split at h
  · cases h
  · split at h
    · rename_i h2
      cases h
      exact ⟨rfl, h2⟩
    · cases h
def tru_T18 : Bool × List (List Nat × List Nat) := (true, [([], []), ([0], [0]), ([], []), ([2], [2]), ([3], [3]), ([1, 4], [1, 4]), ([5], [5]), ([6], [6]), ([6], [6]), ([7, 8, 6, 6], [6, 7, 8]), ([6], [6]), ([9, 10, 6], [6, 9, 10]), ([6, 11], [6, 11]), ([12, 9], [12]), ([13, 13], [13]), ([13, 14], [13, 14]), ([15, 14, 0, 1, 2, 3, 4, 5, 6, 7, 8, 9, 10, 11, 12, 13, 14, 15], [15])])
def tru_B18 : List Nat := [0, 1, 0, 4, 12, 31, 63, 127, 127, 511, 127, 2047, 4095, 8191, 16383, 32767, 65535]
theorem tru_tab18 : rtab .any (opsOf Tryd.f3 18) = tru_T18 := by kernel_rfl
theorem tru_bits18 : waitsOk tru_T18.2 tru_B18 = true := by kernel_rfl
set_option maxHeartbeats 6400000 in
theorem true_in (l ps : List Int) (A0 : Option Addr) (c0 : Nat) (wr0 : Bool) (A2 : Option Addr) (c2 : Nat) (win tm bu be : Int) (A : Option Addr) (xs : List OpB) (c : Nat) (w : World) (hT : Sha.Tab w) (h : l.length ≤ 5000 ∧ ps.length ≤ 100 ∧ xs.length ≤ 100)
    (hC : B.C w A0 l.length l) (hc : l.length ≤ c0) (hb : Sha.bytes l) (hp : I.C w A2 ps.length ps) (hpw : ∀ x ∈ ps, -9223372036854775808 ≤ x ∧ x ≤ 9223372036854775807) (hbe : -9223372036854775808 ≤ be ∧ be ≤ 9223372036854775807) (hX : KOp.C w A xs.length xs) (hok : ∀ x ∈ xs, Open.okOpB x) :
    Calls Tryd.prog 3 #[.agg (cAsk A0 l.length c0 wr0 A2 ps.length c2 win tm bu be), .slice A xs.length c] w fun e w' => e = .returned (.bool true) ∧ Below w.heap.size w w' := by
  have HT := Aside0.mk hT
  have HC := Aside0.mk hC
  have HCC := Aside0.mk hc
  have HBY := Aside0.mk hb
  have HPP := Aside0.mk hp
  have HPW := Aside0.mk hpw
  have HBE := Aside0.mk hbe
  have HXS := Aside0.mk hX
  have HOK := Aside0.mk hok
  have HH := Aside0.mk h
  obtain ⟨hl, hps, hxs⟩ := h
  have h1 : decide ((l.length : Int) > 5000) = false := decide_eq_false (by omega)
  have h2 : decide ((ps.length : Int) > 100) = false := decide_eq_false (by omega)
  have h3 : decide ((xs.length : Int) > 100) = false := decide_eq_false (by omega)
  have g1 : decide (5000 < l.length) = false := decide_eq_false (by omega)
  have g2 : decide (100 < ps.length) = false := decide_eq_false (by omega)
  have g3 : decide (100 < xs.length) = false := decide_eq_false (by omega)
  clear hT hC hc hb hp hpw hbe hX hok hl hps
  go_enter Tryd.func3, Tryd.ntmps3
  go_upto_region 1 with (fail)
  obtain ⟨gx, hgx⟩ : ∃ g, w.heap.size = g := ⟨_, rfl⟩
  obtain ⟨w1, hw1⟩ : ∃ w1, w.alloc (.cells (cAsk A0 l.length c0 wr0 A2 ps.length c2 win tm bu be) 25) = w1 := ⟨_, rfl⟩
  have hx1 : w1.heap[w.heap.size]? = some (.cells (cAsk A0 l.length c0 wr0 A2 ps.length c2 win tm bu be) 25 (0, 0)) := by rw [← hw1]; exact heap_new _ _
  have hb1 : Below w.heap.size w w1 := by rw [← hw1]; exact (Below.refl _ _).alloc (Nat.le_refl _) _
  rw [hw1]
  have HX1 := Aside0.mk (show w1.heap[gx]? = some (.cells (cAsk A0 l.length c0 wr0 A2 ps.length c2 win tm bu be) 25 (0, 0)) from hgx ▸ hx1)
  have HB1 := Aside0.mk hb1
  rw [hgx]
  have HGX := Aside0.mk hgx
  clear hw1 hx1 hb1 hgx
  obtain ⟨a0, a1, a2, a3, a4, a5, a6⟩ := ask_cu HX1.out
  go_wp2_with fail
  clear h1 h2 h3 g1 g2 g3
  refine (new_calls _).mono ?_
  rintro e w2 ⟨gh, rfl, hgl, hgh, hb⟩
  have HG2 := Aside0.mk hgh
  have HX2 := Aside0.mk (heap_keep HX1.out hb)
  have HB2 := Aside0.mk (below_step HB1.out hb)
  clear hgl hgh hb HX1 HB1 a0 a1 a2 a3 a4 a5 a6
  obtain ⟨a0, a1, a2, a3, a4, a5, a6⟩ := ask_cu HX2.out
  go_wp2_with fail
  refine (rroot_calls gh A0 c0 l _ HG2.out (Kd.C_below HC.out HB2.out) HCC.out HBY.out (by have := HH.out.1; omega)).mono ?_
  rintro e w3 ⟨rfl, hb⟩
  have HRL := Aside0.mk (show (rootOf l).length = 32 by unfold rootOf Sha.rootI; exact Sha.shaI_len _)
  have HRB := Aside0.mk (show Sha.bytes (rootOf l) by unfold rootOf Sha.rootI; exact Sha.shaI_bytes _)
  have HG3 := Aside0.mk (heap_keep HG2.out hb)
  have HX3 := Aside0.mk (heap_keep HX2.out hb)
  have HB3 := Aside0.mk (below_step HB2.out hb)
  clear hb HX2 HB2 HG2 a0 a1 a2 a3 a4 a5 a6
  generalize rootOf l = R at HRL HRB ⊢
  go_upto_region 5 with (refine wpList_store_row rfl 31 (.tmp 6) (.tmp 35) rfl w3.heap.size (cb R) rfl rfl 31 _ (heap_new _ _) (infoDg _ HRL.out) (by rw [cb_size, HRL.out]; rfl) (cb_one _) ?_)
  obtain ⟨gt, hgt⟩ : ∃ g, w3.heap.size = g := ⟨_, rfl⟩
  obtain ⟨w4, hw4⟩ : ∃ w4, (w3.alloc (.cells z32 31)).setRow w3.heap.size (cb R) = w4 := ⟨_, rfl⟩
  have hz4 : w4.heap[w3.heap.size]? = some (.cells (cb R) 31 (0, 0)) := by rw [← hw4]; exact setRow_heap _ _ _ _ _ _ (heap_new _ _)
  have hb4 : Below w3.heap.size w3 w4 := by rw [← hw4]; exact below_setRow ((Below.refl _ _).alloc (Nat.le_refl _) _) (Nat.le_refl _) _
  rw [hw4]
  rw [hgt] at hz4 ⊢
  have HGT4 := Aside0.mk hz4
  have HG4 := Aside0.mk (heap_keep HG3.out hb4)
  have HX4 := Aside0.mk (heap_keep HX3.out hb4)
  have HB4 := Aside0.mk (below_step HB3.out hb4)
  have HD4 := Aside0.mk (box_load hz4 HRL.out)
  have HPS4 := Aside0.mk (Kd.C_below HPP.out HB4.out)
  clear hw4 hz4 hb4 hgt HG3 HX3 HB3
  obtain ⟨a0, a1, a2, a3, a4, a5, a6⟩ := ask_cu HX4.out
  go_wp2_with (((with_reducible refine gate_dst (N := 37) rfl ?_); refine wpList_load_at rfl (ty := 31) (x := .tmp 6) (p := .pointer (some ⟨gt, 0, none⟩)) (v := vd R) rfl rfl HD4.out ?_))
  clear a0 a1 a2 a3 a4 a5 a6 HD4
  rcases hm : fmayB l.length ps win tm bu with _ | _
  · have HM := Aside0.mk hm
    clear hm
    refine (fnew_no HRL.out HRB.out HPS4.out (by have := HH.out; omega) HPW.out HBE.out HM.out).mono ?_
    rintro e w5 ⟨rfl, hb⟩
    have HB5 := Aside0.mk (below_step HB4.out hb)
    clear hb
    go_wp2_with fail
    refine (known_calls _ (HT.out.below HB5.out)).mono ?_
    rintro e w6 ⟨rfl, hb⟩
    have HB6 := Aside0.mk (below_step HB5.out hb)
    clear hb
    go_wp2
    go_ret
    exact ⟨rfl, HB6.out⟩
  have hbu1 : 1 ≤ bu ∧ 1 ≤ l.length := by
    have hm2 := hm
    unfold fmayB at hm2
    split at hm2
    · omega
    · cases hm2
  have HM := Aside0.mk hm
  clear hm
  obtain ⟨bu, rfl⟩ := Int.eq_ofNat_of_zero_le (show 0 ≤ bu by omega)
  refine (fnew_yes HRL.out HRB.out HPS4.out (by have := HH.out; omega) HPW.out HBE.out HM.out).mono ?_
  rintro e w5 ⟨v, rfl, a, rfl, hfw, hin, hb⟩
  rw [Int.toNat_natCast, Int.toNat_natCast] at hfw
  obtain ⟨f, hf⟩ : ∃ f : Cf, ⟨R, l.length, ps, win, tm, bu, be⟩ = f := ⟨_, rfl⟩
  rw [hf] at hfw
  have HFD := Aside0.mk (show f.R = R ∧ f.L = l.length from ⟨by rw [← hf], by rw [← hf]⟩)
  have HF5 := Aside0.mk hfw
  have HIN := Aside0.mk hin
  have HB5 := Aside0.mk (below_step HB4.out hb)
  have HG5 := Aside0.mk (heap_keep HG4.out hb)
  have HX5 := Aside0.mk (heap_keep HX4.out hb)
  have HGT5 := Aside0.mk (heap_keep HGT4.out hb)
  have HLO := Aside0.mk (show w.heap.size ≤ w4.heap.size ∧ gh < w4.heap.size ∧ gx < w4.heap.size ∧ gt < w4.heap.size from ⟨HB4.out.size, (Array.getElem?_eq_some_iff.1 HG4.out).1, (Array.getElem?_eq_some_iff.1 HX4.out).1, (Array.getElem?_eq_some_iff.1 HGT4.out).1⟩)
  have HS5 := Aside0.mk hb.size
  have HL1 := Aside0.mk hbu1
  clear hfw hin hb hf HB4 HG4 HX4 HGT4 HPS4 HM hbu1
  go_wp2
  go_loopw [63] (fun v wr => ∃ (k cc : Nat) (s : St) (K : Nat → List Int), k ≤ xs.length ∧ v = .int .i64 (k : Int) ∧ Aside0 (cc ≤ 2 * k) ∧ Aside0 (FW wr a f cc s K) ∧ Aside0 (wr.heap[gh]? = some (.cells Go.Proofs.YtoiblfmlahedlaaDoor.Ref.hk 72 (0, 0))) ∧ Aside0 (wr.heap[gx]? = some (.cells (cAsk A0 l.length c0 wr0 A2 ps.length c2 win tm bu be) 25 (0, 0))) ∧ Aside0 (wr.heap[gt]? = some (.cells (cb R) 31 (0, 0))) ∧ Aside0 (w4.heap.size ≤ wr.heap.size) ∧ Aside0 (Below w.heap.size w wr)) (fun v _ => xs.length - (intOf v).toNat)
  case atStart => exact ⟨0, 0, _, _, Nat.zero_le _, rfl, ⟨by omega⟩, HF5, HG5, HX5, HGT5, HS5, HB5⟩
  case round =>
    clear HF5 HG5 HX5 HGT5 HB5 HS5
    obtain ⟨k, cc, s, K, hk, rfl, HCN, HF, HG, HX, HGT, HS, HB⟩ := hrel
    by_cases hlt : k < xs.length
    rotate_left
    · obtain rfl : k = xs.length := by omega
      have e1 : decide ((xs.length : Int) < (xs.length : Int)) = false := decide_eq_false (by omega)
      go_wp2_with fail
      refine (known_calls _ (HT.out.below HB.out)).mono ?_
      rintro e w6 ⟨rfl, hb⟩
      have HB6 := Aside0.mk (below_step HB.out hb)
      clear hb
      go_wp2
      go_ret
      exact ⟨rfl, HB6.out⟩
    have e1 : decide ((k : Int) < (xs.length : Int)) = true := decide_eq_true (by omega)
    have e2 : decide (k < xs.length) = true := decide_eq_true hlt
    obtain ⟨ad, A4, c4, rfl, hl4, hr4, x0, x1, x2, x3, x4⟩ := row_op (Kd.C_below HXS.out HB.out) k hlt xs[k] (List.getElem?_eq_getElem hlt)
    have HO := Aside0.mk (HOK.out xs[k] (List.getElem_mem hlt))
    generalize xs[k] = o at x0 x1 x2 x3 x4 hl4 hr4 HO
    obtain ⟨kd, xi, xp, xn, b⟩ := o
    simp only [] at x0 x1 x2 x3 x4 hl4 hr4
    have HL4 := Aside0.mk hl4
    have HR4 := Aside0.mk hr4
    clear hl4 hr4
    go_upto_region 11 with (fail)
    obtain ⟨go, hgo⟩ : ∃ g, wr.heap.size = g := ⟨_, rfl⟩
    obtain ⟨w6, hw6⟩ : ∃ w6, wr.alloc (.cells (cOp kd xi xp xn A4 b.length c4) 38) = w6 := ⟨_, rfl⟩
    have ho6 : w6.heap[wr.heap.size]? = some (.cells (cOp kd xi xp xn A4 b.length c4) 38 (0, 0)) := by rw [← hw6]; exact heap_new _ _
    have hb6 : Below wr.heap.size wr w6 := by rw [← hw6]; exact (Below.refl _ _).alloc (Nat.le_refl _) _
    rw [hw6]
    rw [hgo] at ho6 ⊢
    have HF6 := Aside0.mk (HF.out.below hb6)
    have HG6 := Aside0.mk (heap_keep HG.out hb6)
    have HX6 := Aside0.mk (heap_keep HX.out hb6)
    have HGT6 := Aside0.mk (heap_keep HGT.out hb6)
    have HS6 := Aside0.mk (Nat.le_trans HS.out hb6.size)
    have HB6 := Aside0.mk (below_step HB.out hb6)
    have HR46 := Aside0.mk (Kd.C_below HR4.out hb6)
    obtain ⟨o0, o1, o2, o3, o4⟩ := op_cu ho6
    have HOX := Aside0.mk ho6
    clear hw6 hb6 hgo ho6 x0 x1 x2 x3 x4 HF HG HX HGT HS HB HR4
    go_upto_if 69 with (fail)
    go_cut [] (fun wc => ∃ (cc' : Nat) (s' : St) (K' : Nat → List Int), Aside0 (cc' ≤ cc + 2) ∧ Aside0 (FW wc a f cc' s' K') ∧ Aside0 (wc.heap[gh]? = some (.cells Go.Proofs.YtoiblfmlahedlaaDoor.Ref.hk 72 (0, 0))) ∧ Aside0 (wc.heap[gx]? = some (.cells (cAsk A0 l.length c0 wr0 A2 ps.length c2 win tm bu be) 25 (0, 0))) ∧ Aside0 (wc.heap[gt]? = some (.cells (cb R) 31 (0, 0))) ∧ Aside0 (w4.heap.size ≤ wc.heap.size) ∧ Aside0 (Below w.heap.size w wc))
    case first =>
      have hk100 : k < 100 := by have := HH.out.2.2; omega
      by_cases hk1 : kd = 1
      · subst hk1
        go_wp2_with fail
        refine (fnext_calls (r := (fnextF f s K xn).1) (s' := (fnextF f s K xn).2) HF6.out HIN.out (by have := HCN.out; omega) (HT.out.below HB6.out) (by have := bounds_i64 HO.out.2.2.2.1; omega) rfl rfl).mono ?_
        rintro e w7 ⟨rfl, hfw, hm⟩
        have HF7 := Aside0.mk hfw
        have HB7 := Aside0.mk (hm.held HB6.out HLO.out.1 HS6.out)
        have HG7 := Aside0.mk (hm.keep HLO.out.2.1 HG6.out)
        have HX7 := Aside0.mk (hm.keep HLO.out.2.2.1 HX6.out)
        have HGT7 := Aside0.mk (hm.keep HLO.out.2.2.2 HGT6.out)
        have HS7 := Aside0.mk (Nat.le_trans HS6.out hm.size)
        clear hfw hm HF6 HB6 HG6 HX6 HGT6 HS6
        go_wp2
        go_meet
        case rel => exact ⟨cc + 1, _, _, ⟨by omega⟩, HF7, HG7, HX7, HGT7, HS7, HB7⟩
      have e3 : (kd == 1) = false := by rw [beq_eq_false_iff_ne]; exact hk1
      by_cases hb200 : b.length ≤ 200
      rotate_left
      · have e4 : decide ((b.length : Int) ≤ 200) = false := decide_eq_false (by omega)
        have e5 : decide (b.length ≤ 200) = false := decide_eq_false hb200
        clear hb200 hk1
        go_wp2
        go_meet
        case rel => exact ⟨cc, s, K, ⟨by omega⟩, HF6, HG6, HX6, HGT6, HS6, HB6⟩
      have e4 : decide ((b.length : Int) ≤ 200) = true := decide_eq_true (by omega)
      have e5 : decide (b.length ≤ 200) = true := decide_eq_true hb200
      have HB200 := Aside0.mk hb200
      clear hb200 hk1
      obtain ⟨a0, a1, a2, a3, a4, a5, a6⟩ := ask_cu HX6.out
      go_wp2_with fail
      refine (given_calls gh l b A0 c0 wr0 A2 ps.length c2 win tm bu be kd xi xp xn A4 c4 HG6.out (Kd.C_below HC.out HB6.out) HCC.out HBY.out (by have := HH.out.1; omega) HR46.out HL4.out (fun x hx => by have := bounds_u8 (HO.out.2.2.2.2 x hx); omega) HB200.out (by have := bounds_i64 HO.out.2.1; omega)).mono ?_
      rintro e w7 ⟨A7, c7, A9, c9, lb, pf, rfl, hCl, hcl, hbl, hll, hCp, hcp, hrp, hlp, hb⟩
      have HF7 := Aside0.mk (HF6.out.below hb)
      have HG7 := Aside0.mk (heap_keep HG6.out hb)
      have HX7 := Aside0.mk (heap_keep HX6.out hb)
      have HGT7 := Aside0.mk (heap_keep HGT6.out hb)
      have HS7 := Aside0.mk (Nat.le_trans HS6.out hb.size)
      have HB7 := Aside0.mk (below_step HB6.out hb)
      have HC7 := Aside0.mk hCl
      have HP7 := Aside0.mk hCp
      have HN7 := Aside0.mk (And.intro hcl (And.intro hll (And.intro hcp hlp)))
      have HB77 := Aside0.mk (And.intro hbl hrp)
      have HO7 := Aside0.mk (heap_keep HOX.out hb)
      clear hb hCl hcl hbl hll hCp hcp hrp hlp HF6 HG6 HX6 HGT6 HS6 HB6 a0 a1 a2 a3 a4 a5 a6 o0 o1 o2 o3 o4
      obtain ⟨o0, o1, o2, o3, o4⟩ := op_cu HO7.out
      go_wp2_with fail
      obtain ⟨hr, hh⟩ : ∃ r, hearF f s K xp xi lb pf = r := ⟨_, rfl⟩
      obtain ⟨r, s', K'⟩ := hr
      refine (hear_calls (r := r) (s' := s') (K' := K') HF7.out HIN.out (by have := HCN.out; omega) (HT.out.below HB7.out) HC7.out HB77.out.1 ⟨HN7.out.1, HN7.out.2.1⟩ HP7.out HB77.out.2 ⟨HN7.out.2.2.1, HN7.out.2.2.2⟩ hh).mono ?_
      rintro e w8 ⟨rfl, hfw, hm⟩
      have HF8 := Aside0.mk hfw
      have HB8 := Aside0.mk (hm.held HB7.out HLO.out.1 HS7.out)
      have HG8 := Aside0.mk (hm.keep HLO.out.2.1 HG7.out)
      have HX8 := Aside0.mk (hm.keep HLO.out.2.2.1 HX7.out)
      have HGT8 := Aside0.mk (hm.keep HLO.out.2.2.2 HGT7.out)
      have HS8 := Aside0.mk (Nat.le_trans HS7.out hm.size)
      clear hfw hm HF7 HB7 HG7 HX7 HGT7 HS7 hh
      go_wp2
      go_meet
      case rel => exact ⟨cc + 2, s', K', ⟨by omega⟩, HF8, HG8, HX8, HGT8, HS8, HB8⟩
    case rest =>
      obtain ⟨cc', s', K', HCN', HF7, HG7, HX7, HGT7, HS7, HB7⟩ := hcut
      have hk100 : k < 100 := by have := HH.out.2.2; omega
      obtain ⟨r, hr⟩ : ∃ r, blobF f s' K' = r := ⟨_, rfl⟩
      go_wp2_with fail
      refine (blob_calls (r := r) HF7.out (by have := HCN.out; have := HCN'.out; omega) (HT.out.below HB7.out) hr).mono ?_
      rintro e w8 ⟨v, rfl, hvn, hvs, hb⟩
      have HF8 := Aside0.mk (HF7.out.below hb)
      have HG8 := Aside0.mk (heap_keep HG7.out hb)
      have HX8 := Aside0.mk (heap_keep HX7.out hb)
      have HGT8 := Aside0.mk (heap_keep HGT7.out hb)
      have HS8 := Aside0.mk (Nat.le_trans HS7.out hb.size)
      have HB8 := Aside0.mk (below_step HB7.out hb)
      clear hb HF7 HG7 HX7 HGT7 HS7 HB7
      rcases r with _ | b8
      · obtain rfl := hvn rfl
        clear hvn hvs hr
        go_wp2
        go_roundw
        case rel => exact ⟨k + 1, cc', s', K', by omega, by first | rfl | go_num, ⟨by have := HCN.out; have := HCN'.out; omega⟩, HF8, HG8, HX8, HGT8, HS8, HB8⟩
        case measure => simp [intOf]; omega
      obtain ⟨A8, c8, rfl, hc8, hr8⟩ := Kd.R_reads (hvs b8 rfl)
      obtain ⟨hbc, hbl, hbr⟩ := blob_some hr
      have HBY8 := Aside0.mk (show Sha.bytes b8 by rw [hbc]; exact cat_bytes HF8.out.hK _)
      have HBL8 := Aside0.mk (show b8.length = l.length by rw [hbl, HFD.out.2])
      have HBR8 := Aside0.mk (show rootOf b8 = R by rw [hbr, HFD.out.1])
      have HC8 := Aside0.mk hr8
      have HCC8 := Aside0.mk hc8
      have hcv1 : (convert 22 9 (.slice A8 b8.length c8)).run Tryd.prog w8 = .ok (.string (strOfNums b8)) w8 := Kd.C_string Tryd.underlying22 Tryd.underlying5 Tryd.underlying9 hr8
      have hcv2 : (convert 22 9 (.slice A0 l.length c0)).run Tryd.prog w8 = .ok (.string (strOfNums l)) w8 := Kd.C_string Tryd.underlying22 Tryd.underlying5 Tryd.underlying9 (Kd.C_below HC.out HB8.out)
      generalize strOfNums b8 = sb at hcv1
      generalize strOfNums l = sl at hcv2
      obtain ⟨a0, a1, a2, a3, a4, a5, a6⟩ := ask_cu HX8.out
      clear hbc hbl hbr hr hr8 hc8 hvn hvs
      go_upto_if 107 with (fail)
      obtain ⟨q, hq⟩ : ∃ q, (sb.toList == sl.toList) = q := ⟨_, rfl⟩
      rw [hq]
      clear hq hcv1 hcv2 a0 a1 a2 a3 a4 a5 a6
      cases q
      rotate_left
      · go_wp2
        go_roundw
        case rel => exact ⟨k + 1, cc', s', K', by omega, by first | rfl | go_num, ⟨by have := HCN.out; have := HCN'.out; omega⟩, HF8, HG8, HX8, HGT8, HS8, HB8⟩
        case measure => simp [intOf]; omega
      have HT8 := Aside0.mk (HT.out.below HB8.out)
      have hl8 := HBL8.out
      have heq : ∀ w : World, (Op.equalIn 10000 31 (vd R) (.agg (cb R))).run Tryd.prog w = .ok true w := fun w => by
        have h := Sha.eqD HRL.out HRL.out w
        rw [decide_eq_true rfl] at h
        exact h
      have HL5 := Aside0.mk HH.out.1
      rw [← hl8] at HL5
      replace HBL8 := HL5
      have e4 : ((b8.length : Int) == (l.length : Int)) = true := by rw [hl8]; simp
      have e5 : (b8.length == l.length) = true := by rw [hl8]; simp
      clear hl8 HL5
      go_upto_region 18 with (fail)
      have hS0 : Below w8.heap.size w8 w8.drew := below_drew1 (Below.refl _ _)
      refine start_ (n := 17) (S := fun w' => Below w8.heap.size w8 w') (ds := []) #[false, false, false, false, false, false, false, false, false, false, false, false, false, false, false, false, false] (by kernel_rfl) rfl rfl (by exact hS0) (fun hHeld => ?_)
      refine with_tabW tru_tab18 tru_bits18 (fun HT_ HW_ => ?_)
      generalize w8.drew = wq at hHeld hS0 ⊢
      refine pure_ (i := 0) (N := some 108) (v := ?_) (a' := ?_) #[true, false, false, false, false, false, false, false, false, false, false, false, false, false, false, false, false] rfl rfl (any_of HT_.out (by kernel_rfl)) (fun _ _ _ h => h) (Or.inl ⟨by rfl, ?_⟩) ?_ ?_
      rotate_left
      · intro w'
        go_simp
        with_reducible rfl
      rotate_left
      · simp only [Act.put, List.setIfInBounds_toArray, List.set_cons_zero, List.set_cons_succ, i64_w, i32_w]
        rfl
      refine pure_ (i := 1) (N := some 109) (v := ?_) (a' := ?_) #[true, true, false, false, false, false, false, false, false, false, false, false, false, false, false, false, false] rfl rfl (any_of HT_.out (by kernel_rfl)) (fun _ _ _ h => h) (Or.inl ⟨by rfl, ?_⟩) ?_ ?_
      rotate_left
      · intro w'
        go_simp
        with_reducible rfl
      rotate_left
      · simp only [Act.put, List.setIfInBounds_toArray, List.set_cons_zero, List.set_cons_succ, i64_w, i32_w]
        rfl
      refine pure_ (i := 2) (N := some 110) (v := ?_) (a' := ?_) #[true, true, true, false, false, false, false, false, false, false, false, false, false, false, false, false, false] rfl rfl (any_of HT_.out (by kernel_rfl)) (fun _ _ _ h => h) (Or.inl ⟨by rfl, ?_⟩) ?_ ?_
      rotate_left
      · intro w'
        go_simp
        with_reducible rfl
      rotate_left
      · simp only [Act.put, List.setIfInBounds_toArray, List.set_cons_zero, List.set_cons_succ, i64_w, i32_w]
        rfl
      refine take_ (i := 3) (N := some 111) (v := ?_) (a' := ?_) #[true, true, true, true, false, false, false, false, false, false, false, false, false, false, false, false, false] rfl rfl (take_ofW HT_.out HW_.out (by kernel_rfl)) (fun _ _ _ h => h) (Or.inl ⟨by rfl, ?_⟩) hHeld ?_ ?_
      rotate_left
      · intro w' hSt
        obtain ⟨a0, _⟩ := ask_cu (heap_keep HX8.out hSt)
        go_simp
        with_reducible rfl
      rotate_left
      · simp only [Act.put, List.setIfInBounds_toArray, List.set_cons_zero, List.set_cons_succ, i64_w, i32_w]
        rfl
      refine pure_ (i := 4) (N := some 112) (v := ?_) (a' := ?_) #[true, true, true, true, true, false, false, false, false, false, false, false, false, false, false, false, false] rfl rfl (any_of HT_.out (by kernel_rfl)) (fun _ _ _ h => h) (Or.inl ⟨by rfl, ?_⟩) ?_ ?_
      rotate_left
      · intro w'
        go_simp
        with_reducible rfl
      rotate_left
      · simp only [Act.put, List.setIfInBounds_toArray, List.set_cons_zero, List.set_cons_succ, i64_w, i32_w]
        rfl
      refine pure_ (i := 5) (N := some 113) (v := ?_) (a' := ?_) #[true, true, true, true, true, true, false, false, false, false, false, false, false, false, false, false, false] rfl rfl (any_of HT_.out (by kernel_rfl)) (fun _ _ _ h => h) (Or.inl ⟨by rfl, ?_⟩) ?_ ?_
      rotate_left
      · intro w'
        go_simp
        with_reducible rfl
      rotate_left
      · simp only [Act.put, List.setIfInBounds_toArray, List.set_cons_zero, List.set_cons_succ, i64_w, i32_w]
        rfl
      refine pure_ (i := 6) (N := some 114) (v := ?_) (a' := ?_) #[true, true, true, true, true, true, true, false, false, false, false, false, false, false, false, false, false] rfl rfl (any_of HT_.out (by kernel_rfl)) (fun _ _ _ h => h) (Or.inl ⟨by rfl, ?_⟩) ?_ ?_
      rotate_left
      · intro w'
        go_simp
        with_reducible rfl
      rotate_left
      · simp only [Act.put, List.setIfInBounds_toArray, List.set_cons_zero, List.set_cons_succ, i64_w, i32_w]
        rfl
      refine pure_ (i := 7) (N := some 115) (v := ?_) (a' := ?_) #[true, true, true, true, true, true, true, true, false, false, false, false, false, false, false, false, false] rfl rfl (any_of HT_.out (by kernel_rfl)) (fun _ _ _ h => h) (Or.inl ⟨by rfl, ?_⟩) ?_ ?_
      rotate_left
      · intro w'
        go_simp
        with_reducible rfl
      rotate_left
      · simp only [Act.put, List.setIfInBounds_toArray, List.set_cons_zero, List.set_cons_succ, i64_w, i32_w]
        rfl
      refine pure_ (i := 8) (N := some 116) (v := ?_) (a' := ?_) #[true, true, true, true, true, true, true, true, true, false, false, false, false, false, false, false, false] rfl rfl (any_of HT_.out (by kernel_rfl)) (fun _ _ _ h => h) (Or.inl ⟨by rfl, ?_⟩) ?_ ?_
      rotate_left
      · intro w'
        go_simp
        with_reducible rfl
      rotate_left
      · simp only [Act.put, List.setIfInBounds_toArray, List.set_cons_zero, List.set_cons_succ, i64_w, i32_w]
        rfl
      refine take_ (i := 10) (N := some 118) (v := ?_) (a' := ?_) #[true, true, true, true, true, true, true, true, true, false, true, false, false, false, false, false, false] rfl rfl (take_ofW HT_.out HW_.out (by kernel_rfl)) (fun _ _ _ h => h) (Or.inl ⟨by rfl, ?_⟩) hHeld ?_ ?_
      rotate_left
      · intro w' hSt
        refine (Sha.exec_load (p := .pointer (some ⟨gt, 0, none⟩)) rfl rfl (box_load (heap_keep HGT8.out hSt) HRL.out)).trans ?_
        rfl
      rotate_left
      · simp only [Act.put, List.setIfInBounds_toArray, List.set_cons_zero, List.set_cons_succ, i64_w, i32_w]
        rfl
      refine one_ (i := 9) (N := some 117) #[true, true, true, true, true, true, true, true, true, true, true, false, false, false, false, false, false] rfl rfl (one_of HT_.out (by kernel_rfl)) (by decide) (fun K hK => ?_)
      refine goes_ Tryd.func11 (by kernel_rfl) rfl #[.pointer (some ⟨gh, 0, none⟩), .slice A8 b8.length c8] (by rfl) rfl rfl (by (try simp only [List.map_toArray, List.map_cons, List.map_nil]); first | done | rfl) ?_
      refine (rroot_calls gh A8 c8 b8 _ (heap_keep HG8.out hHeld) (Kd.C_below HC8.out hHeld) HCC8.out HBY8.out (by have := HBL8.out; omega)).mono ?_
      rintro e w9 ⟨rfl, hb⟩
      refine ⟨_, rfl, ?_⟩
      rw [HBR8.out]
      have hS1 := below_step hHeld hb
      clear hb
      refine hK.out _ _ (by exact hS1) (fun hHeld => ?_)
      clear hK K
      refine norm_ (a' := ?_) ?_ ?_
      rotate_left
      · first
        | (show Act.put _ (some 117) _ = _; simp only [Act.put, List.setIfInBounds_toArray, List.set_cons_zero, List.set_cons_succ, i64_w, i32_w]; rfl)
        | rfl
      refine pure_ (i := 11) (N := some 119) (v := ?_) (a' := ?_) #[true, true, true, true, true, true, true, true, true, true, true, true, false, false, false, false, false] rfl rfl (any_of HT_.out (by kernel_rfl)) (fun _ _ _ h => h) (Or.inl ⟨by rfl, ?_⟩) ?_ ?_
      rotate_left
      · intro w'
        go_simp
        with_reducible rfl
      rotate_left
      · simp only [Act.put, List.setIfInBounds_toArray, List.set_cons_zero, List.set_cons_succ, i64_w, i32_w]
        rfl
      refine pure_ (i := 12) (N := some 120) (v := ?_) (a' := ?_) #[true, true, true, true, true, true, true, true, true, true, true, true, true, false, false, false, false] rfl rfl (any_of HT_.out (by kernel_rfl)) (fun _ _ _ h => h) (Or.inl ⟨by rfl, ?_⟩) ?_ ?_
      rotate_left
      · intro w'
        go_simp
        with_reducible rfl
      rotate_left
      · simp only [Act.put, List.setIfInBounds_toArray, List.set_cons_zero, List.set_cons_succ, i64_w, i32_w]
        rfl
      refine pure_ (i := 13) (N := some 121) (v := ?_) (a' := ?_) #[true, true, true, true, true, true, true, true, true, true, true, true, true, true, false, false, false] rfl rfl (any_of HT_.out (by kernel_rfl)) (fun _ _ _ h => h) (Or.inl ⟨by rfl, ?_⟩) ?_ ?_
      rotate_left
      · intro w'
        go_simp
        with_reducible rfl
      rotate_left
      · simp only [Act.put, List.setIfInBounds_toArray, List.set_cons_zero, List.set_cons_succ, i64_w, i32_w]
        rfl
      refine one_ (i := 14) (N := some 122) #[true, true, true, true, true, true, true, true, true, true, true, true, true, true, true, false, false] rfl rfl (one_of HT_.out (by kernel_rfl)) (by decide) (fun K hK => ?_)
      refine goes_ Tryd.func9 (by kernel_rfl) rfl #[] (by rfl) rfl rfl (by (try simp only [List.map_toArray, List.map_cons, List.map_nil]); first | done | rfl) ?_
      refine (known_calls _ (HT8.out.below hHeld)).mono ?_
      rintro e w10 ⟨rfl, hb⟩
      refine ⟨_, rfl, ?_⟩
      have hS1 := below_step hHeld hb
      clear hb
      refine hK.out _ _ (by exact hS1) (fun hHeld => ?_)
      clear hK K
      refine norm_ (a' := ?_) ?_ ?_
      rotate_left
      · first
        | (show Act.put _ (some 122) _ = _; simp only [Act.put, List.setIfInBounds_toArray, List.set_cons_zero, List.set_cons_succ, i64_w, i32_w]; rfl)
        | rfl
      refine pure_ (i := 15) (N := some 123) (v := ?_) (a' := ?_) #[true, true, true, true, true, true, true, true, true, true, true, true, true, true, true, true, false] rfl rfl (any_of HT_.out (by kernel_rfl)) (fun _ _ _ h => h) (Or.inl ⟨by rfl, ?_⟩) ?_ ?_
      rotate_left
      · intro w'
        go_simp
        with_reducible rfl
      rotate_left
      · simp only [Act.put, List.setIfInBounds_toArray, List.set_cons_zero, List.set_cons_succ, i64_w, i32_w]
        rfl
      refine pure_ (i := 16) (N := some 4) (v := ?_) (a' := ?_) #[true, true, true, true, true, true, true, true, true, true, true, true, true, true, true, true, true] rfl rfl (any_of HT_.out (by kernel_rfl)) (fun _ _ _ h => h) (Or.inl ⟨by rfl, ?_⟩) ?_ ?_
      rotate_left
      · intro w'
        go_simp
        with_reducible rfl
      rotate_left
      · simp only [Act.put, List.setIfInBounds_toArray, List.set_cons_zero, List.set_cons_succ, i64_w, i32_w]
        rfl
      refine done_ (done_of HT_.out (by kernel_rfl)) ?_
      have HB9 := Aside0.mk (below_step HB8.out hHeld)
      clear hS0 hHeld HT_ HW_
      go_wp2
      go_ret
      exact ⟨rfl, HB9.out⟩
theorem true_walk (cs0 : Array Value) (x0 : AskB) (a1 : Option Addr) (c1 : Nat) (x1 : List OpB) (w : World) (hT : Sha.Tab w) (hx : Open.k_t25.K w x0 cs0.toList) (k0 : Open.okAskB x0) (C1 : KOp.C w a1 x1.length x1) (l1 : x1.length ≤ c1) (k1 : ∀ x ∈ x1, Open.okOpB x) :
    Calls Tryd.prog 3 #[.agg cs0, .slice a1 x1.length c1] w fun e w' => e = .returned (.bool true) ∧ Below w.heap.size w w' := by
  obtain ⟨A0, c0, A2, c2, e, l0, C0, l2, C2⟩ := Open.cells_AskB hx
  obtain ⟨cl⟩ := cs0
  have e : cl = _ := e
  subst e
  obtain ⟨l, wr0, ps, win, tm, bu, be⟩ := x0
  simp only [] at *
  by_cases h : l.length ≤ 5000 ∧ ps.length ≤ 100 ∧ x1.length ≤ 100
  · exact true_in l ps A0 c0 wr0 A2 c2 win tm bu be a1 x1 c1 w hT h C0 l0 (fun x hx => by have := bounds_u8 (k0.1 x hx); omega) C2 (fun x hx => by have := bounds_i64 (k0.2.2.1 x hx); omega) (by have := bounds_i64 k0.2.2.2.2.2.2; omega) C1 k1
  · exact true_out l ps A0 c0 wr0 A2 c2 win tm bu be a1 x1.length c1 w hT h
end Go.Proofs.YtoiblfmlahedlaaDoor.Fe
end
