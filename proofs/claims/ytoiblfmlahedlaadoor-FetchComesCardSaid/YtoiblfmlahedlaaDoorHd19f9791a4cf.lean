/- What calls of Go functions of this seat come to, as the rows need it: under the conditions that each theorem names. -/
import Derived.Test.YtoiblfmlahedlaaDoorH68227917bba1
import Derived.Test.YtoiblfmlahedlaaDoorHb14e0432db7b
import Derived.Test.YtoiblfmlahedlaaDoorHa8cf72a23e17
import Derived.Test.YtoiblfmlahedlaaDoorH9ea8eb3d9694
import Derived.Test.YtoiblfmlahedlaaDoorH169ce18286bf
import Derived.Test.YtoiblfmlahedlaaDoorH32af5d1ec5a4
import Derived.Test.YtoiblfmlahedlaaDoorH8fca6c147aa4
import Derived.Test.YtoiblfmlahedlaaDoorH0e909fc2efc5
import Derived.Deep.QuietTactic
import Derived.BigQuiet
import Derived.Lib.ConvBytes
section
namespace Go.Proofs.YtoiblfmlahedlaaDoor.Fe
open Go.RowKit Go.Proofs.YtoiblfmlahedlaaDoorW.PrintWords Go.Proofs.YtoiblfmlahedlaaDoorW.PrintLast Go.Proofs.YtoiblfmlahedlaaDoorW.PrintMore
set_option linter.unusedVariables false
set_option linter.unusedSimpArgs false
set_option maxRecDepth 100000
open Go.Proofs.YtoiblfmlahedlaaDoor.As (St PW Pl Chg Fst leftF stuckB nextF hadR hadS badR badS stOf left_calls stuckB_calls state_calls had_at bad_at)
open Go.Proofs.YtoiblfmlahedlaaDoor.Sha (cb vd countN rootOf checkB B KD isRow)
open Go.Proofs.YtoiblfmlahedlaaDoor.Ref (check_any)
theorem own_ints {w : World} {base base' : Nat} {v : Value} {zs : List Int} (h : Kd.R B 5 w base (fun _ => True) v zs) (hb : Sha.bytes zs) (hv : v ≠ .slice none 0 0) (hl : base' ≤ base) : (∃ g, v.ownBlock = some g ∧ base ≤ g) ∧ w.ownsInts base' 5 .u8 v zs := by
  have ho := Kd.own_of_R h
  rcases ho with ⟨e0, h0 | ⟨g, cap, cur, rfl, hB, hr⟩⟩
  · exact absurd h0.1 hv
  · refine ⟨⟨g, rfl, hB⟩, ⟨e0, Or.inr ⟨g, cap, cur, rfl, by omega, hr⟩⟩, fun z hz => ?_⟩
    have := hb z hz
    simp [Lit.wf, IntKind.min, IntKind.max, IntKind.signed, IntKind.bits]
    omega
theorem FW.stored {w w2 : World} {a : Ad} {f : Cf} {c : Nat} {s : St} {K K' : Nat → List Int} (h : FW w a f c s K) (hk : ∀ k, k < w.heap.size → k ≠ a.gx → w2.heap[k]? = w.heap[k]?) (hm : Mk w2 a.gx (c + 1 + 64) K') (hK : ∀ i, (K' i).length ≤ 64 ∧ Sha.bytes (K' i)) : FW w2 a f (c + 1) s K' := by
  have kp : ∀ (k : Nat) (o : Obj), k ≠ a.gx → w.heap[k]? = some o → w2.heap[k]? = some o := fun k o hne ho => (hk k (Array.getElem?_eq_some_iff.1 ho).1 hne).trans ho
  obtain ⟨D1, ⟨es1, cl1, y1, _⟩, _⟩ := h.mp
  have h2 := pw_more h.pl (show c ≤ c + 1 by omega)
  have hpl := h2.pl
  obtain ⟨cs, q1, q2, q3⟩ := hpl.ch
  obtain ⟨ds, q1', q2', q3'⟩ := hpl.de
  obtain ⟨D, ⟨es, cl, y, F, hs, hD⟩, hT⟩ := h2.mp
  refine ⟨kp _ _ h.d1.2.2.2.2 h.blk, ⟨⟨kp _ _ h.d2.1.symm hpl.blk, ⟨cs, kp _ _ h.d2.2.1.symm q1, q2, q3⟩, ⟨ds, kp _ _ h.d2.2.2.1.symm q1', q2', q3'⟩, hpl.n1, hpl.m1, hpl.e1, hpl.e2, hpl.e3, hpl.e4, hpl.e5, hpl.e6⟩, ⟨D, ⟨es, cl, kp _ _ h.d2.2.2.2.symm y, F, hs, hD⟩, hT⟩, h2.good, h2.tb, h2.t1, h2.t2⟩, ?_, hm, h.d1, h.d2, h.d3, h.hR, h.bR, h.hL, h.hm, h.hb, h.he, h.hw, hK⟩
  rcases h.pe with h1 | ⟨g, cur, e, hg, hx⟩
  · exact Or.inl h1
  · exact Or.inr ⟨g, cur, e, kp _ _ (fun e1 => by subst e1; rw [y1] at hg; simp at hg) hg, hx⟩
def hearF (f : Cf) (s : St) (K : Nat → List Int) (x i : Int) (l : List Int) (p : List (List Int)) : Int × St × (Nat → List Int) :=
  if 0 ≤ i ∧ i < countN f.L ∧ 0 ≤ idxF f.ps x then
    if stOf s.1 (countN f.L) i = 2 then (7, s, K) else
      if checkB f.R f.L i l p = true then (hadR (countN f.L) s i, hadS (countN f.L) s i, updK K i.toNat l) else (5, badS (countN f.L) f.ps.length s i (idxF f.ps x), K)
  else (6, s, K)
theorem checkB_size {R : List Int} {L j : Nat} {l : List Int} {p : List (List Int)} (h : checkB R L (j : Int) l p = true) (hL : 1 ≤ L) (hj : j < countN L) : 1 ≤ l.length ∧ l.length ≤ 64 := by
  unfold checkB at h
  split at h
  · rename_i h1
    have h2 := h1.2.2.2
    rw [Int.toNat_natCast, Int.toNat_natCast] at h2
    unfold Sha.sizeN at h2
    unfold countN at hj
    omega
  · cases h
def hea_T8 : Bool × List (List Nat × List Nat) := (true, [([], []), ([0], [0]), ([1], [1]), ([2], [2]), ([], []), ([4], [4]), ([5], [5]), ([6], [6]), ([], []), ([], []), ([], []), ([3, 7, 8, 9, 10], [3, 7, 8, 9, 10]), ([11], [11]), ([12, 11], [12])])
def hea_B8 : List Nat := [0, 1, 3, 7, 0, 16, 48, 112, 0, 0, 0, 2047, 4095, 8191]
theorem hea_tab8 : rtab .any (opsOf Tryd.f15 8) = hea_T8 := by kernel_rfl
theorem hea_bits8 : waitsOk hea_T8.2 hea_B8 = true := by kernel_rfl
def hea_T11 : Bool × List (List Nat × List Nat) := (true, [([], []), ([0], [0]), ([1], [1]), ([2], [2]), ([], []), ([], []), ([5], [5]), ([3, 4, 6, 6, 0, 1, 2, 3, 4, 5, 6], [3, 4, 6])])
def hea_B11 : List Nat := [0, 1, 3, 7, 0, 0, 32, 127]
theorem hea_tab11 : rtab .any (opsOf Tryd.f15 11) = hea_T11 := by kernel_rfl
theorem hea_bits11 : waitsOk hea_T11.2 hea_B11 = true := by kernel_rfl
set_option maxHeartbeats 3200000 in
theorem hear_calls {w : World} {a : Ad} {f : Cf} {c lo hi cl cp : Nat} {s s' : St} {K K' : Nat → List Int} {x i r : Int} {A A' : Option Addr} {l : List Int} {p : List (List Int)} (h : FW w a f c s K) (hin : In a lo hi) (hc : c ≤ 3000000) (hT : Sha.Tab w) (hl : B.C w A l.length l) (hlb : Sha.bytes l) (hlc : l.length ≤ cl ∧ l.length ≤ 1000000)
    (hp : KD.C w A' p.length p) (hpr : isRow p) (hpc : p.length ≤ cp ∧ p.length < 1000000) (hr : hearF f s K x i l p = (r, s', K')) :
    Calls Tryd.prog 15 #[.pointer (some ⟨a.p, 0, none⟩), .int .i64 x, .int .i64 i, .slice A l.length cl, .slice A' p.length cp] w fun e w' => e = .returned (.int .i64 r) ∧ FW w' a f (c + 2) s' K' ∧ Mov lo hi w w' := by
  have H := Aside0.mk h
  have HIN := Aside0.mk hin
  have HT := Aside0.mk hT
  have HFR := Aside0.mk h.hR
  have HFL := Aside0.mk h.hL
  have hm := h.hm
  have HLC0 := Aside0.mk hl
  have HLB := Aside0.mk hlb
  have HLN := Aside0.mk hlc
  have HPC0 := Aside0.mk hp
  have HPR := Aside0.mk hpr
  have HPN := Aside0.mk hpc
  obtain ⟨n, hn⟩ : ∃ n, countN f.L = n := ⟨_, rfl⟩
  have hn100 : n ≤ 100 := hn ▸ count_100 h.hL.2
  have HNN := Aside0.mk hn
  obtain ⟨ix, hix⟩ : ∃ ix, idxF f.ps x = ix := ⟨_, rfl⟩
  obtain ⟨cbv, hcb⟩ : ∃ v, checkB f.R f.L i l p = v := ⟨_, rfl⟩
  obtain ⟨st, hst⟩ : ∃ v, stOf s.1 n i = v := ⟨_, rfl⟩
  unfold hearF at hr
  rw [hn, hix, hst, hcb] at hr
  have HIX := Aside0.mk hix
  clear h hin hT hl hlb hlc hp hpr hpc hn hix
  go_enter Tryd.func15, Tryd.ntmps15
  go_upto_region 1 with (fail)
  obtain ⟨w2, hw2⟩ : ∃ w2, w.alloc (.cells #[.int .i64 x] 3) = w2 := ⟨_, rfl⟩
  have hn0 : w2.heap[w.heap.size]? = some (.cells #[.int .i64 x] 3 (0, 0)) := by rw [← hw2]; exact Go.Proofs.YtoiblfmlahedlaaDoor.As.heap_new _ _
  have HB2 := Aside0.mk (show Below w.heap.size w w2 by rw [← hw2]; exact (Below.refl _ _).alloc (Nat.le_refl _) _)
  have HY0 : Aside0 (w2.cell? ⟨w.heap.size, 0, none⟩ = some (.int .i64 x)) := ⟨by simp [World.cell?, hn0]⟩
  rw [hw2]
  clear hw2 hn0
  generalize w.heap.size = gp at HY0 ⊢
  have HF := Aside0.mk (H.out.below HB2.out)
  go_wp2_with fail
  refine (ready_calls HF.out.blk HFR.out).mono ?_
  rintro e w3 ⟨rfl, hw⟩
  replace hw := hw.symm
  subst hw
  obtain ⟨c0, c1, c2, _⟩ := HF.out.blk.cu HFR.out
  go_wp2_with fail
  refine (idxP_calls _ HF.out.pe hm HY0.out).mono ?_
  rintro e w3 ⟨k0, rfl, hf, hw⟩
  replace hw := hw.symm
  subst hw
  have hke := (idxF_fst hf).trans HIX.out
  subst hke
  have HFS := Aside0.mk hf
  clear hf HY0
  by_cases hi0 : i < 0
  · rw [if_neg (by omega)] at hr
    have e1 : decide (i < 0) = true := decide_eq_true hi0
    injection hr with hr1 hr2
    injection hr2 with hr2 hr3
    subst hr1 hr2 hr3
    go_wp2
    go_ret
    exact ⟨rfl, HF.out.grow (by omega), Mov.of_below HB2.out⟩
  obtain ⟨j, rfl⟩ := Int.eq_ofNat_of_zero_le (show 0 ≤ i by omega)
  clear hi0
  have e1 : decide ((j : Int) < 0) = false := decide_eq_false (by omega)
  go_wp2_with fail
  refine (Sha.count_calls f.L _ (by have := HFL.out; omega)).mono ?_
  rintro e w3 ⟨rfl, hw⟩
  replace hw := hw.symm
  subst hw
  rw [HNN.out]
  by_cases hj : j < n
  rotate_left
  · rw [if_neg (by omega)] at hr
    have e2 : decide ((j : Int) ≥ (n : Int)) = true := decide_eq_true (by omega)
    have e3 : decide (j ≥ n) = true := decide_eq_true (by omega)
    injection hr with hr1 hr2
    injection hr2 with hr2 hr3
    subst hr1 hr2 hr3
    go_wp2
    go_ret
    exact ⟨rfl, HF.out.grow (by omega), Mov.of_below HB2.out⟩
  have HJ := Aside0.mk (show j ≤ 1000 by omega)
  have e2 : decide ((j : Int) ≥ (n : Int)) = false := decide_eq_false (by omega)
  have e3 : decide (j ≥ n) = false := decide_eq_false (by omega)
  rcases HFS.out with ⟨rfl, _⟩ | ⟨k, hk, rfl, _, _⟩
  · rw [if_neg (by omega)] at hr
    injection hr with hr1 hr2
    injection hr2 with hr2 hr3
    subst hr1 hr2 hr3
    go_wp2
    go_ret
    exact ⟨rfl, HF.out.grow (by omega), Mov.of_below HB2.out⟩
  rw [if_pos ⟨by omega, by omega, by omega⟩] at hr
  have e4 : decide ((k : Int) < 0) = false := decide_eq_false (by omega)
  have HJN := Aside0.mk hj
  clear hj hk HFS
  have HST := Aside0.mk hst
  clear hst
  go_wp2_with fail
  refine (state_calls (j : Int) _ HF.out.pl.pl).mono ?_
  rintro e w3 ⟨rfl, hw⟩
  replace hw := hw.symm
  subst hw
  rw [HNN.out, HST.out]
  by_cases h2 : st = 2
  · subst h2
    rw [if_pos rfl] at hr
    injection hr with hr1 hr2
    injection hr2 with hr2 hr3
    subst hr1 hr2 hr3
    go_wp2
    go_ret
    exact ⟨rfl, HF.out.grow (by omega), Mov.of_below HB2.out⟩
  rw [if_neg h2] at hr
  have e5 : (st == 2) = false := by rw [beq_eq_false_iff_ne]; exact h2
  clear h2
  have HLC := Aside0.mk (Kd.C_below HLC0.out HB2.out)
  have HPC := Aside0.mk (Kd.C_below HPC0.out HB2.out)
  have HTB := Aside0.mk (HT.out.below HB2.out)
  have HCB := Aside0.mk hcb
  have HRR := Aside0.mk hr
  clear hcb hr c0 c1 c2
  go_upto_region 8 with (fail)
  have hS0 : Below w2.heap.size w2 w2.drew := below_drew1 (Below.refl _ _)
  cases cbv
  · refine start_ (n := 14) (S := fun w' => Below w2.heap.size w2 w') (ds := []) #[false, false, false, false, false, false, false, false, false, false, false, false, false, false] (by kernel_rfl) rfl rfl (by exact hS0) (fun hHeld => ?_)
    refine with_tabW hea_tab8 hea_bits8 (fun HT_ HW_ => ?_)
    generalize w2.drew = wq at hHeld hS0 ⊢
    refine pure_ (i := 0) (N := some 46) (v := ?_) (a' := ?_) #[true, false, false, false, false, false, false, false, false, false, false, false, false, false] rfl rfl (any_of HT_.out (by kernel_rfl)) (fun _ _ _ h => h) (Or.inl ⟨by rfl, ?_⟩) ?_ ?_
    rotate_left
    · intro w'
      go_simp
      with_reducible rfl
    rotate_left
    · simp only [Act.put, List.setIfInBounds_toArray, List.set_cons_zero, List.set_cons_succ, i64_w, i32_w]
      rfl
    refine pure_ (i := 1) (N := some 47) (v := ?_) (a' := ?_) #[true, true, false, false, false, false, false, false, false, false, false, false, false, false] rfl rfl (any_of HT_.out (by kernel_rfl)) (fun _ _ _ h => h) (Or.inl ⟨by rfl, ?_⟩) ?_ ?_
    rotate_left
    · intro w'
      go_simp
      with_reducible rfl
    rotate_left
    · simp only [Act.put, List.setIfInBounds_toArray, List.set_cons_zero, List.set_cons_succ, i64_w, i32_w]
      rfl
    refine pure_ (i := 2) (N := some 48) (v := ?_) (a' := ?_) #[true, true, true, false, false, false, false, false, false, false, false, false, false, false] rfl rfl (any_of HT_.out (by kernel_rfl)) (fun _ _ _ h => h) (Or.inl ⟨by rfl, ?_⟩) ?_ ?_
    rotate_left
    · intro w'
      go_simp
      with_reducible rfl
    rotate_left
    · simp only [Act.put, List.setIfInBounds_toArray, List.set_cons_zero, List.set_cons_succ, i64_w, i32_w]
      rfl
    refine pure_ (i := 4) (N := some 50) (v := ?_) (a' := ?_) #[true, true, true, false, true, false, false, false, false, false, false, false, false, false] rfl rfl (any_of HT_.out (by kernel_rfl)) (fun _ _ _ h => h) (Or.inl ⟨by rfl, ?_⟩) ?_ ?_
    rotate_left
    · intro w'
      go_simp
      with_reducible rfl
    rotate_left
    · simp only [Act.put, List.setIfInBounds_toArray, List.set_cons_zero, List.set_cons_succ, i64_w, i32_w]
      rfl
    refine pure_ (i := 5) (N := some 51) (v := ?_) (a' := ?_) #[true, true, true, false, true, true, false, false, false, false, false, false, false, false] rfl rfl (any_of HT_.out (by kernel_rfl)) (fun _ _ _ h => h) (Or.inl ⟨by rfl, ?_⟩) ?_ ?_
    rotate_left
    · intro w'
      go_simp
      with_reducible rfl
    rotate_left
    · simp only [Act.put, List.setIfInBounds_toArray, List.set_cons_zero, List.set_cons_succ, i64_w, i32_w]
      rfl
    refine pure_ (i := 6) (N := some 52) (v := ?_) (a' := ?_) #[true, true, true, false, true, true, true, false, false, false, false, false, false, false] rfl rfl (any_of HT_.out (by kernel_rfl)) (fun _ _ _ h => h) (Or.inl ⟨by rfl, ?_⟩) ?_ ?_
    rotate_left
    · intro w'
      go_simp
      with_reducible rfl
    rotate_left
    · simp only [Act.put, List.setIfInBounds_toArray, List.set_cons_zero, List.set_cons_succ, i64_w, i32_w]
      rfl
    refine pure_ (i := 8) (N := some 54) (v := ?_) (a' := ?_) #[true, true, true, false, true, true, true, false, true, false, false, false, false, false] rfl rfl (any_of HT_.out (by kernel_rfl)) (fun _ _ _ h => h) (Or.inl ⟨by rfl, ?_⟩) ?_ ?_
    rotate_left
    · intro w'
      go_simp
      with_reducible rfl
    rotate_left
    · simp only [Act.put, List.setIfInBounds_toArray, List.set_cons_zero, List.set_cons_succ, i64_w, i32_w]
      rfl
    refine pure_ (i := 9) (N := some 55) (v := ?_) (a' := ?_) #[true, true, true, false, true, true, true, false, true, true, false, false, false, false] rfl rfl (any_of HT_.out (by kernel_rfl)) (fun _ _ _ h => h) (Or.inl ⟨by rfl, ?_⟩) ?_ ?_
    rotate_left
    · intro w'
      go_simp
      with_reducible rfl
    rotate_left
    · simp only [Act.put, List.setIfInBounds_toArray, List.set_cons_zero, List.set_cons_succ, i64_w, i32_w]
      rfl
    refine pure_ (i := 10) (N := some 56) (v := ?_) (a' := ?_) #[true, true, true, false, true, true, true, false, true, true, true, false, false, false] rfl rfl (any_of HT_.out (by kernel_rfl)) (fun _ _ _ h => h) (Or.inl ⟨by rfl, ?_⟩) ?_ ?_
    rotate_left
    · intro w'
      go_simp
      with_reducible rfl
    rotate_left
    · simp only [Act.put, List.setIfInBounds_toArray, List.set_cons_zero, List.set_cons_succ, i64_w, i32_w]
      rfl
    refine take_ (i := 3) (N := some 49) (v := ?_) (a' := ?_) #[true, true, true, true, true, true, true, false, true, true, true, false, false, false] rfl rfl (take_ofW HT_.out HW_.out (by kernel_rfl)) (fun _ _ _ h => h) (Or.inl ⟨by rfl, ?_⟩) hHeld ?_ ?_
    rotate_left
    · intro w' hSt
      refine (Sha.exec_load (p := .pointer (some ⟨a.p, 0, none⟩)) rfl rfl (root_load (HF.out.below hSt).blk HFR.out)).trans ?_
      rfl
    rotate_left
    · simp only [Act.put, List.setIfInBounds_toArray, List.set_cons_zero, List.set_cons_succ, i64_w, i32_w]
      rfl
    refine take_ (i := 7) (N := some 53) (v := ?_) (a' := ?_) #[true, true, true, true, true, true, true, true, true, true, true, false, false, false] rfl rfl (take_ofW HT_.out HW_.out (by kernel_rfl)) (fun _ _ _ h => h) (Or.inl ⟨by rfl, ?_⟩) hHeld ?_ ?_
    rotate_left
    · intro w' hSt
      obtain ⟨c0, _⟩ := (HF.out.below hSt).blk.cu HFR.out
      go_simp
      with_reducible rfl
    rotate_left
    · simp only [Act.put, List.setIfInBounds_toArray, List.set_cons_zero, List.set_cons_succ, i64_w, i32_w]
      rfl
    refine one_ (i := 11) (N := some 57) #[true, true, true, true, true, true, true, true, true, true, true, true, false, false] rfl rfl (one_of HT_.out (by kernel_rfl)) (by decide) (fun K hK => ?_)
    refine goes_ Tryd.func40 (by kernel_rfl) rfl #[vd f.R, .int .i64 (f.L : Int), .int .i64 (j : Int), .slice A l.length cl, .slice A' p.length cp] (by rfl) rfl rfl (by (try simp only [List.map_toArray, List.map_cons, List.map_nil]); first | done | rfl) ?_
    refine (check_any f.R f.L j A A' cl cp l p _ HFR.out (by have := HFL.out; omega) (Kd.C_below HLC.out hHeld) HLN.out.1 HLB.out (by have := HLN.out; omega) (Kd.C_below HPC.out hHeld) HPN.out.1 HPR.out (by have := HPN.out; omega) (HTB.out.below hHeld)).mono ?_
    rintro e wk ⟨rfl, hb⟩
    refine ⟨_, rfl, ?_⟩
    rw [HCB.out]
    have hS1 := below_step hHeld hb
    clear hb
    refine hK.out _ _ (by exact hS1) (fun hHeld => ?_)
    clear hK K
    refine norm_ (a' := ?_) ?_ ?_
    rotate_left
    · first
      | (show Act.put _ (some 57) _ = _; simp only [Act.put, List.setIfInBounds_toArray, List.set_cons_zero, List.set_cons_succ, i64_w, i32_w]; rfl)
      | rfl
    refine pure_ (i := 12) (N := some 58) (v := ?_) (a' := ?_) #[true, true, true, true, true, true, true, true, true, true, true, true, true, false] rfl rfl (any_of HT_.out (by kernel_rfl)) (fun _ _ _ h => h) (Or.inl ⟨by rfl, ?_⟩) ?_ ?_
    rotate_left
    · intro w'
      go_simp
      with_reducible rfl
    rotate_left
    · simp only [Act.put, List.setIfInBounds_toArray, List.set_cons_zero, List.set_cons_succ, i64_w, i32_w]
      rfl
    refine pure_ (i := 13) (N := some 45) (v := ?_) (a' := ?_) #[true, true, true, true, true, true, true, true, true, true, true, true, true, true] rfl rfl (any_of HT_.out (by kernel_rfl)) (fun _ _ _ h => h) (Or.inl ⟨by rfl, ?_⟩) ?_ ?_
    rotate_left
    · intro w'
      go_simp
      with_reducible rfl
    rotate_left
    · simp only [Act.put, List.setIfInBounds_toArray, List.set_cons_zero, List.set_cons_succ, i64_w, i32_w]
      rfl
    refine done_ (done_of HT_.out (by kernel_rfl)) ?_
    have hr := HRR.out
    rw [if_neg (by simp)] at hr
    injection hr with hr1 hr2
    injection hr2 with hr2 hr3
    subst hr1 hr3
    have HS := Aside0.mk hr2
    have HF3 := Aside0.mk (HF.out.below hHeld)
    have HM3 := Aside0.mk ((Mov.of_below (lo := lo) (hi := hi) HB2.out).trans (Mov.of_below hHeld))
    obtain ⟨_, _, c2, _⟩ := HF3.out.blk.cu HFR.out
    clear hr2 hS0 hHeld HT_ HW_ HRR
    go_wp2_with fail
    refine (bad_at (s' := s') (j : Int) (k : Int) _ HF3.out.pl (by omega) rfl (by rw [HNN.out]; exact HS.out)).mono ?_
    rintro e w5 ⟨rfl, hpw, hch⟩
    have HF5 := Aside0.mk (HF3.out.turn hpw hch)
    have HM5 := Aside0.mk (HM3.out.trans (Mov.of_chg hch HIN.out.c HIN.out.d HIN.out.m))
    clear hpw hch c2
    generalize badR (countN f.L) f.ps.length s (j : Int) (k : Int) = rb
    go_wp2
    go_ret
    exact ⟨rfl, HF5.out.grow (by omega), HM5.out⟩
  have HSZ := Aside0.mk (checkB_size HCB.out HFL.out.1 (by rw [HNN.out]; exact HJN.out))
  refine start_ (n := 14) (S := fun w' => Below w2.heap.size w2 w') (ds := []) #[false, false, false, false, false, false, false, false, false, false, false, false, false, false] (by kernel_rfl) rfl rfl (by exact hS0) (fun hHeld => ?_)
  refine with_tabW hea_tab8 hea_bits8 (fun HT_ HW_ => ?_)
  generalize w2.drew = wq at hHeld hS0 ⊢
  refine pure_ (i := 0) (N := some 46) (v := ?_) (a' := ?_) #[true, false, false, false, false, false, false, false, false, false, false, false, false, false] rfl rfl (any_of HT_.out (by kernel_rfl)) (fun _ _ _ h => h) (Or.inl ⟨by rfl, ?_⟩) ?_ ?_
  rotate_left
  · intro w'
    go_simp
    with_reducible rfl
  rotate_left
  · simp only [Act.put, List.setIfInBounds_toArray, List.set_cons_zero, List.set_cons_succ, i64_w, i32_w]
    rfl
  refine pure_ (i := 1) (N := some 47) (v := ?_) (a' := ?_) #[true, true, false, false, false, false, false, false, false, false, false, false, false, false] rfl rfl (any_of HT_.out (by kernel_rfl)) (fun _ _ _ h => h) (Or.inl ⟨by rfl, ?_⟩) ?_ ?_
  rotate_left
  · intro w'
    go_simp
    with_reducible rfl
  rotate_left
  · simp only [Act.put, List.setIfInBounds_toArray, List.set_cons_zero, List.set_cons_succ, i64_w, i32_w]
    rfl
  refine pure_ (i := 2) (N := some 48) (v := ?_) (a' := ?_) #[true, true, true, false, false, false, false, false, false, false, false, false, false, false] rfl rfl (any_of HT_.out (by kernel_rfl)) (fun _ _ _ h => h) (Or.inl ⟨by rfl, ?_⟩) ?_ ?_
  rotate_left
  · intro w'
    go_simp
    with_reducible rfl
  rotate_left
  · simp only [Act.put, List.setIfInBounds_toArray, List.set_cons_zero, List.set_cons_succ, i64_w, i32_w]
    rfl
  refine pure_ (i := 4) (N := some 50) (v := ?_) (a' := ?_) #[true, true, true, false, true, false, false, false, false, false, false, false, false, false] rfl rfl (any_of HT_.out (by kernel_rfl)) (fun _ _ _ h => h) (Or.inl ⟨by rfl, ?_⟩) ?_ ?_
  rotate_left
  · intro w'
    go_simp
    with_reducible rfl
  rotate_left
  · simp only [Act.put, List.setIfInBounds_toArray, List.set_cons_zero, List.set_cons_succ, i64_w, i32_w]
    rfl
  refine pure_ (i := 5) (N := some 51) (v := ?_) (a' := ?_) #[true, true, true, false, true, true, false, false, false, false, false, false, false, false] rfl rfl (any_of HT_.out (by kernel_rfl)) (fun _ _ _ h => h) (Or.inl ⟨by rfl, ?_⟩) ?_ ?_
  rotate_left
  · intro w'
    go_simp
    with_reducible rfl
  rotate_left
  · simp only [Act.put, List.setIfInBounds_toArray, List.set_cons_zero, List.set_cons_succ, i64_w, i32_w]
    rfl
  refine pure_ (i := 6) (N := some 52) (v := ?_) (a' := ?_) #[true, true, true, false, true, true, true, false, false, false, false, false, false, false] rfl rfl (any_of HT_.out (by kernel_rfl)) (fun _ _ _ h => h) (Or.inl ⟨by rfl, ?_⟩) ?_ ?_
  rotate_left
  · intro w'
    go_simp
    with_reducible rfl
  rotate_left
  · simp only [Act.put, List.setIfInBounds_toArray, List.set_cons_zero, List.set_cons_succ, i64_w, i32_w]
    rfl
  refine pure_ (i := 8) (N := some 54) (v := ?_) (a' := ?_) #[true, true, true, false, true, true, true, false, true, false, false, false, false, false] rfl rfl (any_of HT_.out (by kernel_rfl)) (fun _ _ _ h => h) (Or.inl ⟨by rfl, ?_⟩) ?_ ?_
  rotate_left
  · intro w'
    go_simp
    with_reducible rfl
  rotate_left
  · simp only [Act.put, List.setIfInBounds_toArray, List.set_cons_zero, List.set_cons_succ, i64_w, i32_w]
    rfl
  refine pure_ (i := 9) (N := some 55) (v := ?_) (a' := ?_) #[true, true, true, false, true, true, true, false, true, true, false, false, false, false] rfl rfl (any_of HT_.out (by kernel_rfl)) (fun _ _ _ h => h) (Or.inl ⟨by rfl, ?_⟩) ?_ ?_
  rotate_left
  · intro w'
    go_simp
    with_reducible rfl
  rotate_left
  · simp only [Act.put, List.setIfInBounds_toArray, List.set_cons_zero, List.set_cons_succ, i64_w, i32_w]
    rfl
  refine pure_ (i := 10) (N := some 56) (v := ?_) (a' := ?_) #[true, true, true, false, true, true, true, false, true, true, true, false, false, false] rfl rfl (any_of HT_.out (by kernel_rfl)) (fun _ _ _ h => h) (Or.inl ⟨by rfl, ?_⟩) ?_ ?_
  rotate_left
  · intro w'
    go_simp
    with_reducible rfl
  rotate_left
  · simp only [Act.put, List.setIfInBounds_toArray, List.set_cons_zero, List.set_cons_succ, i64_w, i32_w]
    rfl
  refine take_ (i := 3) (N := some 49) (v := ?_) (a' := ?_) #[true, true, true, true, true, true, true, false, true, true, true, false, false, false] rfl rfl (take_ofW HT_.out HW_.out (by kernel_rfl)) (fun _ _ _ h => h) (Or.inl ⟨by rfl, ?_⟩) hHeld ?_ ?_
  rotate_left
  · intro w' hSt
    refine (Sha.exec_load (p := .pointer (some ⟨a.p, 0, none⟩)) rfl rfl (root_load (HF.out.below hSt).blk HFR.out)).trans ?_
    rfl
  rotate_left
  · simp only [Act.put, List.setIfInBounds_toArray, List.set_cons_zero, List.set_cons_succ, i64_w, i32_w]
    rfl
  refine take_ (i := 7) (N := some 53) (v := ?_) (a' := ?_) #[true, true, true, true, true, true, true, true, true, true, true, false, false, false] rfl rfl (take_ofW HT_.out HW_.out (by kernel_rfl)) (fun _ _ _ h => h) (Or.inl ⟨by rfl, ?_⟩) hHeld ?_ ?_
  rotate_left
  · intro w' hSt
    obtain ⟨c0, _⟩ := (HF.out.below hSt).blk.cu HFR.out
    go_simp
    with_reducible rfl
  rotate_left
  · simp only [Act.put, List.setIfInBounds_toArray, List.set_cons_zero, List.set_cons_succ, i64_w, i32_w]
    rfl
  refine one_ (i := 11) (N := some 57) #[true, true, true, true, true, true, true, true, true, true, true, true, false, false] rfl rfl (one_of HT_.out (by kernel_rfl)) (by decide) (fun K hK => ?_)
  refine goes_ Tryd.func40 (by kernel_rfl) rfl #[vd f.R, .int .i64 (f.L : Int), .int .i64 (j : Int), .slice A l.length cl, .slice A' p.length cp] (by rfl) rfl rfl (by (try simp only [List.map_toArray, List.map_cons, List.map_nil]); first | done | rfl) ?_
  refine (check_any f.R f.L j A A' cl cp l p _ HFR.out (by have := HFL.out; omega) (Kd.C_below HLC.out hHeld) HLN.out.1 HLB.out (by have := HLN.out; omega) (Kd.C_below HPC.out hHeld) HPN.out.1 HPR.out (by have := HPN.out; omega) (HTB.out.below hHeld)).mono ?_
  rintro e wk ⟨rfl, hb⟩
  refine ⟨_, rfl, ?_⟩
  rw [HCB.out]
  have hS1 := below_step hHeld hb
  clear hb
  refine hK.out _ _ (by exact hS1) (fun hHeld => ?_)
  clear hK K
  refine norm_ (a' := ?_) ?_ ?_
  rotate_left
  · first
    | (show Act.put _ (some 57) _ = _; simp only [Act.put, List.setIfInBounds_toArray, List.set_cons_zero, List.set_cons_succ, i64_w, i32_w]; rfl)
    | rfl
  refine pure_ (i := 12) (N := some 58) (v := ?_) (a' := ?_) #[true, true, true, true, true, true, true, true, true, true, true, true, true, false] rfl rfl (any_of HT_.out (by kernel_rfl)) (fun _ _ _ h => h) (Or.inl ⟨by rfl, ?_⟩) ?_ ?_
  rotate_left
  · intro w'
    go_simp
    with_reducible rfl
  rotate_left
  · simp only [Act.put, List.setIfInBounds_toArray, List.set_cons_zero, List.set_cons_succ, i64_w, i32_w]
    rfl
  refine pure_ (i := 13) (N := some 45) (v := ?_) (a' := ?_) #[true, true, true, true, true, true, true, true, true, true, true, true, true, true] rfl rfl (any_of HT_.out (by kernel_rfl)) (fun _ _ _ h => h) (Or.inl ⟨by rfl, ?_⟩) ?_ ?_
  rotate_left
  · intro w'
    go_simp
    with_reducible rfl
  rotate_left
  · simp only [Act.put, List.setIfInBounds_toArray, List.set_cons_zero, List.set_cons_succ, i64_w, i32_w]
    rfl
  refine done_ (done_of HT_.out (by kernel_rfl)) ?_
  have hr := HRR.out
  rw [if_pos rfl] at hr
  injection hr with hr1 hr2
  injection hr2 with hr2 hr3
  have HR1 := Aside0.mk hr1
  have HR2 := Aside0.mk hr2
  have HR3 := Aside0.mk hr3
  have HLC2 := Aside0.mk (Kd.C_below HLC.out hHeld)
  have HF3 := Aside0.mk (HF.out.below hHeld)
  have HM3 := Aside0.mk ((Mov.of_below (lo := lo) (hi := hi) HB2.out).trans (Mov.of_below hHeld))
  clear hr1 hr2 hr3 hS0 hHeld HT_ HW_ HRR HLC HPC HLC0 HPC0 HTB HF HB2 HT H HCB
  have HLC := HLC2
  have HF := HF3
  clear HLC2 HF3
  generalize wk = w4 at HF HM3 HLC ⊢
  rcases A with _ | A0
  · exfalso
    have h9 := HSZ.out.1
    have h10 := HLC.out
    cases l with
    | nil => simp at h9
    | cons y ys => obtain ⟨ad, h11, _⟩ := h10.2.2 (by simp); cases h11
  obtain ⟨_, _, c2, c3, _⟩ := HF.out.blk.cu HFR.out
  clear c2 c3
  go_upto_region 11 with (fail)
  have hS0 : Below w4.heap.size w4 w4.drew := below_drew1 (Below.refl _ _)
  refine start_ (n := 8) (S := fun w' => Below w4.heap.size w4 w') (ds := [7]) #[false, false, false, false, false, false, false, false] (by kernel_rfl) rfl rfl (by exact hS0) (fun hHeld => ?_)
  refine with_tabW hea_tab11 hea_bits11 (fun HT_ HW_ => ?_)
  generalize w4.drew = wr at hHeld hS0 ⊢
  refine pure_ (i := 0) (N := some 66) (v := ?_) (a' := ?_) #[true, false, false, false, false, false, false, false] rfl rfl (any_of HT_.out (by kernel_rfl)) (fun _ _ _ h => h) (Or.inl ⟨by rfl, ?_⟩) ?_ ?_
  rotate_left
  · intro w'
    go_simp
    with_reducible rfl
  rotate_left
  · simp only [Act.put, List.setIfInBounds_toArray, List.set_cons_zero, List.set_cons_succ, i64_w, i32_w]
    rfl
  refine pure_ (i := 1) (N := some 67) (v := ?_) (a' := ?_) #[true, true, false, false, false, false, false, false] rfl rfl (any_of HT_.out (by kernel_rfl)) (fun _ _ _ h => h) (Or.inl ⟨by rfl, ?_⟩) ?_ ?_
  rotate_left
  · intro w'
    go_simp
    with_reducible rfl
  rotate_left
  · simp only [Act.put, List.setIfInBounds_toArray, List.set_cons_zero, List.set_cons_succ, i64_w, i32_w]
    rfl
  refine pure_ (i := 2) (N := some 68) (v := ?_) (a' := ?_) #[true, true, true, false, false, false, false, false] rfl rfl (any_of HT_.out (by kernel_rfl)) (fun _ _ _ h => h) (Or.inl ⟨by rfl, ?_⟩) ?_ ?_
  rotate_left
  · intro w'
    go_simp
    with_reducible rfl
  rotate_left
  · simp only [Act.put, List.setIfInBounds_toArray, List.set_cons_zero, List.set_cons_succ, i64_w, i32_w]
    rfl
  refine pure_ (i := 4) (N := some 70) (v := ?_) (a' := ?_) #[true, true, true, false, true, false, false, false] rfl rfl (any_of HT_.out (by kernel_rfl)) (fun _ _ _ h => h) (Or.inl ⟨by rfl, ?_⟩) ?_ ?_
  rotate_left
  · intro w'
    go_simp
    with_reducible rfl
  rotate_left
  · simp only [Act.put, List.setIfInBounds_toArray, List.set_cons_zero, List.set_cons_succ, i64_w, i32_w]
    rfl
  refine pure_ (i := 5) (N := some 71) (v := ?_) (a' := ?_) #[true, true, true, false, true, true, false, false] rfl rfl (any_of HT_.out (by kernel_rfl)) (fun _ _ _ h => h) (Or.inl ⟨by rfl, ?_⟩) ?_ ?_
  rotate_left
  · intro w'
    go_simp
    with_reducible rfl
  rotate_left
  · simp only [Act.put, List.setIfInBounds_toArray, List.set_cons_zero, List.set_cons_succ, i64_w, i32_w]
    rfl
  refine take_ (i := 3) (N := some 69) (v := ?_) (a' := ?_) #[true, true, true, true, true, true, false, false] rfl rfl (take_ofW HT_.out HW_.out (by kernel_rfl)) (fun _ _ _ h => h) (Or.inl ⟨by rfl, ?_⟩) hHeld ?_ ?_
  rotate_left
  · intro w' hSt
    obtain ⟨_, _, _, c3, _⟩ := (HF.out.below hSt).blk.cu HFR.out
    go_simp
    with_reducible rfl
  rotate_left
  · simp only [Act.put, List.setIfInBounds_toArray, List.set_cons_zero, List.set_cons_succ, i64_w, i32_w]
    rfl
  refine one_ (i := 6) (N := some 72) #[true, true, true, true, true, true, true, false] rfl rfl (one_of HT_.out (by kernel_rfl)) (by decide) (fun K hK => ?_)
  refine goes_ Tryd.func42 (by kernel_rfl) rfl #[.slice (some A0) l.length cl] (by rfl) rfl rfl (by (try simp only [List.map_toArray, List.map_cons, List.map_nil]); first | done | rfl) ?_
  refine (bclone_some A0 cl l _ (Kd.C_below HLC.out hHeld) (by have := HSZ.out; omega)).mono ?_
  rintro e wk ⟨v, rfl, ho, hv, hb⟩
  refine ⟨_, rfl, ?_⟩
  have HSS := Aside0.mk hHeld.size
  have HO := Aside0.mk ho
  have HV := Aside0.mk hv
  have hS1 := below_step hHeld hb
  clear hb ho hv
  refine hK.out _ _ (by exact hS1) (fun hHeld => ?_)
  clear hK K
  refine norm_ (a' := ?_) ?_ ?_
  rotate_left
  · first
    | (show Act.put _ (some 72) _ = _; simp only [Act.put, List.setIfInBounds_toArray, List.set_cons_zero, List.set_cons_succ, i64_w, i32_w]; rfl)
    | rfl
  refine last_ (i := 7) (N := none) #[true, true, true, true, true, true, true, true] rfl rfl (one_of HT_.out (by kernel_rfl)) (by decide) (fun K hK => ?_)
  have hgx := HF.out.mp.lt
  have hHS := HSS.out
  obtain ⟨⟨gv, hgv, hgb⟩, hoi⟩ := own_ints (base' := a.gx + 1) HO.out HLB.out HV.out (by omega)
  obtain ⟨w7, hrun, hmk, hgr⟩ := HF.out.mp.put (by omega) (i := j) (by have := HJ.out; omega) hHeld hoi HSZ.out.2 ⟨gv, hgv, by omega⟩
  refine skip_ (w1 := w7) (by rfl) rfl ?_ ?_
  · go_simp
  have HMK := Aside0.mk hmk
  have HGR := Aside0.mk hgr
  have HHE := Aside0.mk hHeld
  clear hrun hmk hgr hoi hgv hgb hgx hHS
  refine hK.out _ _ ?_
  clear hK K
  refine norm_ (a' := ?_) ?_ ?_
  rotate_left
  · first
    | (show Act.put _ none _ = _; simp only [Act.put, List.setIfInBounds_toArray, List.set_cons_zero, List.set_cons_succ, i64_w, i32_w]; rfl)
    | rfl
  refine done_ (done_of HT_.out (by kernel_rfl)) ?_
  have HF7 := Aside0.mk (HF.out.stored (fun k hk hne => ((HGR.out.block k (Nat.lt_of_lt_of_le hk HHE.out.size) (fun e => hne (by injection e))).trans (HHE.out.block k hk))) (HMK.out.more (by omega)) (fun q => by unfold updK; split; exact ⟨HSZ.out.2, HLB.out⟩; exact HF.out.hK q))
  have HM7 := Aside0.mk (HM3.out.trans (show Mov lo hi w4 w7 from ⟨HGR.out.os.trans HHE.out.os, HGR.out.tape.trans HHE.out.tape, HGR.out.output.trans HHE.out.output, Nat.le_trans HHE.out.size HGR.out.size, fun k hk h1 => ((HGR.out.block k (Nat.lt_of_lt_of_le hk HHE.out.size) (fun e => by injection e with e; have := HIN.out.x; omega)).trans (HHE.out.block k hk))⟩))
  obtain ⟨_, _, c2, _⟩ := HF7.out.blk.cu HFR.out
  rw [Int.toNat_natCast] at HR3
  clear hS0 HT_ HW_ HM3 HGR HHE HMK HO HV HSS HF
  go_wp2_with fail
  refine (had_at (r := r) (s' := s') (j : Int) _ HF7.out.pl (by rw [HNN.out]; exact HR1.out) (by rw [HNN.out]; exact HR2.out)).mono ?_
  rintro e w9 ⟨rfl, hpw, hch⟩
  have HF9 := Aside0.mk (HF7.out.turn hpw hch)
  have HM9 := Aside0.mk (HM7.out.trans (Mov.of_chg hch HIN.out.c HIN.out.d HIN.out.m))
  clear hpw hch c2
  go_wp2
  go_ret
  exact ⟨rfl, by rw [← HR3.out]; exact HF9.out, HM9.out⟩
end Go.Proofs.YtoiblfmlahedlaaDoor.Fe
end
section
namespace Go.Proofs.YtoiblfmlahedlaaDoor.Fe
open Go.RowKit Go.Proofs.YtoiblfmlahedlaaDoorW.PrintWords Go.Proofs.YtoiblfmlahedlaaDoorW.PrintLast Go.Proofs.YtoiblfmlahedlaaDoorW.PrintMore
set_option linter.unusedVariables false
set_option linter.unusedSimpArgs false
set_option maxRecDepth 100000
open Go.Proofs.YtoiblfmlahedlaaDoor.As (St PW Pl Chg leftF ks0 mayB inB new_at)
open Go.Proofs.YtoiblfmlahedlaaDoor.Sha (cb vd countN rootOf checkB B KD isRow)
theorem cloneP {A : Option Addr} {c : Nat} {xs : List Int} (w : World) (hr : I.C w A xs.length xs) (hl : xs.length ≤ 1000000) :
    Calls Tryd.prog 30 #[.slice A xs.length c] w fun e w' => ∃ v, e = .returned v ∧ Kd.R I 3 w' w.heap.size (fun _ => True) v xs ∧ Below w.heap.size w w' := by
  rcases A with _ | a
  · cases xs with
    | nil =>
      refine (clone_nil c w).mono ?_
      rintro e w' ⟨rfl, rfl⟩
      exact ⟨_, rfl, Kd.R_nil _ _ _ _ _, Below.refl _ _⟩
    | cons y ys => obtain ⟨ad, h11, _⟩ := hr.2.2 (by simp); cases h11
  · refine (clone_some a c xs w hr hl).mono ?_
    rintro e w' ⟨v, rfl, h1, _, h2⟩
    exact ⟨v, rfl, h1, h2⟩
theorem peR {w : World} {base : Nat} {v : Value} {xs : List Int} (h : Kd.R I 3 w base (fun _ => True) v xs) : ∃ A c, v = .slice A xs.length c ∧ Pe w A xs ∧ ∀ g, A = some ⟨g, 0, none⟩ → base ≤ g := by
  have ho := Kd.own_of_R h
  rcases ho with ⟨e0, ⟨h0, h1⟩ | ⟨g, cap, cur, rfl, hB, hg, hnc, hcm, hcs, ht⟩⟩
  · have : xs = [] := List.eq_nil_of_length_eq_zero h1
    subst this
    exact ⟨none, 0, h0, Or.inl ⟨rfl, rfl⟩, fun g e => by cases e⟩
  · refine ⟨_, _, rfl, Or.inr ⟨g, cur, rfl, hg, fun j x hx => ?_⟩, fun g' e => by injection e with e; injection e with e; omega⟩
    have hj := (List.getElem?_eq_some_iff.1 hx).1
    have e : (cur.toList.take (xs.length * 1))[j]? = cur.toList[j]? := List.getElem?_take_of_lt (by omega)
    rw [ht] at e
    have e2 : (encs (Value.int .i64) xs)[j]? = some (.int .i64 x) := by
      unfold encs
      rw [List.getElem?_map, hx]
      rfl
    rw [← Array.getElem?_toList, ← e]
    exact e2
def Cl (w : World) (base : Nat) (v : Value) (n : Nat) (xs : List Int) : Prop := (v = .slice none 0 0 ∧ n = 0 ∧ xs = []) ∨ ∃ g cap, v = .slice (some ⟨g, 0, none⟩) n cap ∧ xs.length = n ∧ Nm w base g cap xs
theorem sortP {base : Nat} {v : Value} {xs : List Int} (w : World) (h : Kd.R I 3 w base (fun _ => True) v xs) (hl : xs.length ≤ 1000000) :
    Calls Tryd.prog 31 #[v] w fun e w' => e = .returned (.tuple #[]) ∧ Cl w' base v xs.length (srt xs) ∧ Below base w w' := by
  by_cases hv : v = .slice none 0 0
  · subst hv
    have hx : xs = [] := by
      rcases Kd.own_of_R h with ⟨e0, ⟨h0, h1⟩ | ⟨g, cap, cur, h0, _⟩⟩
      · exact List.eq_nil_of_length_eq_zero h1
      · cases h0
    subst hx
    refine (Tryd.slices_Sort_int_none none 0 w).mono ?_
    rintro e w' ⟨rfl, rfl⟩
    exact ⟨rfl, Or.inl ⟨rfl, rfl, by simp [srt]⟩, Below.refl _ _⟩
  · obtain ⟨g, cap, rfl, hn⟩ := nm_of_R h hv
    refine (sort_calls w hn hl).mono ?_
    rintro e w' ⟨rfl, h1, h2⟩
    exact ⟨rfl, Or.inr ⟨g, cap, rfl, List.length_mergeSort _, h1⟩, h2⟩
theorem compactP {base n : Nat} {v : Value} {xs : List Int} (w : World) (h : Cl w base v n xs) (hl : n ≤ 1000000) :
    Calls Tryd.prog 32 #[v] w fun e w' => ∃ A c, e = .returned (.slice A (Go.Lib.compact xs).length c) ∧ Below base w w' := by
  rcases h with ⟨rfl, rfl, rfl⟩ | ⟨g, cap, rfl, hn, h⟩
  · refine (Tryd.slices_Compact_int_empty none 0 w).mono ?_
    rintro e w' ⟨rfl, rfl⟩
    exact ⟨none, 0, by rfl, Below.refl _ _⟩
  · subst hn
    refine (compact_calls w h hl).mono ?_
    rintro e w' ⟨rfl, h1⟩
    exact ⟨_, _, rfl, h1⟩
def fmayB (L : Int) (ps : List Int) (win tm bu : Int) : Bool :=
  if 1 ≤ L ∧ L ≤ 5000 ∧ ps.Nodup ∧ 1 ≤ bu ∧ bu ≤ 1000000 then mayB (countN L.toNat) ps.length win tm else false
def NewY (w w' : World) (R : List Int) (L : Nat) (ps : List Int) (win tm : Int) (bu : Nat) (be : Int) (v : Value) : Prop :=
  ∃ a : Ad, v = .pointer (some ⟨a.p, 0, none⟩) ∧ FW w' a ⟨R, L, ps, win, tm, bu, be⟩ 0 ks0 (fun _ => []) ∧ In a w.heap.size w'.heap.size ∧ Below w.heap.size w w'
end Go.Proofs.YtoiblfmlahedlaaDoor.Fe
end
section
namespace Go.Proofs.YtoiblfmlahedlaaDoor.Fe
open Go.RowKit Go.Proofs.YtoiblfmlahedlaaDoorW.PrintWords Go.Proofs.YtoiblfmlahedlaaDoorW.PrintLast Go.Proofs.YtoiblfmlahedlaaDoorW.PrintMore
set_option linter.unusedVariables false
set_option linter.unusedSimpArgs false
set_option maxRecDepth 100000
open Go.Proofs.YtoiblfmlahedlaaDoor.As (St PW Pl Chg leftF ks0 mayB inB new_at)
open Go.Proofs.YtoiblfmlahedlaaDoor.Sha (cb vd countN rootOf checkB B KD isRow)
def NF (base : Nat) (w : World) (v : Value) (ps : List Int) : Prop := ∃ A c, v = .slice A ps.length c ∧ Pe w A ps ∧ ∀ g, A = some ⟨g, 0, none⟩ → base ≤ g
theorem NF.below {base : Nat} {w w' : World} {v : Value} {ps : List Int} (h : NF base w v ps) (hb : Below w.heap.size w w') : NF base w' v ps := by
  obtain ⟨A, c, e, h1, h2⟩ := h
  exact ⟨A, c, e, h1.below hb, h2⟩
theorem NF.of {b base : Nat} {w : World} {v : Value} {ps : List Int} (h : Kd.R I 3 w base (fun _ => True) v ps) (hb : b ≤ base) : NF b w v ps := by
  obtain ⟨A, c, e, h1, h2⟩ := peR h
  exact ⟨A, c, e, h1, fun g hg => Nat.le_trans hb (h2 g hg)⟩
theorem box_load {w : World} {g : Nat} {R : List Int} (h : w.heap[g]? = some (.cells (cb R) 31 (0, 0))) (hR : R.length = 32) : (Instr.loadAt 31 (.pointer (some ⟨g, 0, none⟩))).run Tryd.prog w = .ok (.agg (cb R)) w :=
  Sha.run_loadAt_cells w _ 31 (cb R) _ (by
    have := run_loadCells_list (P := Tryd.prog) (w := w) ⟨g, 0, none⟩ (R.map (Value.int .u8)) (fun j v hv => by
      rw [show (Addr.mk g 0 none).add j = ⟨g, 0 + j, none⟩ by simp [Addr.add_lit], Nat.zero_add]
      have h2 : (cb R)[j]? = some v := by
        unfold cb
        rw [List.getElem?_toArray]
        exact hv
      simp [World.cell?, h, h2])
    simpa [loadCells, cb] using this) Tryd.underlying31 rfl (Sha.infoDg _ hR)
theorem exec_build_ {P : Program} {o : Oper} {a : Act} {w : World} {t : TypeId} {parts : Array (Nat × Operand)} {cells : Array Value} (ho : o.op = .build t parts) (h : P.built t (parts.map fun (i, x) => (i, a.eval x)).toList = some cells) : (execOp a.eval o).run P w = .ok (.value (.agg cells)) w := by
  have h1 := run_build (P := P) w t (parts.map fun (i, x) => (i, a.eval x)) cells h
  unfold execOp
  simp only [ho, Sem.run_bind, h1, Result.andThen_ok]
  rfl
theorem built_fetch {R : List Int} (hR : R.length = 32) (a : Ad) (f : Cf) (hf : f.R = R) :
    Tryd.prog.built 62 [(0, vd R), (1, .int .i64 (f.L : Int)), (2, .slice a.A f.ps.length a.cp), (3, .pointer (some ⟨a.q, 0, none⟩)), (4, .map (some a.gx)), (5, .int .i64 (f.bu : Int)), (6, .int .i64 f.be)] = some (fCs a f) := by
  subst hf
  obtain ⟨R, L, ps, win, tm, bu, be⟩ := f
  match R, hR with
  | [r0, r1, r2, r3, r4, r5, r6, r7, r8, r9, r10, r11, r12, r13, r14, r15, r16, r17, r18, r19, r20, r21, r22, r23, r24, r25, r26, r27, r28, r29, r30, r31], _ =>
    show _ = _
    kernel_rfl
theorem mk_new {w : World} {gx : Nat} (h : w.heap[gx]? = some (.map #[] 0)) : Mk w gx 64 (fun _ => []) :=
  ⟨.map [], ⟨#[], 0, h, ⟨by simp, ⟨by simp, by simp⟩, by simp⟩, by simp, rfl, by omega, by simp, by simp⟩, ⟨[], rfl⟩, fun i hi => rfl, by omega⟩
def fnw_T8 : Bool × List (List Nat × List Nat) := (true, [([], []), ([], []), ([], []), ([2], [2]), ([], []), ([], []), ([], []), ([], []), ([0, 1, 3, 4, 5, 6, 7], [0, 1, 3, 4, 5, 6, 7]), ([8], [8]), ([9, 3, 0, 1, 2, 3, 4, 5, 6, 7, 8, 9], [9]), ([10, 0, 1, 2, 3, 4, 5, 6, 7, 8, 9, 10], [])])
def fnw_B8 : List Nat := [0, 0, 0, 4, 0, 0, 0, 0, 255, 511, 1023, 2047]
theorem fnw_tab8 : rtab .any (opsOf Tryd.f12 8) = fnw_T8 := by kernel_rfl
theorem fnw_bits8 : waitsOk fnw_T8.2 fnw_B8 = true := by kernel_rfl
set_option maxHeartbeats 3200000 in
theorem fnew_yes {w : World} {R ps : List Int} {A : Option Addr} {cp : Nat} {L win tm bu be : Int} (hR : R.length = 32) (hRb : Sha.bytes R) (hp : I.C w A ps.length ps) (hpc : ps.length ≤ 1000000) (hpw : ∀ x ∈ ps, -9223372036854775808 ≤ x ∧ x ≤ 9223372036854775807)
    (hbe : -9223372036854775808 ≤ be ∧ be ≤ 9223372036854775807) (hok : fmayB L ps win tm bu = true) :
    Calls Tryd.prog 12 #[vd R, .int .i64 L, .slice A ps.length cp, .int .i64 win, .int .i64 tm, .int .i64 bu, .int .i64 be] w fun e w' => ∃ v, e = .returned (.tuple #[v, .int .i64 0]) ∧ NewY w w' R L.toNat ps win tm bu.toNat be v := by
  have HR := Aside0.mk hR
  have HRb := Aside0.mk hRb
  have HP := Aside0.mk hp
  have HPW := Aside0.mk hpw
  have HBE := Aside0.mk hbe
  have HCM := Aside0.mk (twins ps)
  have HOK := Aside0.mk hok
  clear hR hRb hp hpw hbe hok
  go_enter Tryd.func12, Tryd.ntmps12
  go_upto_region 1 with (fail)
  obtain ⟨w2, hw2⟩ : ∃ w2, w.alloc (.cells (cb R) 31) = w2 := ⟨_, rfl⟩
  have hn0 : w2.heap[w.heap.size]? = some (.cells (cb R) 31 (0, 0)) := by rw [← hw2]; exact Go.Proofs.YtoiblfmlahedlaaDoor.As.heap_new _ _
  have HB2 := Aside0.mk (show Below w.heap.size w w2 by rw [← hw2]; exact (Below.refl _ _).alloc (Nat.le_refl _) _)
  have HN0 := Aside0.mk hn0
  have HSZ2 := Aside0.mk (show w2.heap.size = w.heap.size + 1 by rw [← hw2]; simp)
  first | rw [hw2] | (simp only [vd, cb] at hw2 ⊢; rw [hw2])
  clear hw2 hn0
  generalize hgp : w.heap.size = gp at HN0 ⊢
  replace hgp := Aside0.mk hgp
  go_wp2_with fail
  refine (cloneP _ (Kd.C_below HP.out HB2.out) hpc).mono ?_
  rintro e w3 ⟨v3, rfl, hR3, hb⟩
  have HR3 := Aside0.mk hR3
  have HB3 := Aside0.mk hb
  clear hR3 hb
  go_wp2_with fail
  refine (sortP _ HR3.out hpc).mono ?_
  rintro e w4 ⟨rfl, hcl, hb⟩
  have HCL := Aside0.mk hcl
  have HB4 := Aside0.mk (HB3.out.trans hb)
  have HB5 := Aside0.mk (below_step HB2.out HB4.out)
  clear hcl hb
  have hmay := HOK.out
  unfold fmayB at hmay
  by_cases hcs : 1 ≤ L ∧ L ≤ 5000 ∧ ps.Nodup ∧ 1 ≤ bu ∧ bu ≤ 1000000
  rotate_left
  · rw [if_neg hcs] at hmay
    cases hmay
  rw [if_pos hcs] at hmay
  obtain ⟨h1, h2, h3, h4, h5⟩ := hcs
  obtain ⟨L, rfl⟩ := Int.eq_ofNat_of_zero_le (show 0 ≤ L by omega)
  obtain ⟨bu, rfl⟩ := Int.eq_ofNat_of_zero_le (show 0 ≤ bu by omega)
  rw [Int.toNat_natCast] at hmay
  have HMAY := Aside0.mk hmay
  have hL : 1 ≤ L ∧ L ≤ 5000 := by omega
  have HBU := Aside0.mk (show 1 ≤ bu ∧ bu ≤ 1000000 by omega)
  have h3' := HCM.out.2 h3
  have e1 : decide ((L : Int) < 1) = false := decide_eq_false (by omega)
  have e1' : decide (L < 1) = false := decide_eq_false (by omega)
  have e2 : decide ((L : Int) > 5000) = false := decide_eq_false (by omega)
  have e2' : decide (L > 5000) = false := decide_eq_false (by omega)
  have e7 : decide ((bu : Int) < 1) = false := decide_eq_false (by omega)
  have e7' : decide (bu < 1) = false := decide_eq_false (by omega)
  have e8 : decide ((bu : Int) > 1000000) = false := decide_eq_false (by omega)
  have e8' : decide (bu > 1000000) = false := decide_eq_false (by omega)
  clear h1 h2 h3 h4 h5 hmay
  replace hL := Aside0.mk hL
  go_wp2_with fail
  refine (compactP _ HCL.out hpc).mono ?_
  rintro e w6 ⟨A6, c6, rfl, hb⟩
  have HB6 := Aside0.mk (below_step HB2.out (HB4.out.trans hb))
  have HB26 := Aside0.mk (HB4.out.trans hb)
  clear hb
  rw [h3']
  clear h3'
  go_wp2_with fail
  refine (Sha.count_calls L _ (by have := hL.out; omega)).mono ?_
  rintro e w7 ⟨rfl, hw⟩
  replace hw := hw.symm
  subst hw
  go_wp2_with fail
  refine (new_at _ _ _ _ _ HMAY.out).mono ?_
  rintro e w7 ⟨q, gc, gd, gm, cc, cd, rfl, hpw7, hb, l1, l2, l3, l4⟩
  have HPW7 := Aside0.mk hpw7
  have HB7 := Aside0.mk hb
  have HLL := Aside0.mk (show w6.heap.size ≤ q ∧ w6.heap.size ≤ gc ∧ w6.heap.size ≤ gd ∧ w6.heap.size ≤ gm from ⟨l1, l2, l3, l4⟩)
  clear hpw7 hb l1 l2 l3 l4
  have HN7 := Aside0.mk (Go.Proofs.YtoiblfmlahedlaaDoor.As.heap_keep HN0.out (below_step HB26.out HB7.out))
  have HP7 := Aside0.mk (Kd.C_below HP.out (below_step HB6.out HB7.out))
  have k3 := @run_makeMap Tryd.prog
  go_upto_region 8 with (fail)
  have hS0 : Below w7.heap.size w7 w7.drew := below_drew1 (Below.refl _ _)
  refine start_ (n := 12) (S := fun w' => Below w7.heap.size w7 w') (ds := []) #[false, false, false, false, false, false, false, false, false, false, false, false] (by kernel_rfl) rfl rfl (by exact hS0) (fun hHeld => ?_)
  refine with_tabW fnw_tab8 fnw_bits8 (fun HT_ HW_ => ?_)
  generalize w7.drew = wq at hHeld hS0 ⊢
  refine pure_ (i := 1) (N := some 59) (v := ?_) (a' := ?_) #[false, true, false, false, false, false, false, false, false, false, false, false] rfl rfl (any_of HT_.out (by kernel_rfl)) (fun _ _ _ h => h) (Or.inl ⟨by rfl, ?_⟩) ?_ ?_
  rotate_left
  · intro w'
    go_simp
    with_reducible rfl
  rotate_left
  · simp only [Act.put, List.setIfInBounds_toArray, List.set_cons_zero, List.set_cons_succ, i64_w, i32_w]
    rfl
  refine pure_ (i := 2) (N := some 60) (v := ?_) (a' := ?_) #[false, true, true, false, false, false, false, false, false, false, false, false] rfl rfl (any_of HT_.out (by kernel_rfl)) (fun _ _ _ h => h) (Or.inl ⟨by rfl, ?_⟩) ?_ ?_
  rotate_left
  · intro w'
    go_simp
    with_reducible rfl
  rotate_left
  · simp only [Act.put, List.setIfInBounds_toArray, List.set_cons_zero, List.set_cons_succ, i64_w, i32_w]
    rfl
  refine pure_ (i := 4) (N := some 62) (v := ?_) (a' := ?_) #[false, true, true, false, true, false, false, false, false, false, false, false] rfl rfl (any_of HT_.out (by kernel_rfl)) (fun _ _ _ h => h) (Or.inl ⟨by rfl, ?_⟩) ?_ ?_
  rotate_left
  · intro w'
    go_simp
    with_reducible rfl
  rotate_left
  · simp only [Act.put, List.setIfInBounds_toArray, List.set_cons_zero, List.set_cons_succ, i64_w, i32_w]
    rfl
  refine pure_ (i := 6) (N := some 64) (v := ?_) (a' := ?_) #[false, true, true, false, true, false, true, false, false, false, false, false] rfl rfl (any_of HT_.out (by kernel_rfl)) (fun _ _ _ h => h) (Or.inl ⟨by rfl, ?_⟩) ?_ ?_
  rotate_left
  · intro w'
    go_simp
    with_reducible rfl
  rotate_left
  · simp only [Act.put, List.setIfInBounds_toArray, List.set_cons_zero, List.set_cons_succ, i64_w, i32_w]
    rfl
  refine pure_ (i := 7) (N := some 65) (v := ?_) (a' := ?_) #[false, true, true, false, true, false, true, true, false, false, false, false] rfl rfl (any_of HT_.out (by kernel_rfl)) (fun _ _ _ h => h) (Or.inl ⟨by rfl, ?_⟩) ?_ ?_
  rotate_left
  · intro w'
    go_simp
    with_reducible rfl
  rotate_left
  · simp only [Act.put, List.setIfInBounds_toArray, List.set_cons_zero, List.set_cons_succ, i64_w, i32_w]
    rfl
  refine take_ (i := 0) (N := some 58) (v := ?_) (a' := ?_) #[true, true, true, false, true, false, true, true, false, false, false, false] rfl rfl (take_ofW HT_.out HW_.out (by kernel_rfl)) (fun _ _ _ h => h) (Or.inl ⟨by rfl, ?_⟩) hHeld ?_ ?_
  rotate_left
  · intro w' hSt
    refine (Sha.exec_load (p := .pointer (some ⟨gp, 0, none⟩)) rfl rfl (box_load (Go.Proofs.YtoiblfmlahedlaaDoor.As.heap_keep HN7.out hSt) HR.out)).trans ?_
    rfl
  rotate_left
  · simp only [Act.put, List.setIfInBounds_toArray, List.set_cons_zero, List.set_cons_succ, i64_w, i32_w]
    rfl
  refine join_ (σ := Value × Nat) 4 #[true, true, true, true, true, true, true, true, false, false, false, false] (fun s => [(61, s.1), (63, .map (some s.2))]) (fun s w' => Aside0 (NF w7.heap.size w' s.1 ps) ∧ Aside0 (w'.heap[s.2]? = some (.map #[] 0)) ∧ Aside0 (w7.heap.size ≤ s.2) ∧ Aside0 (Below w7.heap.size w7 w')) ?_ ?_
  rotate_left
  · intro hJ
    refine two_ (i := 3) (j := 5) (Ni := some 61) (Nj := some 63) #[true, true, true, true, true, false, true, true, false, false, false, false] #[true, true, true, false, true, true, true, true, false, false, false, false] rfl rfl rfl rfl (two_of HT_.out (by kernel_rfl)) (by decide) (by decide) (fun K hK => ?_) (fun K hK => ?_)
    · skip
      refine goes_ Tryd.func30 (by kernel_rfl) rfl #[.slice A ps.length cp] (by rfl) rfl rfl (by (try simp only [List.map_toArray, List.map_cons, List.map_nil]); first | done | rfl) ?_
      refine (cloneP _ (Kd.C_below HP7.out hHeld) hpc).mono ?_
      rintro e v1 ⟨vv, rfl, hRv, hb1⟩
      refine ⟨_, rfl, ?_⟩
      have F1 := Aside0.mk (NF.of hRv hHeld.size)
      have hS1 := below_step hHeld hb1
      clear hRv
      refine hK.out _ _ (by exact hS1) (fun hHeld => ?_)
      clear hK K
      refine norm_ (a' := ?_) ?_ ?_
      rotate_left
      · first
        | (show Act.put _ (some 61) _ = _; simp only [Act.put, List.setIfInBounds_toArray, List.set_cons_zero, List.set_cons_succ, i64_w, i32_w]; rfl)
        | rfl
      refine one_ (i := 5) (N := some 63) #[true, true, true, true, true, true, true, true, false, false, false, false] rfl rfl (one_of HT_.out (by kernel_rfl)) (by decide) (fun K hK => ?_)
      obtain ⟨v4, hv4⟩ : ∃ v, v = World.alloc v1 (.map #[] 0) := ⟨_, rfl⟩
      refine value_ (v := .map (some v1.heap.size)) (w1 := v4) (by rfl) rfl (by rw [hv4]; go_simp; first | done | rfl) ?_
      have hb4 : Below v1.heap.size v1 v4 := by rw [hv4]; exact (Below.refl _ _).alloc (Nat.le_refl _) _
      have F2 := Aside0.mk (show v4.heap[v1.heap.size]? = some (.map #[] 0) by rw [hv4]; exact Go.Proofs.YtoiblfmlahedlaaDoor.As.heap_new _ _)
      have F3 := Aside0.mk (F1.out.below hb4)
      have G1 := Aside0.mk hHeld.size
      have hS1 := below_step hHeld hb4
      clear hv4
      refine hK.out _ _ (by exact hS1) (fun hHeld => ?_)
      clear hK K
      refine norm_ ?_ (hJ (vv, v1.heap.size) _ ⟨F3, F2, G1, ⟨hHeld⟩⟩)
      first
        | (simp only [putAll]; simp only [Act.put, List.setIfInBounds_toArray, List.set_cons_zero, List.set_cons_succ, i64_w, i32_w]; done)
        | (simp only [putAll]; simp only [Act.put, List.setIfInBounds_toArray, List.set_cons_zero, List.set_cons_succ, i64_w, i32_w]; rfl)
        | rfl
    · skip
      obtain ⟨v4, hv4⟩ : ∃ v, v = World.alloc wq (.map #[] 0) := ⟨_, rfl⟩
      refine value_ (v := .map (some wq.heap.size)) (w1 := v4) (by rfl) rfl (by rw [hv4]; go_simp; first | done | rfl) ?_
      have hb4 : Below wq.heap.size wq v4 := by rw [hv4]; exact (Below.refl _ _).alloc (Nat.le_refl _) _
      have F2 := Aside0.mk (show v4.heap[wq.heap.size]? = some (.map #[] 0) by rw [hv4]; exact Go.Proofs.YtoiblfmlahedlaaDoor.As.heap_new _ _)
      have G1 := Aside0.mk hHeld.size
      have hS1 := below_step hHeld hb4
      clear hv4
      refine hK.out _ _ (by exact hS1) (fun hHeld => ?_)
      clear hK K
      refine norm_ (a' := ?_) ?_ ?_
      rotate_left
      · first
        | (show Act.put _ (some 63) _ = _; simp only [Act.put, List.setIfInBounds_toArray, List.set_cons_zero, List.set_cons_succ, i64_w, i32_w]; rfl)
        | rfl
      refine one_ (i := 3) (N := some 61) #[true, true, true, true, true, true, true, true, false, false, false, false] rfl rfl (one_of HT_.out (by kernel_rfl)) (by decide) (fun K hK => ?_)
      refine goes_ Tryd.func30 (by kernel_rfl) rfl #[.slice A ps.length cp] (by rfl) rfl rfl (by (try simp only [List.map_toArray, List.map_cons, List.map_nil]); first | done | rfl) ?_
      refine (cloneP _ (Kd.C_below HP7.out hHeld) hpc).mono ?_
      rintro e v1 ⟨vv, rfl, hRv, hb1⟩
      refine ⟨_, rfl, ?_⟩
      have F1 := Aside0.mk (NF.of hRv hHeld.size)
      have F3 := Aside0.mk (Go.Proofs.YtoiblfmlahedlaaDoor.As.heap_keep F2.out hb1)
      have hS1 := below_step hHeld hb1
      clear hRv
      refine hK.out _ _ (by exact hS1) (fun hHeld => ?_)
      clear hK K
      refine norm_ ?_ (hJ (vv, wq.heap.size) _ ⟨F1, F3, G1, ⟨hHeld⟩⟩)
      first
        | (simp only [putAll]; simp only [Act.put, List.setIfInBounds_toArray, List.set_cons_zero, List.set_cons_succ, i64_w, i32_w]; done)
        | (simp only [putAll]; simp only [Act.put, List.setIfInBounds_toArray, List.set_cons_zero, List.set_cons_succ, i64_w, i32_w]; rfl)
        | rfl
  rintro ⟨vc, gx⟩ w9 ⟨HNF, HGX, HGL, HB9⟩
  replace HNF : Aside0 (NF w7.heap.size w9 vc ps) := HNF
  replace HGX : Aside0 (w9.heap[gx]? = some (.map #[] 0)) := HGX
  replace HGL : Aside0 (w7.heap.size ≤ gx) := HGL
  obtain ⟨A5, c5, e5, hpe5, hpa5⟩ := HNF.out
  subst e5
  have HPE5 := Aside0.mk hpe5
  have HPA5 := Aside0.mk hpa5
  clear hpe5 hpa5 HNF
  refine norm_ (a' := ?_) ?_ ?_
  rotate_left
  · simp only [putAll]
    simp only [Act.put, List.setIfInBounds_toArray, List.set_cons_zero, List.set_cons_succ, i64_w, i32_w]
    rfl
  have hHeld := HB9.out
  refine pure_ (i := 8) (N := some 66) (v := ?_) (a' := ?_) #[true, true, true, true, true, true, true, true, true, false, false, false] rfl rfl (any_of HT_.out (by kernel_rfl)) (fun _ _ _ h => h) (Or.inl ⟨by rfl, ?_⟩) ?_ ?_
  rotate_left
  · intro w'
    refine exec_build_ (t := 62) (parts := #[(0, .tmp 58), (1, .tmp 59), (2, .tmp 61), (3, .tmp 62), (4, .tmp 63), (5, .tmp 64), (6, .tmp 65)]) (cells := fCs ⟨w9.heap.size, A5, c5, q, gc, gd, gm, cc, cd, gx⟩ ⟨R, L, ps, win, tm, bu, be⟩) ?hob ?hbb
    case hob => rfl
    refine (Eq.trans (congrArg (Tryd.prog.built 62) ?_) (built_fetch HR.out ⟨w9.heap.size, A5, c5, q, gc, gd, gm, cc, cd, gx⟩ ⟨R, L, ps, win, tm, bu, be⟩ rfl))
    first | (go_simp; done) | rfl | (simp; done)
  rotate_left
  · simp only [Act.put, List.setIfInBounds_toArray, List.set_cons_zero, List.set_cons_succ, i64_w, i32_w]
    rfl
  refine one_ (i := 9) (N := some 67) #[true, true, true, true, true, true, true, true, true, true, false, false] rfl rfl (one_of HT_.out (by kernel_rfl)) (by decide) (fun K hK => ?_)
  obtain ⟨wA, hwA⟩ : ∃ wA, wA = w9.alloc (.cells (fCs ⟨w9.heap.size, A5, c5, q, gc, gd, gm, cc, cd, gx⟩ ⟨R, L, ps, win, tm, bu, be⟩) 62) := ⟨_, rfl⟩
  refine value_ (v := .pointer (some ⟨w9.heap.size, 0, none⟩)) (w1 := wA) (by rfl) rfl (by rw [hwA]; go_simp; first | done | rfl) ?_
  have hbA : Below w9.heap.size w9 wA := by rw [hwA]; exact (Below.refl _ _).alloc (Nat.le_refl _) _
  have HNW := Aside0.mk (show wA.heap[w9.heap.size]? = some (.cells (fCs ⟨w9.heap.size, A5, c5, q, gc, gd, gm, cc, cd, gx⟩ ⟨R, L, ps, win, tm, bu, be⟩) 62 (0, 0)) by rw [hwA]; exact Go.Proofs.YtoiblfmlahedlaaDoor.As.heap_new _ _)
  have HNS := Aside0.mk (show w9.heap.size < wA.heap.size from (Array.getElem?_eq_some_iff.1 HNW.out).1)
  have HBA := Aside0.mk hbA
  have HB9S := Aside0.mk hHeld.size
  have hS1 := below_step hHeld hbA
  clear hwA
  refine hK.out _ _ (by exact hS1) (fun hHeld => ?_)
  clear hK K
  refine norm_ (a' := ?_) ?_ ?_
  rotate_left
  · first
    | (show Act.put _ (some 67) _ = _; simp only [Act.put, List.setIfInBounds_toArray, List.set_cons_zero, List.set_cons_succ, i64_w, i32_w]; rfl)
    | rfl
  refine pure_ (i := 10) (N := some 14) (v := ?_) (a' := ?_) #[true, true, true, true, true, true, true, true, true, true, true, false] rfl rfl (any_of HT_.out (by kernel_rfl)) (fun _ _ _ h => h) (Or.inl ⟨by rfl, ?_⟩) ?_ ?_
  rotate_left
  · intro w'
    go_simp
    with_reducible rfl
  rotate_left
  · simp only [Act.put, List.setIfInBounds_toArray, List.set_cons_zero, List.set_cons_succ, i64_w, i32_w]
    rfl
  refine pure_ (i := 11) (N := some 15) (v := ?_) (a' := ?_) #[true, true, true, true, true, true, true, true, true, true, true, true] rfl rfl (any_of HT_.out (by kernel_rfl)) (fun _ _ _ h => h) (Or.inl ⟨by rfl, ?_⟩) ?_ ?_
  rotate_left
  · intro w'
    go_simp
    with_reducible rfl
  rotate_left
  · simp only [Act.put, List.setIfInBounds_toArray, List.set_cons_zero, List.set_cons_succ, i64_w, i32_w]
    rfl
  refine done_ (done_of HT_.out (by kernel_rfl)) ?_
  have hHH := hHeld
  clear hS0 hHeld HT_ HW_
  go_wp2
  go_ret2
  refine ⟨_, rfl, ?_⟩
  rw [Int.toNat_natCast, Int.toNat_natCast]
  have hq := (Array.getElem?_eq_some_iff.1 HPW7.out.pl.blk).1
  obtain ⟨_, gc1, _⟩ := HPW7.out.pl.ch
  obtain ⟨_, gd1, _⟩ := HPW7.out.pl.de
  obtain ⟨_, ⟨_, _, gm1, _⟩, _⟩ := HPW7.out.mp
  have hgc := (Array.getElem?_eq_some_iff.1 gc1).1
  have hgd := (Array.getElem?_eq_some_iff.1 gd1).1
  have hgm := (Array.getElem?_eq_some_iff.1 gm1).1
  have hgx := (Array.getElem?_eq_some_iff.1 HGX.out).1
  have hgl := HGL.out
  have hll := HLL.out
  have h6s := HB6.out.size
  have hns := HNS.out
  have h9s := HB9S.out
  have hm1 := HPW7.out.pl.m1
  refine ⟨⟨w9.heap.size, A5, c5, q, gc, gd, gm, cc, cd, gx⟩, rfl, ⟨HNW.out, HPW7.out.below hHH, HPE5.out.below HBA.out, mk_new (Go.Proofs.YtoiblfmlahedlaaDoor.As.heap_keep HGX.out HBA.out), ?_, ?_, ?_, HR.out, HRb.out, hL.out, hm1, HBU.out, HBE.out, HPW.out, fun i => ⟨by simp, fun x hx => by cases hx⟩⟩, ⟨?_, ?_, ?_, ?_, ?_, ?_⟩, below_step (below_step HB6.out HB7.out) hHH⟩
  all_goals simp only []
  all_goals first | omega | (intro g hg; have := HPA5.out g hg; omega)
end Go.Proofs.YtoiblfmlahedlaaDoor.Fe
end
section
namespace Go.Proofs.YtoiblfmlahedlaaDoor.Fe
open Go.RowKit Go.Proofs.YtoiblfmlahedlaaDoorW.PrintWords Go.Proofs.YtoiblfmlahedlaaDoorW.PrintLast Go.Proofs.YtoiblfmlahedlaaDoorW.PrintMore
set_option linter.unusedVariables false
set_option linter.unusedSimpArgs false
set_option maxRecDepth 100000
open Go.Proofs.YtoiblfmlahedlaaDoor.Sha (cb vd countN rootOf checkB B KD isRow)
def Nil (w : World) (v : Value) : Prop := v = .pointer none ∨ ∃ p, v = .pointer (some ⟨p, 0, none⟩) ∧ w.cell? ⟨p, 34, none⟩ = some (.pointer none)
theorem Nil.below {w w' : World} {v : Value} (h : Nil w v) (hb : Below w.heap.size w w') : Nil w' v := by
  rcases h with rfl | ⟨p, rfl, h⟩
  · exact Or.inl rfl
  · refine Or.inr ⟨p, rfl, ?_⟩
    have hlt : p < w.heap.size := by
      rcases Nat.lt_or_ge p w.heap.size with h1 | h1
      · exact h1
      · rw [show w.cell? ⟨p, 34, none⟩ = none by simp [World.cell?, Array.getElem?_eq_none h1]] at h
        cases h
    rw [← h]
    exact World.cell?_of_block (hb.block p hlt)
end Go.Proofs.YtoiblfmlahedlaaDoor.Fe
end
section
namespace Go.Proofs.YtoiblfmlahedlaaDoor.Fe
open Go.RowKit Go.Proofs.YtoiblfmlahedlaaDoorW.PrintWords Go.Proofs.YtoiblfmlahedlaaDoorW.PrintLast Go.Proofs.YtoiblfmlahedlaaDoorW.PrintMore
set_option linter.unusedVariables false
set_option linter.unusedSimpArgs false
set_option maxRecDepth 100000
open Go.Proofs.YtoiblfmlahedlaaDoor.Sha (cb vd countN rootOf checkB B KD isRow dg_start dg_ret infoDg cb_size cb_one wpList_load_at)
end Go.Proofs.YtoiblfmlahedlaaDoor.Fe
end
section
namespace Go.Proofs.YtoiblfmlahedlaaDoor.Fe
open Go.RowKit Go.Proofs.YtoiblfmlahedlaaDoorW.PrintWords Go.Proofs.YtoiblfmlahedlaaDoorW.PrintLast Go.Proofs.YtoiblfmlahedlaaDoorW.PrintMore
set_option linter.unusedVariables false
set_option linter.unusedSimpArgs false
set_option maxRecDepth 100000
open Go.Proofs.YtoiblfmlahedlaaDoor.As (St leftF ks0 nextF hadR hadS stOf)
open Go.Proofs.YtoiblfmlahedlaaDoor.Sha (countN rootOf checkB proofOf chunkL)
open Go.Proofs.YtoiblfmlahedlaaDoor.Sha (prove_yes)
def kB : List Int := List.replicate 64 0 ++ [7]
def kF (R : List Int) : Cf := ⟨R, 65, [7, 9], 1, 5, 100, 0⟩
def kS1 (R : List Int) : St := (fnextF (kF R) ks0 (fun _ => []) 0).2
def kS2 (R : List Int) : St := (fnextF (kF R) (kS1 R) (fun _ => []) 0).2
def kS3 (R : List Int) : St := (fnextF (kF R) (kS2 R) (fun _ => []) 0).2
theorem kn1 (R : List Int) : (fnextF (kF R) ks0 (fun _ => []) 0).1 = (0, 7, true) := by kernel_rfl
theorem kn2 (R : List Int) : (fnextF (kF R) (kS1 R) (fun _ => []) 0).1 = (1, 9, true) := by kernel_rfl
theorem kn3 (R : List Int) : (fnextF (kF R) (kS2 R) (fun _ => []) 0).1 = (0, 0, false) := by kernel_rfl
theorem kmay : fmayB 65 [7, 9] 1 5 100 = true := by decide
def kS4 (R : List Int) : St := (hearF (kF R) (kS3 R) (fun _ => []) 7 0 [110, 111] []).2.1
theorem kh1' (R : List Int) : hearF (kF R) (kS3 R) (fun _ => []) 7 0 [110, 111] [] = (5, kS4 R, fun _ => []) := by kernel_rfl
theorem kc0 : chunkL kB 0 = List.replicate 64 0 := by kernel_rfl
theorem kc1 : chunkL kB 1 = [7] := by kernel_rfl
theorem kBl : kB.length = 65 := by kernel_rfl
def kS5 (R : List Int) : St := hadS 2 (kS4 R) 1
def kS6 (R : List Int) : St := hadS 2 (kS5 R) 0
def kK1 : Nat → List Int := updK (fun _ => []) 1 [7]
def kK2 : Nat → List Int := updK kK1 0 (List.replicate 64 0)
theorem kcn (R : List Int) : countN (kF R).L = 2 := by kernel_rfl
theorem hear_true {R : List Int} {s : St} {K : Nat → List Int} {x : Int} {i : Nat} {l : List Int} {p : List (List Int)} (hi : (0 : Int) ≤ i ∧ (i : Int) < countN (kF R).L ∧ 0 ≤ idxF (kF R).ps x) (hs : stOf s.1 (countN (kF R).L) i ≠ 2) (hc : checkB R 65 (i : Int) l p = true) (hh : hadR (countN (kF R).L) s i = 0) :
    hearF (kF R) s K x i l p = (0, hadS 2 s i, updK K i l) := by
  unfold hearF
  rw [if_pos hi, if_neg hs, if_pos (show checkB (kF R).R (kF R).L i l p = true from hc), hh, Int.toNat_natCast, kcn]
theorem kh2 : hearF (kF (rootOf kB)) (kS4 (rootOf kB)) (fun _ => []) 9 1 [7] (proofOf kB 1) = (0, kS5 (rootOf kB), kK1) := by
  have h := prove_yes kB 1 (by rw [kBl]; decide)
  rw [kBl, kc1] at h
  generalize rootOf kB = R at h ⊢
  have hst : ∀ R, stOf (kS4 R).1 (countN (kF R).L) ((1 : Nat) : Int) = 1 := fun R => by kernel_rfl
  have hh : ∀ R, hadR (countN (kF R).L) (kS4 R) ((1 : Nat) : Int) = 0 := fun R => by kernel_rfl
  exact hear_true (i := 1) ⟨by decide, by rw [kcn]; decide, by show (0 : Int) ≤ idxF [7, 9] 9; decide⟩ (by rw [hst]; decide) h (hh R)
theorem kh3 : hearF (kF (rootOf kB)) (kS5 (rootOf kB)) kK1 7 0 (List.replicate 64 0) (proofOf kB 0) = (0, kS6 (rootOf kB), kK2) := by
  have h := prove_yes kB 0 (by rw [kBl]; decide)
  rw [kBl, kc0] at h
  generalize rootOf kB = R at h ⊢
  have hst : ∀ R, stOf (kS5 R).1 (countN (kF R).L) ((0 : Nat) : Int) = 0 := fun R => by kernel_rfl
  have hh : ∀ R, hadR (countN (kF R).L) (kS5 R) ((0 : Nat) : Int) = 0 := fun R => by kernel_rfl
  exact hear_true (i := 0) ⟨by decide, by rw [kcn]; decide, by show (0 : Int) ≤ idxF [7, 9] 7; decide⟩ (by rw [hst]; decide) h (hh R)
theorem kb4 : blobF (kF (rootOf kB)) (kS6 (rootOf kB)) kK2 = some kB := by
  have h1 : ∀ R, leftF (kS6 R).1 (countN (kF R).L) = 0 := fun R => by kernel_rfl
  have h2 : ∀ R, cat kK2 (countN (kF R).L) = kB := fun R => by kernel_rfl
  unfold blobF
  rw [if_neg (by rw [h1]; simp), h2, if_pos ⟨kBl, rfl⟩]
theorem kh5 (R : List Int) : (hearF (kF R) (kS6 R) kK2 7 0 (List.replicate 64 0) []) = (7, kS6 R, kK2) := by kernel_rfl
end Go.Proofs.YtoiblfmlahedlaaDoor.Fe
end
section
namespace Go.Proofs.YtoiblfmlahedlaaDoor.Fe
open Go.RowKit Go.Proofs.YtoiblfmlahedlaaDoorW.PrintWords Go.Proofs.YtoiblfmlahedlaaDoorW.PrintLast Go.Proofs.YtoiblfmlahedlaaDoorW.PrintMore
set_option linter.unusedVariables false
set_option linter.unusedSimpArgs false
set_option maxRecDepth 100000
open Go.Proofs.YtoiblfmlahedlaaDoor.As
open Go.Proofs.YtoiblfmlahedlaaDoor.Sha (countN rootOf checkB)
def NoHad (n : Nat) (s : St) : Prop := ∀ i, i < n → (s.1 i).1 ≠ 2
theorem nohad0 (n : Nat) : NoHad n ks0 := fun i _ => by show (0 : Int) ≠ 2; omega
theorem NoHad.left {n : Nat} {s : St} (h : NoHad n s) : leftF s.1 n = n :=
  (leftF_congr n (fun j hj => ⟨fun e => absurd e (h j hj), fun e => absurd e (nohad0 n j hj)⟩)).trans (leftF_start n)
theorem NoHad.next {n m : Nat} {now win tm : Int} {s : St} (h : NoHad n s) : NoHad n (nextF now win tm n m s).2 := by
  intro i hi
  have hl : ∀ j, j < n → ((lateF now tm s.1 s.2.1 n).1 j).1 ≠ 2 := fun j hj e => h j hj ((lateF_had now tm s.1 s.2.1 n j).1 e)
  unfold nextF
  simp only []
  split
  · show (upd _ _ _ i).1 ≠ 2
    unfold upd
    split
    · show (1 : Int) ≠ 2; omega
    · exact hl i hi
  · exact hl i hi
theorem NoHad.bad {n m : Nat} {s : St} (h : NoHad n s) (j k : Int) : NoHad n (badS n m s j k) := by
  intro i hi
  unfold badS
  split
  · show (upd _ _ _ i).1 ≠ 2
    unfold upd
    split
    · show (0 : Int) ≠ 2; omega
    · exact h i hi
  · exact h i hi
theorem count_pos {L : Nat} (h : 1 ≤ L) : 1 ≤ countN L := by unfold countN; omega
end Go.Proofs.YtoiblfmlahedlaaDoor.Fe
end
section
namespace Go.Proofs.YtoiblfmlahedlaaDoor.Fe
open Go.RowKit Go.Proofs.YtoiblfmlahedlaaDoorW.PrintWords Go.Proofs.YtoiblfmlahedlaaDoorW.PrintLast Go.Proofs.YtoiblfmlahedlaaDoorW.PrintMore
set_option linter.unusedVariables false
set_option linter.unusedSimpArgs false
set_option maxRecDepth 100000
open Go.Proofs.YtoiblfmlahedlaaDoor.As
open Go.Proofs.YtoiblfmlahedlaaDoor.Sha (countN)
theorem row_ci {w : World} {A : Option Addr} {n : Nat} {xs : List Int} (h : I.C w A n xs) (k : Nat) (hk : k < n) : ∃ ad, A = some ad ∧ w.cell? (ad.add k) = some (.int .i64 (xs.getD k 0)) := by
  obtain ⟨ad, c, e, _, hK, hc0⟩ := Kd.C_get h (0 : Int) (k : Int) (by omega) (by omega)
  simp only [Int.toNat_natCast] at hK hc0
  have h1 : c = [.int .i64 (xs.getD k 0)] := hK
  subst h1
  have a0 := hc0 0 _ rfl
  have e1 : k * I.sz + 0 = k := by show k * 1 + 0 = k; omega
  rw [e1] at a0
  exact ⟨ad, e, a0⟩
def Df (ps : List Int) (i : Nat) : Prop := ∀ a b, a < i → b < a → ps.getD a 0 ≠ ps.getD b 0
theorem getD_at {ps : List Int} {i : Nat} (h : i < ps.length) : ps.getD i 0 = ps[i] := by rw [List.getD_eq_getElem?_getD, List.getElem?_eq_getElem h]; rfl
theorem Df.nodup {ps : List Int} (h : Df ps ps.length) : ps.Nodup := by
  unfold List.Nodup
  rw [List.pairwise_iff_getElem]
  intro i j hi hj hij e
  refine h j i hj hij ?_
  rw [getD_at hi, getD_at hj]
  exact e.symm
end Go.Proofs.YtoiblfmlahedlaaDoor.Fe
end
section
namespace Go.Proofs.YtoiblfmlahedlaaDoor.Fe
open Go.RowKit Go.Proofs.YtoiblfmlahedlaaDoorW.PrintWords Go.Proofs.YtoiblfmlahedlaaDoorW.PrintLast Go.Proofs.YtoiblfmlahedlaaDoorW.PrintMore
set_option linter.unusedVariables false
set_option linter.unusedSimpArgs false
set_option maxRecDepth 100000
open Go.Proofs.YtoiblfmlahedlaaDoor.As (St PW ks0)
open Go.Proofs.YtoiblfmlahedlaaDoor.Sha (cb vd countN rootOf checkB B KD isRow proofOf)
open Go.Proofs.YtoiblfmlahedlaaDoor.Ref (new_calls rroot_calls rproof_calls)
def zC65 : Array Value := madeCells (Value.int .u8 0).cells 65
def kC65 : Array Value := (kB.map (Value.int .u8)).toArray
theorem make_B65 (w : World) : (Instr.makeSlice 22 (.int .i64 65) (.int .i64 65)).run Tryd.prog w = .ok (.slice (some ⟨w.heap.size, 0, none⟩) 65 65) (w.alloc (.cells zC65 5)) := by
  obtain ⟨i, hi, hz, hs, hb⟩ := info_parts infoB
  have h := run_make (P := Tryd.prog) w 22 5 i _ Tryd.underlying22 hi hz .i64 .i64 65 65 (by omega) (Int.le_refl _) (by rw [hb]; omega) (by omega)
  rw [hs] at h
  exact h
theorem kBb : Sha.bytes kB := by unfold Sha.bytes kB; intro x hx; simp at hx; omega
theorem rowB {w : World} {g : Nat} (h : w.heap[g]? = some (.cells kC65 5 (0, 0))) (o : Nat) (l : List Int) (hl : ∀ j x, l[j]? = some x → kC65[o + j]? = some (.int .u8 x)) (hn : l.length ≤ 65) : B.C w (some ⟨g, o, none⟩) l.length l := by
  refine ⟨rfl, by omega, fun _ => ⟨_, rfl, fun j x hx => ⟨[.int .u8 x], rfl, by rfl, fun i u hu => ?_⟩⟩⟩
  rcases i with _ | i
  · simp at hu
    subst hu
    have := hl j x hx
    rw [show (Addr.mk g o none).add (j * B.sz + 0) = ⟨g, o + j, none⟩ by
      rw [show j * B.sz + 0 = j by show j * 1 + 0 = j; omega]
      simp [Addr.add_lit]]
    simp [World.cell?, h, this]
  · simp at hu
theorem Mov.keep {lo hi k : Nat} {w w' : World} {o : Obj} (h : Mov lo hi w w') (hk : k < lo) (ho : w.heap[k]? = some o) : w'.heap[k]? = some o := (h.block k (Array.getElem?_eq_some_iff.1 ho).1 (Or.inl hk)).trans ho
theorem Mov.held {lo hi : Nat} {w0 w w' : World} (h : Mov lo hi w w') (hb : Below w0.heap.size w0 w) (h0 : w0.heap.size ≤ lo) (hl : lo ≤ w.heap.size) : Below w0.heap.size w0 w' := below_weaken hb h0 (h.below hl)
abbrev noC : Array Value := #[.int .u8 110, .int .u8 111]
def noW (w : World) : World := (w.alloc (.cells noC 5)).freeze ⟨w.heap.size, 2, none⟩ 1
theorem cv_no (w : World) : (convert 22 22 (.slice (some ⟨w.heap.size, 0, none⟩) 2 2)).run Tryd.prog (w.alloc (.cells #[.int .u8 110, .int .u8 111] 5)) = .ok (.slice (some ⟨w.heap.size, 0, none⟩) 2 2) (noW w) := by
  have hsh : (w.alloc (.cells noC 5)).shape? w.heap.size = some (5, 2) := by
    simp [World.shape?, World.alloc, -World.alloc_eq]
  simp [convert, run_underlying Tryd.underlying22, run_underlying Tryd.underlying5, markStringish, Question.forced, noW, hsh, Result.andThen]
theorem noW_old (w : World) (j : Nat) (hj : j < w.heap.size) : (noW w).heap[j]? = w.heap[j]? := by
  have h1 : w.heap.size ≠ j := by omega
  simp [noW, World.freeze, World.alloc, -World.alloc_eq, Array.getElem?_modify, Array.getElem?_push, h1, Ne.symm h1]
theorem noW_new (w : World) : (noW w).heap[w.heap.size]? = some (.cells noC 5 (2, 3)) := by
  simp [noW, World.freeze, World.alloc, -World.alloc_eq]
  rw [Array.getElem_modify_self]
  simp
theorem noW_below (w : World) : Below w.heap.size w (noW w) :=
  ⟨rfl, rfl, rfl, by simp [noW, World.freeze, World.alloc, -World.alloc_eq], fun k hk => noW_old w k hk⟩
theorem kpl (i : Nat) : (proofOf kB i).length < 1000000 := by
  have := Go.Proofs.YtoiblfmlahedlaaDoor.Sha.proofP_le2 (Sha.leavesL kB) i
  rw [Sha.leavesL_len, kBl] at this
  unfold proofOf
  have h : countN 65 = 2 := by decide
  omega
theorem rowAll {w : World} {g : Nat} (h : w.heap[g]? = some (.cells kC65 5 (0, 0))) : B.C w (some ⟨g, 0, none⟩) kB.length kB := rowB h 0 kB (fun j x hx => by unfold kC65; rw [Nat.zero_add, List.getElem?_toArray, List.getElem?_map, hx]; rfl) (by rw [kBl]; omega)
theorem rowHi {w : World} {g : Nat} (h : w.heap[g]? = some (.cells kC65 5 (0, 0))) : B.C w (some ⟨g, 64, none⟩) ([7] : List Int).length [7] := by
  refine rowB h 64 [7] ?_ (by decide)
  intro j x hx
  rcases j with _ | j
  · simp at hx
    subst hx
    kernel_rfl
  · simp at hx
theorem rowLo {w : World} {g : Nat} (h : w.heap[g]? = some (.cells kC65 5 (0, 0))) : B.C w (some ⟨g, 0, none⟩) (List.replicate 64 (0 : Int)).length (List.replicate 64 0) := rowB h 0 (List.replicate 64 0) (fun j x hx => by
  unfold kC65 kB
  rw [List.getElem?_replicate] at hx
  split at hx
  · rename_i h64
    rw [Nat.zero_add, List.getElem?_toArray, List.getElem?_map, List.getElem?_append_left (by simpa using h64), List.getElem?_replicate, if_pos h64]
    cases hx
    rfl
  · cases hx) (by decide)
def kno_T12 : Bool × List (List Nat × List Nat) := (true, [([], []), ([], []), ([1], [1]), ([], []), ([], []), ([3, 4], [3, 4]), ([0, 2, 5, 5], [0, 2, 5]), ([6], [6]), ([7, 6], [7]), ([8], [8]), ([8], [8]), ([10, 8], [8, 10]), ([8], [8]), ([8], [8]), ([12, 13, 8, 8], [8, 12, 13]), ([9, 11, 14, 14, 8], [8, 9, 11, 14]), ([15, 8], [8, 15]), ([8, 16], [8, 16])])
def kno_B12 : List Nat := [0, 0, 2, 0, 0, 24, 63, 127, 255, 511, 511, 1535, 511, 511, 12799, 32767, 65535, 131071]
theorem kno_tab12 : rtab .any (opsOf Tryd.f9 12) = kno_T12 := by kernel_rfl
theorem kno_bits12 : waitsOk kno_T12.2 kno_B12 = true := by kernel_rfl
theorem z64b : Sha.bytes (List.replicate 64 (0 : Int)) := fun y hy => by rw [List.mem_replicate] at hy; omega
set_option maxHeartbeats 3200000 in
theorem known_calls (w : World) (hT : Sha.Tab w) : Calls Tryd.prog 9 #[] w fun e w' => e = .returned (.bool true) ∧ Below w.heap.size w w' := by
  have HT := Aside0.mk hT
  have hmk := make_B65
  clear hT
  go_enter Tryd.func9, Tryd.ntmps9
  go_upto_region 2 with (fail)
  obtain ⟨w1, hw1⟩ : ∃ w1, w.alloc (.cells zC65 5) = w1 := ⟨_, rfl⟩
  have hz1 : w1.heap[w.heap.size]? = some (.cells zC65 5 (0, 0)) := by rw [← hw1]; exact Go.Proofs.YtoiblfmlahedlaaDoor.As.heap_new _ _
  have HB1 := Aside0.mk (show Below w.heap.size w w1 by rw [← hw1]; exact (Below.refl _ _).alloc (Nat.le_refl _) _)
  rw [hw1]
  clear hw1
  have y0 : w1.cell? ⟨w.heap.size, 64, none⟩ = some (.int .u8 0) := by
    rw [World.cell?]
    simp only [hz1]
    kernel_rfl
  have z0 : w1.frozen? ⟨w.heap.size, 64, none⟩ = false := by simp [World.frozen?, hz1]
  have HZ1 := Aside0.mk hz1
  clear hz1
  go_upto_region 3 with (fail)
  obtain ⟨w2, hw2⟩ : ∃ w2, w1.setCell ⟨w.heap.size, 64, none⟩ (.int .u8 7) = w2 := ⟨_, rfl⟩
  have HK := Aside0.mk (show w2.heap[w.heap.size]? = some (.cells kC65 5 (0, 0)) by
    rw [← hw2, show kC65 = zC65.setIfInBounds 64 (.int .u8 7) by kernel_rfl]
    exact heap_setCell_same _ _ _ _ _ _ HZ1.out)
  have HB2 := Aside0.mk (show Below w.heap.size w w2 by rw [← hw2]; exact HB1.out.setCell (p := ⟨w.heap.size, 64, none⟩) (Nat.le_refl _) _)
  rw [hw2]
  clear hw2 HB1 HZ1 y0 z0
  generalize hg : w.heap.size = g at HK ⊢
  replace hg := Aside0.mk hg
  go_wp2_with fail
  refine (new_calls _).mono ?_
  rintro e w3 ⟨gh, rfl, hgl, hgh, hb⟩
  have HGH := Aside0.mk hgh
  have HB3 := Aside0.mk (below_step HB2.out hb)
  have HK3 := Aside0.mk (Go.Proofs.YtoiblfmlahedlaaDoor.As.heap_keep HK.out hb)
  clear hgl hgh hb HK
  go_wp2_with fail
  refine (rroot_calls gh (some ⟨g, 0, none⟩) 65 kB _ HGH.out (rowB HK3.out 0 kB (fun j x hx => by unfold kC65; rw [Nat.zero_add, List.getElem?_toArray, List.getElem?_map, hx]; rfl) (by rw [kBl]; omega)) (by rw [kBl]; omega) kBb (by rw [kBl]; omega)).mono ?_
  rintro e w4 ⟨rfl, hb⟩
  have HGH4 := Aside0.mk (Go.Proofs.YtoiblfmlahedlaaDoor.As.heap_keep HGH.out hb)
  have HK4 := Aside0.mk (Go.Proofs.YtoiblfmlahedlaaDoor.As.heap_keep HK3.out hb)
  have HB4 := Aside0.mk (below_step HB3.out hb)
  clear hb HGH HK3 HB3 HB2
  have HRL := Aside0.mk (show (rootOf kB).length = 32 by unfold rootOf Sha.rootI; exact Sha.shaI_len _)
  have HRB := Aside0.mk (show Sha.bytes (rootOf kB) by unfold rootOf Sha.rootI; exact Sha.shaI_bytes _)
  have KH2 := Aside0.mk kh2
  have KH3 := Aside0.mk kh3
  have KB4 := Aside0.mk kb4
  generalize rootOf kB = R at HRL HRB KH2 KH3 KB4 ⊢
  go_wp2_with fail
  obtain ⟨w5, hw5⟩ : ∃ w5, w4.alloc (.cells #[.int .i64 7, .int .i64 9] 3) = w5 := ⟨_, rfl⟩
  have hp5 : w5.heap[w4.heap.size]? = some (.cells #[.int .i64 7, .int .i64 9] 3 (0, 0)) := by rw [← hw5]; exact Go.Proofs.YtoiblfmlahedlaaDoor.As.heap_new _ _
  have hb5 : Below w4.heap.size w4 w5 := by rw [← hw5]; exact (Below.refl _ _).alloc (Nat.le_refl _) _
  have HP5 : Aside0 (I.C w5 (some ⟨w4.heap.size, 0, none⟩) ([7, 9] : List Int).length [7, 9]) := ⟨by
    refine ⟨rfl, by decide, fun _ => ⟨_, rfl, fun j x hx => ⟨[.int .i64 x], rfl, by rfl, fun i u hu => ?_⟩⟩⟩
    rcases i with _ | i
    · simp at hu
      subst hu
      rw [show (Addr.mk w4.heap.size 0 none).add (j * I.sz + 0) = ⟨w4.heap.size, 0 + j, none⟩ by
        rw [show j * I.sz + 0 = j by show j * 1 + 0 = j; omega]
        simp [Addr.add_lit]]
      rcases j with _ | _ | j
      · simp at hx; subst hx; simp [World.cell?, hp5]
      · simp at hx; subst hx; simp [World.cell?, hp5]
      · simp at hx
    · simp at hu⟩
  have HB5 := Aside0.mk (below_step HB4.out hb5)
  have HGH5 := Aside0.mk (Go.Proofs.YtoiblfmlahedlaaDoor.As.heap_keep HGH4.out hb5)
  have HK5 := Aside0.mk (Go.Proofs.YtoiblfmlahedlaaDoor.As.heap_keep HK4.out hb5)
  rw [hw5]
  clear hw5 hp5 hb5 HGH4 HK4 HB4
  refine (fnew_yes (L := 65) (ps := [7, 9]) (win := 1) (tm := 5) (bu := 100) (be := 0) HRL.out HRB.out HP5.out (by decide) (by intro x hx; simp at hx; omega) (by omega) kmay).mono ?_
  rintro e w6 ⟨v, rfl, a, rfl, hfw, hin, hb⟩
  have HF6 := Aside0.mk (show FW w6 a (kF R) 0 ks0 (fun _ => []) from hfw)
  have HIN := Aside0.mk hin
  have HB6 := Aside0.mk (below_step HB5.out hb)
  have HGH6 := Aside0.mk (Go.Proofs.YtoiblfmlahedlaaDoor.As.heap_keep HGH5.out hb)
  have HK6 := Aside0.mk (Go.Proofs.YtoiblfmlahedlaaDoor.As.heap_keep HK5.out hb)
  have HLO := Aside0.mk (show g < w5.heap.size ∧ gh < w5.heap.size ∧ w.heap.size ≤ w5.heap.size ∧ w5.heap.size ≤ w6.heap.size from ⟨(Array.getElem?_eq_some_iff.1 HK5.out).1, (Array.getElem?_eq_some_iff.1 HGH5.out).1, HB5.out.size, hb.size⟩)
  generalize w5.heap.size = lo at HIN HLO
  clear hfw hin hb HB5 HGH5 HK5 HP5
  go_wp2_with fail
  refine (fnext_calls (r := (0, 7, true)) (s' := kS1 R) HF6.out HIN.out (by omega) (HT.out.below HB6.out) (by omega) (kn1 R) rfl).mono ?_
  rintro e w7 ⟨rfl, hfw, hm⟩
  have HF7 := Aside0.mk hfw
  have HB7 := Aside0.mk (hm.held HB6.out HLO.out.2.2.1 HLO.out.2.2.2)
  have HGH7 := Aside0.mk (hm.keep HLO.out.2.1 HGH6.out)
  have HK7 := Aside0.mk (hm.keep HLO.out.1 HK6.out)
  have HL7 := Aside0.mk (show lo ≤ w7.heap.size from Nat.le_trans HLO.out.2.2.2 hm.size)
  replace HLO := Aside0.mk (show g < lo ∧ gh < lo ∧ w.heap.size ≤ lo ∧ lo ≤ w7.heap.size from ⟨HLO.out.1, HLO.out.2.1, HLO.out.2.2.1, HL7.out⟩)
  clear hfw hm HF6 HB6 HGH6 HK6 HL7
  go_wp2_with fail
  refine (fnext_calls (r := (1, 9, true)) (s' := kS2 R) HF7.out HIN.out (by omega) (HT.out.below HB7.out) (by omega) (kn2 R) rfl).mono ?_
  rintro e w8 ⟨rfl, hfw, hm⟩
  have HF8 := Aside0.mk hfw
  have HB8 := Aside0.mk (hm.held HB7.out HLO.out.2.2.1 HLO.out.2.2.2)
  have HGH8 := Aside0.mk (hm.keep HLO.out.2.1 HGH7.out)
  have HK8 := Aside0.mk (hm.keep HLO.out.1 HK7.out)
  have HL8 := Aside0.mk (show lo ≤ w8.heap.size from Nat.le_trans HLO.out.2.2.2 hm.size)
  replace HLO := Aside0.mk (show g < lo ∧ gh < lo ∧ w.heap.size ≤ lo ∧ lo ≤ w8.heap.size from ⟨HLO.out.1, HLO.out.2.1, HLO.out.2.2.1, HL8.out⟩)
  clear hfw hm HF7 HB7 HGH7 HK7 HL8
  go_wp2_with fail
  refine (fnext_calls (r := (0, 0, false)) (s' := kS3 R) HF8.out HIN.out (by omega) (HT.out.below HB8.out) (by omega) (kn3 R) rfl).mono ?_
  rintro e w9 ⟨rfl, hfw, hm⟩
  have HF9 := Aside0.mk hfw
  have HB9 := Aside0.mk (hm.held HB8.out HLO.out.2.2.1 HLO.out.2.2.2)
  have HGH9 := Aside0.mk (hm.keep HLO.out.2.1 HGH8.out)
  have HK9 := Aside0.mk (hm.keep HLO.out.1 HK8.out)
  have HL9 := Aside0.mk (show lo ≤ w9.heap.size from Nat.le_trans HLO.out.2.2.2 hm.size)
  replace HLO := Aside0.mk (show g < lo ∧ gh < lo ∧ w.heap.size ≤ lo ∧ lo ≤ w9.heap.size from ⟨HLO.out.1, HLO.out.2.1, HLO.out.2.2.1, HL9.out⟩)
  clear hfw hm HF8 HB8 HGH8 HK8 HL9
  have hcv := cv_no
  go_wp2_with fail
  have hn9 := noW_new w9
  have hb9 := noW_below w9
  have HCN : Aside0 (B.C (noW w9) (some ⟨w9.heap.size, 0, none⟩) ([110, 111] : List Int).length [110, 111]) := ⟨by
    refine ⟨rfl, by decide, fun _ => ⟨_, rfl, fun j x hx => ⟨[.int .u8 x], rfl, by rfl, fun i u hu => ?_⟩⟩⟩
    rcases i with _ | i
    · simp at hu
      subst hu
      rw [show (Addr.mk w9.heap.size 0 none).add (j * B.sz + 0) = ⟨w9.heap.size, 0 + j, none⟩ by
        rw [show j * B.sz + 0 = j by show j * 1 + 0 = j; omega]
        simp [Addr.add_lit]]
      rcases j with _ | _ | j
      · simp at hx; subst hx; simp [World.cell?, hn9]
      · simp at hx; subst hx; simp [World.cell?, hn9]
      · simp at hx
    · simp at hu⟩
  have HF10 := Aside0.mk (HF9.out.below hb9)
  have HB10 := Aside0.mk (below_step HB9.out hb9)
  have HGH10 := Aside0.mk (Go.Proofs.YtoiblfmlahedlaaDoor.As.heap_keep HGH9.out hb9)
  have HK10 := Aside0.mk (Go.Proofs.YtoiblfmlahedlaaDoor.As.heap_keep HK9.out hb9)
  replace HLO := Aside0.mk (show g < lo ∧ gh < lo ∧ w.heap.size ≤ lo ∧ lo ≤ (noW w9).heap.size from ⟨HLO.out.1, HLO.out.2.1, HLO.out.2.2.1, Nat.le_trans HLO.out.2.2.2 hb9.size⟩)
  generalize w9.heap.size = gn at HCN ⊢
  generalize noW w9 = w10 at HCN HF10 HB10 HGH10 HK10 HLO ⊢
  clear hn9 hb9 HF9 HB9 HGH9 HK9 hcv
  refine (hear_calls (r := 5) (s' := kS4 R) (K' := fun _ => []) (l := [110, 111]) (p := []) HF10.out HIN.out (by omega) (HT.out.below HB10.out) HCN.out (by intro y hy; simp at hy; omega) (by decide) (Kd.C_nil _ _) (by intro y hy; cases hy) (by decide) (kh1' R)).mono ?_
  rintro e w11 ⟨rfl, hfw, hm⟩
  have HF11 := Aside0.mk hfw
  have HB11 := Aside0.mk (hm.held HB10.out HLO.out.2.2.1 HLO.out.2.2.2)
  have HGH11 := Aside0.mk (hm.keep HLO.out.2.1 HGH10.out)
  have HK11 := Aside0.mk (hm.keep HLO.out.1 HK10.out)
  have HL11 := Aside0.mk (show lo ≤ w11.heap.size from Nat.le_trans HLO.out.2.2.2 hm.size)
  replace HLO := Aside0.mk (show g < lo ∧ gh < lo ∧ w.heap.size ≤ lo ∧ lo ≤ w11.heap.size from ⟨HLO.out.1, HLO.out.2.1, HLO.out.2.2.1, HL11.out⟩)
  clear hfw hm HF10 HB10 HGH10 HK10 HL11 HCN
  go_upto_region 12 with (fail)
  obtain ⟨hi, hhi⟩ : ∃ hi, w6.heap.size = hi := ⟨_, rfl⟩
  rw [hhi] at HIN
  clear hhi
  have hD := below_drew1 (Below.refl w11.heap.size w11)
  have HFd := Aside0.mk (HF11.out.below hD)
  have HGd := Aside0.mk (Go.Proofs.YtoiblfmlahedlaaDoor.As.heap_keep HGH11.out hD)
  have HKd := Aside0.mk (Go.Proofs.YtoiblfmlahedlaaDoor.As.heap_keep HK11.out hD)
  have HBd := Aside0.mk (below_step HB11.out hD)
  have hS0 : Mov lo hi w11 w11.drew := Mov.of_below hD
  obtain ⟨P1, hP1⟩ : ∃ P, proofOf kB 1 = P := ⟨_, rfl⟩
  obtain ⟨P2, hP2⟩ : ∃ P, proofOf kB 0 = P := ⟨_, rfl⟩
  have HP1R := Aside0.mk (show Sha.isRow P1 from hP1 ▸ Sha.proof_row kB 1)
  have HP2R := Aside0.mk (show Sha.isRow P2 from hP2 ▸ Sha.proof_row kB 0)
  have HP1L := Aside0.mk (show P1.length < 1000000 from hP1 ▸ kpl 1)
  have HP2L := Aside0.mk (show P2.length < 1000000 from hP2 ▸ kpl 0)
  rw [hP1] at KH2
  rw [hP2] at KH3
  have HP1 := Aside0.mk hP1
  have HP2 := Aside0.mk hP2
  clear hD hP1 hP2
  refine start_ (n := 18) (S := fun w' => Mov lo hi w11 w') (ds := []) #[false, false, false, false, false, false, false, false, false, false, false, false, false, false, false, false, false, false] (by kernel_rfl) rfl rfl (by exact hS0) (fun hHeld => ?_)
  refine with_tabW kno_tab12 kno_bits12 (fun HT_ HW_ => ?_)
  generalize w11.drew = wq at hHeld hS0 HFd HGd HKd HBd ⊢
  refine pure_ (i := 0) (N := some 84) (v := ?_) (a' := ?_) #[true, false, false, false, false, false, false, false, false, false, false, false, false, false, false, false, false, false] rfl rfl (any_of HT_.out (by kernel_rfl)) (fun _ _ _ h => h) (Or.inl ⟨by rfl, ?_⟩) ?_ ?_
  rotate_left
  · intro w'
    go_simp
    with_reducible rfl
  rotate_left
  · simp only [Act.put, List.setIfInBounds_toArray, List.set_cons_zero, List.set_cons_succ, i64_w, i32_w]
    rfl
  refine pure_ (i := 1) (N := some 85) (v := ?_) (a' := ?_) #[true, true, false, false, false, false, false, false, false, false, false, false, false, false, false, false, false, false] rfl rfl (any_of HT_.out (by kernel_rfl)) (fun _ _ _ h => h) (Or.inl ⟨by rfl, ?_⟩) ?_ ?_
  rotate_left
  · intro w'
    go_simp
    with_reducible rfl
  rotate_left
  · simp only [Act.put, List.setIfInBounds_toArray, List.set_cons_zero, List.set_cons_succ, i64_w, i32_w]
    rfl
  refine pure_ (i := 2) (N := some 86) (v := ?_) (a' := ?_) #[true, true, true, false, false, false, false, false, false, false, false, false, false, false, false, false, false, false] rfl rfl (any_of HT_.out (by kernel_rfl)) (fun _ _ _ h => h) (Or.inl ⟨by rfl, ?_⟩) ?_ ?_
  rotate_left
  · intro w'
    go_simp
    with_reducible rfl
  rotate_left
  · simp only [Act.put, List.setIfInBounds_toArray, List.set_cons_zero, List.set_cons_succ, i64_w, i32_w]
    rfl
  refine pure_ (i := 3) (N := some 87) (v := ?_) (a' := ?_) #[true, true, true, true, false, false, false, false, false, false, false, false, false, false, false, false, false, false] rfl rfl (any_of HT_.out (by kernel_rfl)) (fun _ _ _ h => h) (Or.inl ⟨by rfl, ?_⟩) ?_ ?_
  rotate_left
  · intro w'
    go_simp
    with_reducible rfl
  rotate_left
  · simp only [Act.put, List.setIfInBounds_toArray, List.set_cons_zero, List.set_cons_succ, i64_w, i32_w]
    rfl
  refine pure_ (i := 4) (N := some 88) (v := ?_) (a' := ?_) #[true, true, true, true, true, false, false, false, false, false, false, false, false, false, false, false, false, false] rfl rfl (any_of HT_.out (by kernel_rfl)) (fun _ _ _ h => h) (Or.inl ⟨by rfl, ?_⟩) ?_ ?_
  rotate_left
  · intro w'
    go_simp
    with_reducible rfl
  rotate_left
  · simp only [Act.put, List.setIfInBounds_toArray, List.set_cons_zero, List.set_cons_succ, i64_w, i32_w]
    rfl
  refine one_ (i := 5) (N := some 89) #[true, true, true, true, true, true, false, false, false, false, false, false, false, false, false, false, false, false] rfl rfl (one_of HT_.out (by kernel_rfl)) (by decide) (fun K hK => ?_)
  refine goes_ Tryd.func19 (by kernel_rfl) rfl #[.pointer (some ⟨gh, 0, none⟩), .slice (some ⟨g, 0, none⟩) 65 65, .int .i64 1] (by rfl) rfl rfl (by (try simp only [List.map_toArray, List.map_cons, List.map_nil]); first | done | rfl) ?_
  refine (rproof_calls gh (some ⟨g, 0, none⟩) 65 kB 1 _ HGd.out (rowAll HKd.out) (by rw [kBl]; omega) kBb (by rw [kBl]; omega) (by rw [kBl]; decide)).mono ?_
  rintro e w12 ⟨v, rfl, ho, hb⟩
  refine ⟨_, rfl, ?_⟩
  have hS1 := hHeld.trans (Mov.of_below hb)
  rw [HP1.out] at ho
  obtain ⟨A1, c1, rfl, hc1, hr1⟩ := Kd.R_reads ho
  have HC1 := Aside0.mk hr1
  have HPC1 := Aside0.mk hc1
  have HF12 := Aside0.mk (HFd.out.below hb)
  have HB12 := Aside0.mk (below_step HBd.out hb)
  have HG12 := Aside0.mk (Go.Proofs.YtoiblfmlahedlaaDoor.As.heap_keep HGd.out hb)
  have HK12 := Aside0.mk (Go.Proofs.YtoiblfmlahedlaaDoor.As.heap_keep HKd.out hb)
  clear hb ho hr1 hc1
  refine hK.out _ _ (by exact hS1) (fun hHeld => ?_)
  clear hK K
  refine norm_ (a' := ?_) ?_ ?_
  rotate_left
  · first
    | (show Act.put _ (some 89) _ = _; simp only [Act.put, List.setIfInBounds_toArray, List.set_cons_zero, List.set_cons_succ, i64_w, i32_w]; rfl)
    | rfl
  refine one_ (i := 6) (N := some 90) #[true, true, true, true, true, true, true, false, false, false, false, false, false, false, false, false, false, false] rfl rfl (one_of HT_.out (by kernel_rfl)) (by decide) (fun K hK => ?_)
  refine goes_ Tryd.func15 (by kernel_rfl) rfl #[.pointer (some ⟨a.p, 0, none⟩), .int .i64 9, .int .i64 1, .slice (some ⟨g, 64, none⟩) 1 1, .slice A1 P1.length c1] (by rfl) rfl rfl (by (try simp only [List.map_toArray, List.map_cons, List.map_nil]); first | done | rfl) ?_
  refine (hear_calls (r := 0) (s' := kS5 R) (K' := kK1) (l := [7]) (p := P1) HF12.out HIN.out (by omega) (HT.out.below HB12.out) (rowHi HK12.out) (by intro y hy; simp at hy; omega) (by decide) HC1.out HP1R.out ⟨HPC1.out, HP1L.out⟩ KH2.out).mono ?_
  rintro e w13 ⟨rfl, hfw, hm⟩
  refine ⟨_, rfl, ?_⟩
  have hS1 := hHeld.trans hm
  have HF13 := Aside0.mk hfw
  have HL12 := Nat.le_trans HLO.out.2.2.2 hHeld.size
  have HB13 := Aside0.mk (hm.held HB12.out HLO.out.2.2.1 HL12)
  have HG13 := Aside0.mk (hm.keep HLO.out.2.1 HG12.out)
  have HK13 := Aside0.mk (hm.keep HLO.out.1 HK12.out)
  clear hfw hm HL12
  refine hK.out _ _ (by exact hS1) (fun hHeld => ?_)
  clear hK K
  refine norm_ (a' := ?_) ?_ ?_
  rotate_left
  · first
    | (show Act.put _ (some 90) _ = _; simp only [Act.put, List.setIfInBounds_toArray, List.set_cons_zero, List.set_cons_succ, i64_w, i32_w]; rfl)
    | rfl
  refine pure_ (i := 7) (N := some 91) (v := ?_) (a' := ?_) #[true, true, true, true, true, true, true, true, false, false, false, false, false, false, false, false, false, false] rfl rfl (any_of HT_.out (by kernel_rfl)) (fun _ _ _ h => h) (Or.inl ⟨by rfl, ?_⟩) ?_ ?_
  rotate_left
  · intro w'
    go_simp
    with_reducible rfl
  rotate_left
  · simp only [Act.put, List.setIfInBounds_toArray, List.set_cons_zero, List.set_cons_succ, i64_w, i32_w]
    rfl
  refine pure_ (i := 8) (N := some 92) (v := ?_) (a' := ?_) #[true, true, true, true, true, true, true, true, true, false, false, false, false, false, false, false, false, false] rfl rfl (any_of HT_.out (by kernel_rfl)) (fun _ _ _ h => h) (Or.inl ⟨by rfl, ?_⟩) ?_ ?_
  rotate_left
  · intro w'
    go_simp
    with_reducible rfl
  rotate_left
  · simp only [Act.put, List.setIfInBounds_toArray, List.set_cons_zero, List.set_cons_succ, i64_w, i32_w]
    rfl
  refine pure_ (i := 9) (N := some 93) (v := ?_) (a' := ?_) #[true, true, true, true, true, true, true, true, true, true, false, false, false, false, false, false, false, false] rfl rfl (any_of HT_.out (by kernel_rfl)) (fun _ _ _ h => h) (Or.inl ⟨by rfl, ?_⟩) ?_ ?_
  rotate_left
  · intro w'
    go_simp
    with_reducible rfl
  rotate_left
  · simp only [Act.put, List.setIfInBounds_toArray, List.set_cons_zero, List.set_cons_succ, i64_w, i32_w]
    rfl
  refine pure_ (i := 10) (N := some 94) (v := ?_) (a' := ?_) #[true, true, true, true, true, true, true, true, true, true, true, false, false, false, false, false, false, false] rfl rfl (any_of HT_.out (by kernel_rfl)) (fun _ _ _ h => h) (Or.inl ⟨by rfl, ?_⟩) ?_ ?_
  rotate_left
  · intro w'
    go_simp
    with_reducible rfl
  rotate_left
  · simp only [Act.put, List.setIfInBounds_toArray, List.set_cons_zero, List.set_cons_succ, i64_w, i32_w]
    rfl
  refine pure_ (i := 11) (N := some 95) (v := ?_) (a' := ?_) #[true, true, true, true, true, true, true, true, true, true, true, true, false, false, false, false, false, false] rfl rfl (any_of HT_.out (by kernel_rfl)) (fun _ _ _ h => h) (Or.inl ⟨by rfl, ?_⟩) ?_ ?_
  rotate_left
  · intro w'
    go_simp
    with_reducible rfl
  rotate_left
  · simp only [Act.put, List.setIfInBounds_toArray, List.set_cons_zero, List.set_cons_succ, i64_w, i32_w]
    rfl
  refine pure_ (i := 12) (N := some 96) (v := ?_) (a' := ?_) #[true, true, true, true, true, true, true, true, true, true, true, true, true, false, false, false, false, false] rfl rfl (any_of HT_.out (by kernel_rfl)) (fun _ _ _ h => h) (Or.inl ⟨by rfl, ?_⟩) ?_ ?_
  rotate_left
  · intro w'
    go_simp
    with_reducible rfl
  rotate_left
  · simp only [Act.put, List.setIfInBounds_toArray, List.set_cons_zero, List.set_cons_succ, i64_w, i32_w]
    rfl
  refine pure_ (i := 13) (N := some 97) (v := ?_) (a' := ?_) #[true, true, true, true, true, true, true, true, true, true, true, true, true, true, false, false, false, false] rfl rfl (any_of HT_.out (by kernel_rfl)) (fun _ _ _ h => h) (Or.inl ⟨by rfl, ?_⟩) ?_ ?_
  rotate_left
  · intro w'
    go_simp
    with_reducible rfl
  rotate_left
  · simp only [Act.put, List.setIfInBounds_toArray, List.set_cons_zero, List.set_cons_succ, i64_w, i32_w]
    rfl
  refine one_ (i := 14) (N := some 98) #[true, true, true, true, true, true, true, true, true, true, true, true, true, true, true, false, false, false] rfl rfl (one_of HT_.out (by kernel_rfl)) (by decide) (fun K hK => ?_)
  refine goes_ Tryd.func19 (by kernel_rfl) rfl #[.pointer (some ⟨gh, 0, none⟩), .slice (some ⟨g, 0, none⟩) 65 65, .int .i64 0] (by rfl) rfl rfl (by (try simp only [List.map_toArray, List.map_cons, List.map_nil]); first | done | rfl) ?_
  refine (rproof_calls gh (some ⟨g, 0, none⟩) 65 kB 0 _ HG13.out (rowAll HK13.out) (by rw [kBl]; omega) kBb (by rw [kBl]; omega) (by rw [kBl]; decide)).mono ?_
  rintro e w14 ⟨v, rfl, ho, hb⟩
  refine ⟨_, rfl, ?_⟩
  have hS1 := hHeld.trans (Mov.of_below hb)
  rw [HP2.out] at ho
  obtain ⟨A2, c2, rfl, hc2, hr2⟩ := Kd.R_reads ho
  have HC2 := Aside0.mk hr2
  have HPC2 := Aside0.mk hc2
  have HF14 := Aside0.mk (HF13.out.below hb)
  have HB14 := Aside0.mk (below_step HB13.out hb)
  have HG14 := Aside0.mk (Go.Proofs.YtoiblfmlahedlaaDoor.As.heap_keep HG13.out hb)
  have HK14 := Aside0.mk (Go.Proofs.YtoiblfmlahedlaaDoor.As.heap_keep HK13.out hb)
  clear hb ho hr2 hc2
  refine hK.out _ _ (by exact hS1) (fun hHeld => ?_)
  clear hK K
  refine norm_ (a' := ?_) ?_ ?_
  rotate_left
  · first
    | (show Act.put _ (some 98) _ = _; simp only [Act.put, List.setIfInBounds_toArray, List.set_cons_zero, List.set_cons_succ, i64_w, i32_w]; rfl)
    | rfl
  refine one_ (i := 15) (N := some 99) #[true, true, true, true, true, true, true, true, true, true, true, true, true, true, true, true, false, false] rfl rfl (one_of HT_.out (by kernel_rfl)) (by decide) (fun K hK => ?_)
  refine goes_ Tryd.func15 (by kernel_rfl) rfl #[.pointer (some ⟨a.p, 0, none⟩), .int .i64 7, .int .i64 0, .slice (some ⟨g, 0, none⟩) 64 65, .slice A2 P2.length c2] (by rfl) rfl rfl (by (try simp only [List.map_toArray, List.map_cons, List.map_nil]); first | done | rfl) ?_
  refine (hear_calls (r := 0) (s' := kS6 R) (K' := kK2) (l := List.replicate 64 0) (p := P2) HF14.out HIN.out (by omega) (HT.out.below HB14.out) (rowLo HK14.out) z64b (by decide) HC2.out HP2R.out ⟨HPC2.out, HP2L.out⟩ KH3.out).mono ?_
  rintro e w15 ⟨rfl, hfw, hm⟩
  refine ⟨_, rfl, ?_⟩
  have hS1 := hHeld.trans hm
  have HF15 := Aside0.mk hfw
  have HL14 := Nat.le_trans HLO.out.2.2.2 hHeld.size
  have HB15 := Aside0.mk (hm.held HB14.out HLO.out.2.2.1 HL14)
  have HG15 := Aside0.mk (hm.keep HLO.out.2.1 HG14.out)
  have HK15 := Aside0.mk (hm.keep HLO.out.1 HK14.out)
  clear hfw hm HL14
  refine hK.out _ _ (by exact hS1) (fun hHeld => ?_)
  clear hK K
  refine norm_ (a' := ?_) ?_ ?_
  rotate_left
  · first
    | (show Act.put _ (some 99) _ = _; simp only [Act.put, List.setIfInBounds_toArray, List.set_cons_zero, List.set_cons_succ, i64_w, i32_w]; rfl)
    | rfl
  refine pure_ (i := 16) (N := some 100) (v := ?_) (a' := ?_) #[true, true, true, true, true, true, true, true, true, true, true, true, true, true, true, true, true, false] rfl rfl (any_of HT_.out (by kernel_rfl)) (fun _ _ _ h => h) (Or.inl ⟨by rfl, ?_⟩) ?_ ?_
  rotate_left
  · intro w'
    go_simp
    with_reducible rfl
  rotate_left
  · simp only [Act.put, List.setIfInBounds_toArray, List.set_cons_zero, List.set_cons_succ, i64_w, i32_w]
    rfl
  refine pure_ (i := 17) (N := some 101) (v := ?_) (a' := ?_) #[true, true, true, true, true, true, true, true, true, true, true, true, true, true, true, true, true, true] rfl rfl (any_of HT_.out (by kernel_rfl)) (fun _ _ _ h => h) (Or.inl ⟨by rfl, ?_⟩) ?_ ?_
  rotate_left
  · intro w'
    go_simp
    with_reducible rfl
  rotate_left
  · simp only [Act.put, List.setIfInBounds_toArray, List.set_cons_zero, List.set_cons_succ, i64_w, i32_w]
    rfl
  refine done_ (done_of HT_.out (by kernel_rfl)) ?_
  have hHH := hHeld
  clear hHeld HT_ HW_ hS0 HFd HGd HKd HBd
  go_wp2_with fail
  refine (blob_calls (r := some kB) HF15.out (by omega) (HT.out.below HB15.out) KB4.out).mono ?_
  rintro e w16 ⟨v, rfl, _, ho, hb⟩
  obtain ⟨A3, c3, rfl, hc3, hr3⟩ := Kd.R_reads (ho kB rfl)
  have HF16 := Aside0.mk (HF15.out.below hb)
  have HB16 := Aside0.mk (below_step HB15.out hb)
  have HK16 := Aside0.mk (Go.Proofs.YtoiblfmlahedlaaDoor.As.heap_keep HK15.out hb)
  have HL16 := Aside0.mk (show lo ≤ w16.heap.size from Nat.le_trans (Nat.le_trans HLO.out.2.2.2 hHH.size) hb.size)
  have hcv1 : (convert 22 9 (.slice A3 kB.length c3)).run Tryd.prog w16 = .ok (.string (strOfNums kB)) w16 := Kd.C_string Tryd.underlying22 Tryd.underlying5 Tryd.underlying9 hr3
  have hcv2 : (convert 22 9 (.slice (some ⟨g, 0, none⟩) 65 65)).run Tryd.prog w16 = .ok (.string (strOfNums kB)) w16 := Kd.C_string Tryd.underlying22 Tryd.underlying5 Tryd.underlying9 (rowAll HK16.out)
  rw [kBl] at hcv1 ⊢
  generalize strOfNums kB = sb at hcv1 hcv2
  clear ho hb hr3 hHH HF15 HB15 HK15 HG15
  go_wp2_with fail
  refine (hear_calls (r := 7) (s' := kS6 R) (K' := kK2) (l := List.replicate 64 0) (p := []) HF16.out HIN.out (by omega) (HT.out.below HB16.out) (rowLo HK16.out) z64b (by decide) (Kd.C_nil _ _) (by intro y hy; cases hy) (by decide) (kh5 R)).mono ?_
  rintro e w17 ⟨rfl, hfw, hm⟩
  have HB17 := Aside0.mk (hm.held HB16.out HLO.out.2.2.1 HL16.out)
  clear hfw hm hcv1 hcv2
  go_wp2
  go_ret
  exact ⟨rfl, HB17.out⟩
end Go.Proofs.YtoiblfmlahedlaaDoor.Fe
end
section
namespace Go.Proofs.YtoiblfmlahedlaaDoor.Fe
open Go.RowKit Go.Proofs.YtoiblfmlahedlaaDoorW.PrintWords Go.Proofs.YtoiblfmlahedlaaDoorW.PrintLast Go.Proofs.YtoiblfmlahedlaaDoorW.PrintMore
set_option linter.unusedVariables false
set_option linter.unusedSimpArgs false
set_option maxRecDepth 100000
open Go.Proofs.YtoiblfmlahedlaaDoor.As (St ks0 mayB inB badS nextF)
open Go.Proofs.YtoiblfmlahedlaaDoor.Sha (cb vd countN rootOf checkB B KD isRow)
open Go.Proofs.YtoiblfmlahedlaaDoor.Ref (new_calls rroot_calls)
def nmL (f : Nat → Int) (k : Nat) : List Int := (List.range k).map f
theorem nmL_succ (f : Nat → Int) (k : Nat) : nmL f k ++ [f k] = nmL f (k + 1) := by unfold nmL; rw [List.range_succ, List.map_append]; rfl
theorem nmL_len (f : Nat → Int) (k : Nat) : (nmL f k).length = k := by unfold nmL; simp
theorem nmL_at (f : Nat → Int) {k i : Nat} (h : i < k) : (nmL f k).getD i 0 = f i := by
  unfold nmL
  rw [List.getD_eq_getElem?_getD, List.getElem?_map, List.getElem?_range h]
  rfl
theorem nmL_mem {f : Nat → Int} {k : Nat} {x : Int} (h : x ∈ nmL f k) : ∃ i, i < k ∧ x = f i := by
  unfold nmL at h
  rw [List.mem_map] at h
  obtain ⟨i, hi, e⟩ := h
  exact ⟨i, List.mem_range.1 hi, e.symm⟩
theorem nmL_nodup {f : Nat → Int} (hf : ∀ i j, f i = f j → i = j) (k : Nat) : (nmL f k).Nodup := by
  apply Df.nodup
  intro a b ha hb e
  rw [nmL_len] at ha
  rw [nmL_at f ha, nmL_at f (by omega)] at e
  have := hf _ _ e
  omega
theorem idx_nm {f : Nat → Int} (hf : ∀ i j, f i = f j → i = j) {m k : Nat} (hk : k < m) : idxF (nmL f m) (f k) = (k : Int) := by
  have hl : k < (nmL f m).length := by rw [nmL_len]; exact hk
  have he : (nmL f m)[k] = f k := by rw [← getD_at hl]; exact nmL_at f hk
  have hm : f k ∈ nmL f m := by rw [← he]; exact List.getElem_mem hl
  unfold idxF
  rw [if_pos hm, ← he, (nmL_nodup hf m).idxOf_getElem k hl]
end Go.Proofs.YtoiblfmlahedlaaDoor.Fe
end
section
namespace Go.Proofs.YtoiblfmlahedlaaDoor.Fe
open Go.RowKit Go.Proofs.YtoiblfmlahedlaaDoorW.PrintWords Go.Proofs.YtoiblfmlahedlaaDoorW.PrintLast Go.Proofs.YtoiblfmlahedlaaDoorW.PrintMore
set_option linter.unusedVariables false
set_option linter.unusedSimpArgs false
set_option maxRecDepth 100000
open Go.Proofs.YtoiblfmlahedlaaDoor.As (St ks0 mayB inB badS nextF U hadS hadR stOf leftF upd isIn upd_same upd_other)
open Go.Proofs.YtoiblfmlahedlaaDoor.Sha (cb vd countN rootOf checkB B KD isRow chunkL proofOf prove_yes)
open Go.Proofs.YtoiblfmlahedlaaDoor.Ref (new_calls rroot_calls rproof_calls rchunk_calls)
theorem join_step (l : List Int) (k : Nat) (h : k * 64 ≤ l.length) : l.take (min l.length (k * 64)) ++ chunkL l k = l.take (min l.length ((k + 1) * 64)) := by
  unfold chunkL
  have h1 : l.take (min l.length (k * 64)) = (l.take (min l.length ((k + 1) * 64))).take (k * 64) := by rw [List.take_take]; congr 1; omega
  rw [h1, List.take_append_drop]
theorem cat_chunks (l : List Int) (K : Nat → List Int) : ∀ k, k ≤ countN l.length → (∀ i, i < k → K i = chunkL l i) → cat K k = l.take (min l.length (k * 64))
  | 0, _, _ => by simp [cat]
  | k + 1, hk, h => by
    rw [cat_succ, cat_chunks l K k (by omega) (fun i hi => h i (by omega)), h k (by omega)]
    exact join_step l k (by unfold countN at hk; omega)
theorem cat_all (l : List Int) (K : Nat → List Int) (h : ∀ i, i < countN l.length → K i = chunkL l i) : cat K (countN l.length) = l := by
  rw [cat_chunks l K _ (Nat.le_refl _) h, Nat.min_eq_left (by unfold countN; omega), List.take_length]
theorem hadS_at {n : Nat} {s : St} {i : Nat} (hi : i < n) (h : (s.1 i).1 ≠ 2) : hadS n s (i : Int) = (upd s.1 i (2, 0, 0), s.2.1, s.2.2) := by
  unfold hadS isIn
  rw [Int.toNat_natCast, if_pos ⟨⟨by omega, by omega⟩, h⟩]
theorem hear_right {f : Cf} {l : List Int} {s : St} {K : Nat → List Int} {x : Int} {i k : Nat} (hR : f.R = rootOf l) (hL : f.L = l.length) (hi : i < countN l.length) (hk : idxF f.ps x = (k : Int)) (ho : (s.1 i).1 ≠ 2) : hearF f s K x i (chunkL l i) (proofOf l i) = (0, hadS (countN l.length) s i, updK K i (chunkL l i)) := by
  have hy := prove_yes l i hi
  unfold hearF
  rw [hk, hL, hR, if_pos ⟨by omega, by omega, by omega⟩]
  rw [if_neg (show ¬ stOf s.1 (countN l.length) i = 2 by
    unfold stOf
    rw [if_pos ⟨by omega, by omega⟩, Int.toNat_natCast]
    exact ho), if_pos hy, Int.toNat_natCast]
  have hh : hadR (countN l.length) s i = 0 := by
    unfold hadR
    rw [Int.toNat_natCast, if_neg ho, if_pos (show isIn (countN l.length) (i : Int) from ⟨by omega, by omega⟩)]
  rw [hh]
theorem blob_left {f : Cf} {s : St} {K : Nat → List Int} (h : leftF s.1 (countN f.L) ≠ 0) : blobF f s K = none := by
  unfold blobF
  rw [if_pos h]
theorem proof_len {l : List Int} {i : Nat} (h : l.length ≤ 5000) : (proofOf l i).length < 1000000 := by
  have := Sha.proofP_le2 (Sha.leavesL l) i
  rw [Sha.leavesL_len] at this
  unfold proofOf
  have h : countN l.length ≤ 100 := count_100 h
  omega
theorem chunk_in {l : List Int} (h : Sha.bytes l) (i : Nat) : Sha.bytes (chunkL l i) := fun x hx => h x (by
  unfold chunkL at hx
  exact List.mem_of_mem_take (List.mem_of_mem_drop hx))
theorem chunk_le (l : List Int) (i : Nat) : (chunkL l i).length ≤ 64 := by
  unfold chunkL
  rw [List.length_drop, List.length_take]
  omega
theorem mod_nat (x : Int) (L : Nat) (h0 : 0 < L) (h1 : L ≤ 1000) : ∃ kk : Nat, kk < L ∧ wrap64 ((IntKind.u64.wrap x).tmod (L : Int)) = kk := by
  have hw : 0 ≤ IntKind.u64.wrap x := by
    simp only [IntKind.wrap, IntKind.bits, IntKind.signed]
    simp
    omega
  obtain ⟨y, hy⟩ := Int.eq_ofNat_of_zero_le hw
  rw [hy]
  have h2 : ((y : Int).tmod (L : Int)) = ((y % L : Nat) : Int) := by simp [Int.tmod]
  have h3 := Nat.mod_lt y h0
  rw [h2]
  exact ⟨y % L, h3, by unfold wrap64; omega⟩
end Go.Proofs.YtoiblfmlahedlaaDoor.Fe
end
section
namespace Go.Proofs.YtoiblfmlahedlaaDoor.Fe
open Go.RowKit Go.Proofs.YtoiblfmlahedlaaDoorW.PrintWords Go.Proofs.YtoiblfmlahedlaaDoorW.PrintLast Go.Proofs.YtoiblfmlahedlaaDoorW.PrintMore
set_option linter.unusedVariables false
set_option linter.unusedSimpArgs false
set_option maxRecDepth 100000
open Go.Proofs.YtoiblfmlahedlaaDoor.Sha (cb vd countN rootOf checkB B KD isRow chunkL proofOf getB cell_of)
open Go.Proofs.YtoiblfmlahedlaaDoor.Ref (new_calls rroot_calls rproof_calls rchunk_calls)
open Go.Proofs.YtoiblfmlahedlaaDoor.As (heap_keep heap_new)
def OB (w : World) (g : Nat) (l : List Int) : Prop := ∃ cur : Array Value, w.heap[g]? = some (.cells cur 5 (0, 0)) ∧ ∀ (j : Nat) (x : Int), l[j]? = some x → cur[j]? = some (.int .u8 x)
theorem OB.of {w : World} {base : Nat} {ok : Nat → Prop} {v : Value} {xs : List Int} (h : Kd.R B 5 w base ok v xs) (hp : 0 < xs.length) : ∃ g cap, v = .slice (some ⟨g, 0, none⟩) xs.length cap ∧ base ≤ g ∧ xs.length ≤ cap ∧ OB w g xs := by
  obtain ⟨g, cap, rfl, hb, _, cells, hc⟩ := Kd.R_form h hp
  refine ⟨g, cap, rfl, hb, (Kd.R_reads' h).2.1, cells, hc, fun j x hj => ?_⟩
  have hl := (List.getElem?_eq_some_iff.1 hj).1
  obtain ⟨ad, e, hx⟩ := getB (Kd.R_reads' h).2.2 j hl
  injection e with e
  subst e
  rw [show (Addr.mk g 0 none).add j = ⟨g, j, none⟩ by simp [Addr.add_lit]] at hx
  have h2 := (cell_of hc).1 hx
  rw [h2]
  unfold rd
  rw [Int.toNat_natCast, List.getD_eq_getElem?_getD, hj]
  rfl
theorem OB.cell {w : World} {g : Nat} {l : List Int} (h : OB w g l) (j : Nat) (hj : j < l.length) : w.cell? ⟨g, j, none⟩ = some (.int .u8 (l.getD j 0)) ∧ w.frozen? ⟨g, j, none⟩ = false := by
  obtain ⟨cur, h1, h2⟩ := h
  have h3 := h2 j (l.getD j 0) (by rw [List.getD_eq_getElem?_getD, List.getElem?_eq_getElem hj]; rfl)
  exact ⟨(cell_of h1).2 h3, by simp [World.frozen?, h1]⟩
theorem OB.set {w : World} {g : Nat} {l : List Int} (h : OB w g l) (j : Nat) (hj : j < l.length) (y : Int) : OB (w.setCell ⟨g, j, none⟩ (.int .u8 y)) g (l.set j y) := by
  obtain ⟨cur, h1, h2⟩ := h
  refine ⟨_, blk_set h1 j _, fun i x hx => ?_⟩
  rw [List.getElem?_set] at hx
  by_cases hij : j = i
  · subst hij
    rw [if_pos rfl, if_pos hj] at hx
    cases hx
    have h3 := h2 j (l.getD j 0) (by rw [List.getD_eq_getElem?_getD, List.getElem?_eq_getElem hj]; rfl)
    rw [Array.getElem?_setIfInBounds_self_of_lt (Array.getElem?_eq_some_iff.1 h3).1]
  · rw [if_neg hij] at hx
    rw [Array.getElem?_setIfInBounds_ne hij]
    exact h2 i x hx
theorem OB.C {w : World} {g : Nat} {l : List Int} (h : OB w g l) (hn : l.length ≤ 1000000) : B.C w (some ⟨g, 0, none⟩) l.length l := by
  obtain ⟨cur, h1, h2⟩ := h
  refine ⟨rfl, by omega, fun _ => ⟨_, rfl, fun j x hx => ⟨[.int .u8 x], rfl, by rfl, fun i u hu => ?_⟩⟩⟩
  rcases i with _ | i
  · simp at hu
    subst hu
    have := h2 j x hx
    rw [show (Addr.mk g 0 none).add (j * B.sz + 0) = ⟨g, j, none⟩ by
      rw [show j * B.sz + 0 = j by show j * 1 + 0 = j; omega]
      simp [Addr.add_lit]]
    simp [World.cell?, h1, this]
  · simp at hu
theorem OB.below {w w' : World} {g : Nat} {l : List Int} (h : OB w g l) (hb : Below w.heap.size w w') : OB w' g l := by
  obtain ⟨cur, h1, h2⟩ := h
  exact ⟨cur, heap_keep h1 hb, h2⟩
theorem mov_set (w : World) (g j : Nat) (v : Value) : Mov g (g + 1) w (w.setCell ⟨g, j, none⟩ v) :=
  ⟨rfl, rfl, rfl, by simp [World.setCell], fun k hk hx => Below.heap_setCell w ⟨g, j, none⟩ v k (by show k ≠ g; omega)⟩
theorem set_bytes {l : List Int} (h : Sha.bytes l) (i : Nat) {y : Int} (hy : 0 ≤ y ∧ y < 256) : Sha.bytes (l.set i y) := fun z hz => by
  rcases List.mem_or_eq_of_mem_set hz with h1 | h1
  · exact h z h1
  · subst h1; exact hy
theorem wrap_u8 (x : Int) : 0 ≤ IntKind.u8.wrap x ∧ IntKind.u8.wrap x < 256 := by rw [IntKind.wrap_u8]; omega
end Go.Proofs.YtoiblfmlahedlaaDoor.Fe
end
section
namespace Go.Proofs.YtoiblfmlahedlaaDoor.Fe
open Go.RowKit Go.Proofs.YtoiblfmlahedlaaDoorW.PrintWords Go.Proofs.YtoiblfmlahedlaaDoorW.PrintLast Go.Proofs.YtoiblfmlahedlaaDoorW.PrintMore
set_option linter.unusedVariables false
set_option linter.unusedSimpArgs false
set_option maxRecDepth 100000
open Go.Proofs.YtoiblfmlahedlaaDoor.As
open Go.Proofs.YtoiblfmlahedlaaDoor.Sha (cb vd countN rootOf checkB checkR B KD isRow chunkL proofOf prove_yes shaI)
open Go.Proofs.YtoiblfmlahedlaaDoor.Ref (new_calls rroot_calls rproof_calls rchunk_calls rpair_calls bind_rows pathV)
def CI (l : List Int) (n : Nat) (s : St) (K : Nat → List Int) : Prop := ∀ i, i < n → (s.1 i).1 = 2 → K i = chunkL l i
theorem ci_start (l : List Int) (n : Nat) (K : Nat → List Int) : CI l n ks0 K := fun i _ h => by cases h
theorem CI.next {l : List Int} {n m : Nat} {s : St} {K : Nat → List Int} {now win tm : Int} (h : CI l n s K) : CI l n (nextF now win tm n m s).2 K := fun i hi e => h i hi ((next_had now win tm n m s i).1 e)
theorem CI.bad {l : List Int} {n m : Nat} {s : St} {K : Nat → List Int} (h : CI l n s K) (j k : Int) : CI l n (badS n m s j k) K := fun i hi e => h i hi ((bad_had n m s j k i).1 e)
theorem CI.had {l : List Int} {n i : Nat} {s : St} {K : Nat → List Int} (h : CI l n s K) (hi : i < n) (ho : (s.1 i).1 ≠ 2) : CI l n (hadS n s (i : Int)) (updK K i (chunkL l i)) := by
  rw [hadS_at hi ho]
  intro j hj e
  by_cases hji : j = i
  · subst hji
    unfold updK
    rw [if_pos rfl]
  · have e2 : (upd s.1 i (2, 0, 0) j).1 = 2 := e
    rw [upd_other _ _ _ _ hji] at e2
    unfold updK
    rw [if_neg hji]
    exact h j hj e2
theorem hasD_yes {D : Nat → Int} {g : Nat} (h : D g < 3) : ∀ {m : Nat}, g < m → hasD D m = true
  | 0, hg => by omega
  | m + 1, hg => by
    unfold hasD
    by_cases e : g = m
    · subst e
      rw [decide_eq_true h, Bool.or_true]
    · rw [hasD_yes h (m := m) (by omega), Bool.true_or]
theorem left_had {S : Nat → U} : ∀ {n : Nat}, leftF S n = 0 → ∀ i, i < n → (S i).1 = 2
  | 0, _, i, hi => by omega
  | n + 1, h, i, hi => by
    unfold leftF at h
    by_cases e : (S n).1 = 2
    · by_cases e2 : i = n
      · rw [e2]; exact e
      · exact left_had (n := n) (by omega) i (by omega)
    · rw [if_neg e] at h; omega
theorem ainv_had {now tm : Int} {n m g : Nat} {s : St} (h : AInv 0 now tm n m g s) (hl : leftF s.1 n = 0) : AInv 0 (now + 1) tm n m g s := by
  obtain ⟨h1, h2, h3, _, _, h6⟩ := h
  have hh := left_had hl
  exact ⟨h1, h2, h3, (fun i hi e => by rw [hh i hi] at e; cases e), (fun i hi e => by rw [hh i hi] at e; cases e), h6⟩
theorem fnext_left {f : Cf} {s : St} {K : Nat → List Int} {now : Int} (h : leftF s.1 (countN f.L) = 0) : fnextF f s K now = ((0, 0, false), s) := by
  unfold fnextF
  rw [if_pos h]
theorem fnext_comes {f : Cf} {s : St} {K : Nat → List Int} {now : Int} {g : Nat} (hn : 0 ≤ now - f.be) (hb : now - f.be < f.bu) (hg : g < f.ps.length) (hD : s.2.1 g = 0) (h : leftF s.1 (countN f.L) ≠ 0) :
    fnextF f s K now = if (nextF now f.win f.tm (countN f.L) f.ps.length s).1.2.2 = true then (((nextF now f.win f.tm (countN f.L) f.ps.length s).1.1, f.ps.getD (nextF now f.win f.tm (countN f.L) f.ps.length s).1.2.1.toNat 0, true), (nextF now f.win f.tm (countN f.L) f.ps.length s).2) else ((0, 0, false), (nextF now f.win f.tm (countN f.L) f.ps.length s).2) := by
  have ho : overF f s K now = false := by
    unfold overF
    rw [blob_left h, if_neg (by simp), if_neg h, if_neg (by omega), if_neg (by omega)]
    unfold stuckB
    rw [hasD_yes (g := g) (by omega) hg]
    simp
  unfold fnextF
  rw [if_neg h, ho, if_neg (by simp)]
theorem hear_asked {f : Cf} {s : St} {K : Nat → List Int} {x : Int} {i k : Nat} {b : List Int} {p : List (List Int)} (hi : i < countN f.L) (hk : idxF f.ps x = (k : Int)) (ho : (s.1 i).1 ≠ 2) :
    hearF f s K x i b p = if checkB f.R f.L i b p = true then (0, hadS (countN f.L) s i, updK K i b) else (5, badS (countN f.L) f.ps.length s i k, K) := by
  unfold hearF
  rw [hk, if_pos ⟨by omega, by omega, by omega⟩]
  rw [if_neg (show ¬ stOf s.1 (countN f.L) i = 2 by
    unfold stOf
    rw [if_pos ⟨by omega, by omega⟩, Int.toNat_natCast]
    exact ho), Int.toNat_natCast]
  have hh : hadR (countN f.L) s i = 0 := by
    unfold hadR
    rw [Int.toNat_natCast, if_neg ho, if_pos (show isIn (countN f.L) (i : Int) from ⟨by omega, by omega⟩)]
  rw [hh]
theorem chunk_pos {l : List Int} {i : Nat} (h1 : 1 ≤ l.length) (h : i < countN l.length) : 1 ≤ (chunkL l i).length := by
  rw [Sha.chunk_len h]
  unfold countN at h
  omega
theorem checkR_of {R : List Int} {L i : Nat} {b : List Int} {p : List (List Int)} (h : checkB R L (i : Int) b p = true) : checkR R L i b p = true := by
  unfold checkB at h
  split at h
  · rw [Int.toNat_natCast, Int.toNat_natCast] at h; exact h
  · cases h
set_option maxHeartbeats 1600000 in
theorem shown_calls {w : World} (gh i : Nat) (A A' : Option Addr) (c c' : Nat) (l l2 : List Int) (hg : w.heap[gh]? = some (.cells Go.Proofs.YtoiblfmlahedlaaDoor.Ref.hk 72 (0, 0))) (hr : B.C w A l.length l) (hc : l.length ≤ c) (hb : Sha.bytes l) (hl : l.length ≤ 5000) (hi : i < countN l.length)
    (hr2 : B.C w A' l2.length l2) (hc' : l2.length ≤ c') (hb2 : Sha.bytes l2) (hl2 : l2.length ≤ 64) (hck : checkB (rootOf l) l.length (i : Int) l2 (proofOf l i) = true) (hne : chunkL l i ≠ l2) :
    Calls Tryd.prog 20 #[.pointer (some ⟨gh, 0, none⟩), .slice A l.length c, .int .i64 (i : Int), .slice A' l2.length c'] w fun e w' => e = .returned (.bool true) ∧ Below w.heap.size w w' := by
  have HG := Aside0.mk hg
  have HR := Aside0.mk hr
  have HR2 := Aside0.mk hr2
  have HY := Aside0.mk hb
  have HY2 := Aside0.mk hb2
  have HL := Aside0.mk hl
  have HI := Aside0.mk hi
  have HBD := Aside0.mk (bind_rows l.length i (rootOf l) (chunkL l i) l2 (proofOf l i) (proofOf l i) (Sha.proof_row l i) (Sha.proof_row l i) (checkR_of (prove_yes l i hi)) (checkR_of hck))
  have HNE0 := Aside0.mk hne
  have HPL := Aside0.mk (proof_len (l := l) (i := i) hl)
  have HPR := Aside0.mk (Sha.proof_row l i)
  clear hg hr hr2 hb hb2 hl hi hck hne
  go_enter Tryd.func20, Tryd.ntmps20
  go_wp2_with fail
  refine (rproof_calls gh A c l i _ HG.out HR.out hc HY.out (by have := HL.out; omega) HI.out).mono ?_
  rintro e w1 ⟨v, rfl, ho, hb⟩
  have HB1 := Aside0.mk hb
  have HG1 := Aside0.mk (heap_keep HG.out hb)
  obtain ⟨A2, c2, rfl, hc2, hr3⟩ := Kd.R_reads ho
  have HP1 := Aside0.mk hr3
  have HC2 := Aside0.mk hc2
  clear ho hb hr3 hc2
  go_wp2_with fail
  obtain ⟨b1, b2, b3, b4, b5, b6, b7⟩ := HBD.out
  obtain ⟨P, hP⟩ : ∃ P, (pathV l.length i (chunkL l i) (proofOf l i)).1 = P := ⟨_, rfl⟩
  obtain ⟨Q, hQ⟩ : ∃ Q, (pathV l.length i l2 (proofOf l i)).1 = Q := ⟨_, rfl⟩
  have HPE := Aside0.mk (show pathV l.length i (chunkL l i) (proofOf l i) = (P, true) by rw [← hP, ← b1])
  have HQE := Aside0.mk (show pathV l.length i l2 (proofOf l i) = (Q, true) by rw [← hQ, ← b2])
  rw [hP, hQ] at b3 b7
  rw [hP] at b4 b5
  rw [hQ] at b6
  have H3 := Aside0.mk b3
  have H4 := Aside0.mk b4
  have H7 := Aside0.mk b7
  have HNE := Aside0.mk (show P.getD 0 [] ≠ Q.getD 0 [] from fun h => HNE0.out (by
    rw [b5, b6] at h
    simpa using h))
  clear b1 b2 b3 b4 b5 b6 b7 HBD hP hQ
  refine (rpair_calls gh i A A' A2 c c' c2 l l2 (proofOf l i) _ HG1.out (Kd.C_below HR.out HB1.out) hc HY.out (by have := HL.out; omega) HI.out (Kd.C_below HR2.out HB1.out) hc' HY2.out hl2 HP1.out HC2.out HPR.out HPL.out P Q HPE.out HQE.out H3.out H4.out HNE.out).mono ?_
  rintro e w2 ⟨k, A5, A6, c5, c6, hk, hne, hall, rfl, hc5, hc6, hC5, hC6, hb⟩
  have HB2 := Aside0.mk (below_step HB1.out hb)
  rw [decide_eq_true (H7.out k hk hall)]
  generalize P.getD k [] = X at hc5 hC5 hne ⊢
  generalize Q.getD k [] = Y at hc6 hC6 hne ⊢
  clear hall hk hne hC5 hC6 hc5 hc6 hb
  go_wp2
  go_ret
  exact ⟨rfl, HB2.out⟩
theorem blob_ci {f : Cf} {l : List Int} {s : St} {K : Nat → List Int} (hR : f.R = rootOf l) (hL : f.L = l.length) (h : CI l (countN l.length) s K) (h0 : leftF s.1 (countN l.length) = 0) : blobF f s K = some l := by
  have hc := cat_all l K (fun i hi => h i hi (left_had h0 i hi))
  unfold blobF
  rw [hL, hc, hR, if_neg (by rw [h0]; simp), if_pos ⟨rfl, rfl⟩]
theorem bdown {b : Nat} {w w' : World} (hb : Below w.heap.size w w') (h : b ≤ w.heap.size) : Below b w w' := ⟨hb.os, hb.tape, hb.output, hb.size, fun k hk => hb.block k (Nat.lt_of_lt_of_le hk h)⟩
def f10 (i : Nat) : Int := 10 + 3 * i
theorem f10_inj (a b : Nat) (e : f10 a = f10 b) : a = b := by unfold f10 at e; omega
end Go.Proofs.YtoiblfmlahedlaaDoor.Fe
end
section
namespace Go.Proofs.YtoiblfmlahedlaaDoor.Fe
open Go.RowKit Go.Proofs.YtoiblfmlahedlaaDoorW.PrintWords Go.Proofs.YtoiblfmlahedlaaDoorW.PrintLast Go.Proofs.YtoiblfmlahedlaaDoorW.PrintMore
set_option linter.unusedVariables false
set_option linter.unusedSimpArgs false
set_option maxRecDepth 100000
open Go.Proofs.YtoiblfmlahedlaaDoor.As
open Go.Proofs.YtoiblfmlahedlaaDoor.Sha (cb vd countN rootOf checkB B KD isRow chunkL proofOf)
open Go.Proofs.YtoiblfmlahedlaaDoor.Ref (new_calls rroot_calls rproof_calls rchunk_calls)
theorem mul_bd {a b x y : Int} (ha : 0 ≤ a) (hb : 0 ≤ b) (hax : a ≤ x) (hby : b ≤ y) : 0 ≤ a * b ∧ a * b ≤ x * y :=
  ⟨Int.mul_nonneg ha hb, Int.mul_le_mul hax hby hb (by omega)⟩
set_option maxHeartbeats 3200000 in
theorem comes_out (L : Nat) (A : Option Addr) (c : Nat) (a1 a2 a3 a4 a5 : Int) (w : World) (hT : Sha.Tab w) (h : ¬ ((1 ≤ L ∧ L ≤ 600) ∧ (1 ≤ a1 ∧ a1 ≤ 5) ∧ (1 ≤ a2 ∧ a2 ≤ 100) ∧ (1 ≤ a3 ∧ a3 ≤ 8))) :
    Calls Tryd.prog 4 #[.slice A L c, .int .i64 a1, .int .i64 a2, .int .i64 a3, .int .i64 a4, .int .u64 a5] w fun e w' => e = .returned (.bool true) ∧ Below w.heap.size w w' := by
  have HT := Aside0.mk hT
  obtain ⟨x1, h1⟩ : ∃ x, decide ((L : Int) < 1) = x := ⟨_, rfl⟩
  obtain ⟨x2, h2⟩ : ∃ x, decide ((L : Int) > 600) = x := ⟨_, rfl⟩
  obtain ⟨x3, h3⟩ : ∃ x, decide (a1 < 1) = x := ⟨_, rfl⟩
  obtain ⟨x4, h4⟩ : ∃ x, decide (a1 > 5) = x := ⟨_, rfl⟩
  obtain ⟨x5, h5⟩ : ∃ x, decide (a2 < 1) = x := ⟨_, rfl⟩
  obtain ⟨x6, h6⟩ : ∃ x, decide (a2 > 100) = x := ⟨_, rfl⟩
  obtain ⟨x7, h7⟩ : ∃ x, decide (a3 < 1) = x := ⟨_, rfl⟩
  obtain ⟨x8, h8⟩ : ∃ x, decide (a3 > 8) = x := ⟨_, rfl⟩
  have g1 : decide (L < 1) = x1 := by rw [← h1]; exact decide_eq_decide.2 (by omega)
  have g2 : decide (600 < L) = x2 := by rw [← h2]; exact decide_eq_decide.2 (by omega)
  have g4 : decide (5 < a1) = x4 := h4
  have g6 : decide (100 < a2) = x6 := h6
  have g8 : decide (8 < a3) = x8 := h8
  have hor : (x1 || x2 || x3 || x4 || x5 || x6 || x7 || x8) = true := by
    rw [← h1, ← h2, ← h3, ← h4, ← h5, ← h6, ← h7, ← h8]
    simp only [Bool.or_eq_true, decide_eq_true_eq]
    omega
  have g0 : (L = 0) = (x1 = true) := by rw [← g1]; simp
  clear hT h
  go_enter Tryd.func4, Tryd.ntmps4
  rcases x1 with _ | _
  rotate_left
  · clear hor g0
    go_wp2_with fail
    refine (known_calls _ HT.out).mono ?_
    rintro e w2 ⟨rfl, hb⟩
    have HB2 := Aside0.mk hb
    clear hb
    go_wp2
    go_ret
    exact ⟨rfl, HB2.out⟩
  clear g0
  rcases x2 with _ | _
  rotate_left
  · clear hor
    go_wp2_with fail
    refine (known_calls _ HT.out).mono ?_
    rintro e w2 ⟨rfl, hb⟩
    have HB2 := Aside0.mk hb
    clear hb
    go_wp2
    go_ret
    exact ⟨rfl, HB2.out⟩
  rcases x3 with _ | _
  rotate_left
  · clear hor
    go_wp2_with fail
    refine (known_calls _ HT.out).mono ?_
    rintro e w2 ⟨rfl, hb⟩
    have HB2 := Aside0.mk hb
    clear hb
    go_wp2
    go_ret
    exact ⟨rfl, HB2.out⟩
  rcases x4 with _ | _
  rotate_left
  · clear hor
    go_wp2_with fail
    refine (known_calls _ HT.out).mono ?_
    rintro e w2 ⟨rfl, hb⟩
    have HB2 := Aside0.mk hb
    clear hb
    go_wp2
    go_ret
    exact ⟨rfl, HB2.out⟩
  rcases x5 with _ | _
  rotate_left
  · clear hor
    go_wp2_with fail
    refine (known_calls _ HT.out).mono ?_
    rintro e w2 ⟨rfl, hb⟩
    have HB2 := Aside0.mk hb
    clear hb
    go_wp2
    go_ret
    exact ⟨rfl, HB2.out⟩
  rcases x6 with _ | _
  rotate_left
  · clear hor
    go_wp2_with fail
    refine (known_calls _ HT.out).mono ?_
    rintro e w2 ⟨rfl, hb⟩
    have HB2 := Aside0.mk hb
    clear hb
    go_wp2
    go_ret
    exact ⟨rfl, HB2.out⟩
  rcases x7 with _ | _
  rotate_left
  · clear hor
    go_wp2_with fail
    refine (known_calls _ HT.out).mono ?_
    rintro e w2 ⟨rfl, hb⟩
    have HB2 := Aside0.mk hb
    clear hb
    go_wp2
    go_ret
    exact ⟨rfl, HB2.out⟩
  rcases x8 with _ | _
  rotate_left
  · clear hor
    go_wp2_with fail
    refine (known_calls _ HT.out).mono ?_
    rintro e w2 ⟨rfl, hb⟩
    have HB2 := Aside0.mk hb
    clear hb
    go_wp2
    go_ret
    exact ⟨rfl, HB2.out⟩
  exact absurd hor (by decide)
set_option maxHeartbeats 12800000 in
theorem comes_in (l : List Int) (A : Option Addr) (c : Nat) (m win tm : Nat) (a4 a5 : Int) (w : World) (hT : Sha.Tab w) (hC : B.C w A l.length l) (hc : l.length ≤ c) (hb : Sha.bytes l) (h : (1 ≤ l.length ∧ l.length ≤ 600) ∧ (1 ≤ m ∧ m ≤ 5) ∧ (1 ≤ win ∧ win ≤ 100) ∧ (1 ≤ tm ∧ tm ≤ 8)) (k5 : 0 ≤ a5 ∧ a5 < 18446744073709551616) :
    Calls Tryd.prog 4 #[.slice A l.length c, .int .i64 (m : Int), .int .i64 (win : Int), .int .i64 (tm : Int), .int .i64 a4, .int .u64 a5] w fun e w' => e = .returned (.bool true) ∧ Below w.heap.size w w' := by
  have HT := Aside0.mk hT
  have HC := Aside0.mk hC
  have HCC := Aside0.mk hc
  have HBY := Aside0.mk hb
  have HK5 := Aside0.mk k5
  have HH := Aside0.mk h
  obtain ⟨⟨hl1, hl2⟩, ⟨hm1, hm2⟩, ⟨hw1, hw2⟩, ht1, ht2⟩ := h
  have h1 : decide ((l.length : Int) < 1) = false := decide_eq_false (by omega)
  have h2 : decide ((l.length : Int) > 600) = false := decide_eq_false (by omega)
  have h1' : decide (l.length < 1) = false := decide_eq_false (by omega)
  have h2' : decide (600 < l.length) = false := decide_eq_false (by omega)
  have h3 : decide ((m : Int) < 1) = false := decide_eq_false (by omega)
  have h3' : decide (m < 1) = false := decide_eq_false (by omega)
  have h4 : decide ((m : Int) > 5) = false := decide_eq_false (by omega)
  have h4' : decide (5 < m) = false := decide_eq_false (by omega)
  have h5 : decide ((win : Int) < 1) = false := decide_eq_false (by omega)
  have h5' : decide (win < 1) = false := decide_eq_false (by omega)
  have h6 : decide ((win : Int) > 100) = false := decide_eq_false (by omega)
  have h6' : decide (100 < win) = false := decide_eq_false (by omega)
  have h7 : decide ((tm : Int) < 1) = false := decide_eq_false (by omega)
  have h7' : decide (tm < 1) = false := decide_eq_false (by omega)
  have h8 : decide ((tm : Int) > 8) = false := decide_eq_false (by omega)
  have h8' : decide (8 < tm) = false := decide_eq_false (by omega)
  have hne : (l.length = 0) = False := by simp only [eq_iff_iff, iff_false]; omega
  have hne1 : (m = 0) = False := by simp only [eq_iff_iff, iff_false]; omega
  have hne2 : (win = 0) = False := by simp only [eq_iff_iff, iff_false]; omega
  have hne3 : (tm = 0) = False := by simp only [eq_iff_iff, iff_false]; omega
  clear hT hC hc hb k5 hl1 hl2 hw1 hw2
  go_enter Tryd.func4, Tryd.ntmps4
  go_wp2_with fail
  clear h1 h2 h1' h2' h3 h3' h4 h4' h5 h5' h6 h6' h7 h7' h8 h8' hne hne1 hne2 hne3
  refine (new_calls _).mono ?_
  rintro e w1 ⟨gh, rfl, hgl, hgh, hb⟩
  have HGH := Aside0.mk hgh
  have HB1 := Aside0.mk hb
  clear hgl hgh hb
  go_wp2
  go_loopw [14, 63] (fun v14 v wr => ∃ (i : Nat), i ≤ m ∧ v = .int .i64 (i : Int) ∧ Aside0 (Kd.R I 3 wr w1.heap.size (fun _ => True) v14 (nmL f10 i)) ∧ Aside0 (Below w1.heap.size w1 wr)) (fun _ v _ => m - (intOf v).toNat)
  case atStart => exact ⟨0, Nat.zero_le _, rfl, ⟨Kd.R_nil _ _ _ _ _⟩, ⟨Below.refl _ _⟩⟩
  case round =>
    obtain ⟨i, hi, rfl, HO, HB⟩ := hrel
    by_cases hlt : i < m
    · have e1 : decide ((i : Int) < (m : Int)) = true := decide_eq_true (by omega)
      have e2 : decide (i < m) = true := decide_eq_true hlt
      have HNL := Aside0.mk (nmL_len f10 i)
      have HNS := Aside0.mk (show nmL f10 i ++ [10 + 3 * (i : Int)] = nmL f10 (i + 1) from nmL_succ f10 i)
      have h5w : wrap64 (3 * (i : Int)) = 3 * (i : Int) := by unfold wrap64; omega
      have h6w : wrap64 (10 + 3 * (i : Int)) = 10 + 3 * (i : Int) := by unfold wrap64; omega
      generalize nmL f10 i = acc at HO HNL HNS
      go_wp2_with ((with_reducible refine gate_builtin (b := .append) (xs := #[.tmp 66, .tmp 70]) rfl ?_); at_builtin; refine Kd.R_append I (w0 := w1) w1.heap.size rfl (.tmp 66) (.tmp 70) 23 3 (.int .i64 0) 8 rfl Tryd.underlying23 infoI rfl (by decide) (by omega) _ acc (10 + 3 * (i : Int)) [.int .i64 (10 + 3 * (i : Int))] (fun _ => True) (fun _ => False) rfl rfl rfl (fun _ h => h.elim) (fun _ _ => trivial) HO.out HB.out HB.out.size ?aL ?_; (case aL => rw [HNL.out]; omega); intro v2 w6 ho hb2 _ _; rw [HNS.out] at ho; have HO2 := Aside0.mk ho; have HB2 := Aside0.mk hb2; clear ho hb2)
      go_roundw
      case rel => exact ⟨i + 1, by omega, by first | rfl | go_num, HO2, HB2⟩
      case measure => simp [intOf]; omega
    obtain rfl : i = m := by omega
    have e1 : decide ((i : Int) < (i : Int)) = false := decide_eq_false (by omega)
    have HNL := Aside0.mk (nmL_len f10 i)
    obtain ⟨A1, c1, hv1, hc1, hr1⟩ := Kd.R_reads HO.out
    subst hv1
    have HPS := Aside0.mk hr1
    have HPC := Aside0.mk hc1
    have HB2 := Aside0.mk (below_step HB1.out HB.out)
    have HG2 := Aside0.mk (Go.Proofs.YtoiblfmlahedlaaDoor.As.heap_keep HGH.out HB.out)
    clear hr1 hc1 HO HB hlt hi
    go_wp2_with fail
    obtain ⟨g, hg, hge⟩ := mod_nat a4 i (by omega) (by omega)
    rw [hge]
    have HGI := Aside0.mk hg
    clear hge hg
    refine (rroot_calls gh A c l _ HG2.out (Kd.C_below HC.out HB2.out) HCC.out HBY.out (by have := HH.out.1; omega)).mono ?_
    rintro e w3 ⟨rfl, hb⟩
    have HRL := Aside0.mk (show (rootOf l).length = 32 by unfold rootOf Sha.rootI; exact Sha.shaI_len _)
    have HRB := Aside0.mk (show Sha.bytes (rootOf l) by unfold rootOf Sha.rootI; exact Sha.shaI_bytes _)
    have HB3 := Aside0.mk (below_step HB2.out hb)
    have HG3 := Aside0.mk (Go.Proofs.YtoiblfmlahedlaaDoor.As.heap_keep HG2.out hb)
    have HPS3 := Aside0.mk (Kd.C_below HPS.out hb)
    clear hb HB2 HG2 HPS
    obtain ⟨R, hRd⟩ : ∃ R, rootOf l = R := ⟨_, rfl⟩
    rw [hRd] at HRL HRB ⊢
    have hps : (nmL f10 i).length = i := HNL.out
    obtain ⟨ps, hpsd⟩ : ∃ ps, nmL f10 i = ps := ⟨_, rfl⟩
    rw [hpsd] at hps HPS3 HPC ⊢
    have HPD := Aside0.mk hpsd
    clear hpsd HNL
    rw [hps] at HPS3 HPC ⊢
    have HRD := Aside0.mk hRd
    clear hRd
    go_wp2_with fail
    have hmay : fmayB (l.length : Int) ps win tm 1000000 = true := by
      have hh := HH.out
      have hn : countN l.length ≤ 100 := count_100 (by omega)
      unfold fmayB mayB inB
      rw [if_pos ⟨by omega, by omega, by rw [← HPD.out]; exact nmL_nodup f10_inj _, by omega, by omega⟩, Int.toNat_natCast, hps]
      simp only [Bool.and_eq_true, decide_eq_true_eq]
      omega
    have HM := Aside0.mk hmay
    have hpsm : ∀ x ∈ ps, -9223372036854775808 ≤ x ∧ x ≤ 9223372036854775807 := by
      intro x hx
      rw [← HPD.out] at hx
      obtain ⟨j, hj, rfl⟩ := nmL_mem hx
      have := HH.out
      unfold f10
      omega
    have HPM := Aside0.mk hpsm
    clear hmay hpsm
    refine (fnew_yes (be := 0) (bu := 1000000) HRL.out HRB.out (show I.C w3 A1 ps.length ps from hps ▸ HPS3.out) (by have := HH.out; omega) HPM.out (by omega) HM.out).mono ?_ |> (fun h => by rw [hps] at h; exact h)
    rintro e w4 ⟨v, rfl, a, rfl, hfw, hin, hb⟩
    rw [Int.toNat_natCast] at hfw
    obtain ⟨f, hf⟩ : ∃ f : Cf, ⟨R, l.length, ps, win, tm, (1000000 : Int).toNat, 0⟩ = f := ⟨_, rfl⟩
    rw [hf] at hfw
    have hfR : f.R = rootOf l := by rw [← hf, HRD.out]
    have hfL : f.L = l.length := by rw [← hf]
    have hfP : f.ps = ps := by rw [← hf]
    have hfW : f.win = (win : Int) := by rw [← hf]
    have hfT : f.tm = (tm : Int) := by rw [← hf]
    have hfU : f.bu = 1000000 := by rw [← hf]; rfl
    have hfE : f.be = 0 := by rw [← hf]
    have HFD := Aside0.mk (And.intro hfR (And.intro hfL hfP))
    have HFE := Aside0.mk (And.intro hfW (And.intro hfT (And.intro hfU hfE)))
    obtain ⟨n, hn⟩ : ∃ n, countN l.length = n := ⟨_, rfl⟩
    have HN := Aside0.mk hn
    have HN10 := Aside0.mk (show 1 ≤ n ∧ n ≤ 10 by have := HH.out.1; rw [← hn]; unfold countN; omega)
    have HF4 := Aside0.mk hfw
    have HIN := Aside0.mk hin
    have HBW := Aside0.mk hb
    clear hfw hin hb hf hfR hfL hfP hfW hfT hfU hfE hn HPC HPM HM
    go_wp2_with fail
    refine (Go.Proofs.YtoiblfmlahedlaaDoor.Ref.rcount_calls l.length _ (by have := HH.out.1; omega)).mono ?_
    rintro e w5 ⟨rfl, hw⟩
    replace hw := hw.symm
    subst hw
    rw [HN.out]
    have hn10 := HN10.out
    have hP := mul_bd (a := 3 * (n : Int) + 1) (b := i) (x := 31) (y := 5) (by omega) (by omega) (by omega) (by omega)
    obtain ⟨hP1, hP2⟩ := hP
    have hQ := mul_bd (a := (3 * (n : Int) + 1) * i) (b := tm) (x := 155) (y := 8) hP1 (by omega) (by omega) (by omega)
    obtain ⟨hQ1, hQ2⟩ := hQ
    simp only [Int.reduceMul] at hP2 hQ2
    have HMT := Aside0.mk (show (i : Int) * tm ≤ (3 * (n : Int) + 1) * i * tm by
      rw [Int.mul_assoc]
      have : (1 : Int) * (i * tm) ≤ (3 * (n : Int) + 1) * (i * tm) := Int.mul_le_mul_of_nonneg_right (by omega) (Int.mul_nonneg (by omega) (by omega))
      omega)
    go_wp2
    go_loopw [20] (fun v wr => ∃ (nw : Int) (s : St) (cc : Nat) (K : Nat → List Int), v = .int .i64 nw ∧ 0 ≤ nw ∧ nw ≤ (3 * (n : Int) + 1) * i * tm + n + 1 ∧ Aside0 (AInv 0 nw tm n i g s) ∧ Aside0 ((cc : Int) ≤ 3 * tsum s.2.2 i n + nw) ∧ Aside0 (CI l n s K) ∧ Aside0 (FW wr a f cc s K) ∧ Aside0 (Below w3.heap.size w3 wr) ∧ Aside0 (w4.heap.size ≤ wr.heap.size)) (fun v _ => ((3 * (n : Int) + 1) * i * tm + n + 1 - intOf v).toNat)
    case atStart => exact ⟨0, ks0, 0, fun _ => [], rfl, Int.le_refl _, by omega, ⟨ainv_start tm n i g⟩, ⟨by have := (tsum_rng (T := ks0.2.2) (m := i) n (fun i _ k _ => ⟨Int.le_refl _, by show (0 : Int) ≤ 1; omega⟩)).1; omega⟩, ⟨ci_start l n _⟩, HF4, HBW, ⟨Nat.le_refl _⟩⟩
    case round =>
      clear HF4 HBW
      obtain ⟨nw, s, cc, K, rfl, hn0, hnb, HAI, HCN, HCI, HF, HB, HS⟩ := hrel
      have HNM : Aside0 ((n : Int) * i ≤ 50) := ⟨by have := (mul_bd (a := n) (b := i) (x := 10) (y := 5) (by omega) (by omega) (by omega) (by omega)).2; omega⟩
      have HTS := Aside0.mk (tsum_rng (T := s.2.2) (m := i) n HAI.out.1)
      by_cases hlt : nw < (3 * (n : Int) + 1) * i * tm + n + 1
      case neg =>
        have e0 : decide (nw < (3 * (n : Int) + 1) * i * tm + n + 1) = false := decide_eq_false hlt
        have HLF := Aside0.mk (ainv_done (by omega) HAI.out (by have := HMT.out; omega))
        go_wp2_with fail
        have HBA := Aside0.mk (blob_ci (f := f) HFD.out.1 HFD.out.2.1 (by rw [HN.out]; exact HCI.out) (by rw [HN.out]; exact HLF.out))
        have hcb : cc ≤ 3000 := by have := HCN.out; have := HTS.out; have := HNM.out; omega
        have HBW := Aside0.mk (below_step HB3.out HB.out)
        refine (blob_calls (r := some l) HF.out (by omega) (HT.out.below HBW.out) HBA.out).mono ?_
        rintro e w6 ⟨v, rfl, _, hob, hb⟩
        obtain ⟨A3, c3, rfl, hc3, hr3⟩ := Kd.R_reads (hob l rfl)
        have HB6 := Aside0.mk (below_step HBW.out hb)
        have hcv1 : (convert 22 9 (.slice A3 l.length c3)).run Tryd.prog w6 = .ok (.string (strOfNums l)) w6 := Kd.C_string Tryd.underlying22 Tryd.underlying5 Tryd.underlying9 hr3
        have hcv2 : (convert 22 9 (.slice A l.length c)).run Tryd.prog w6 = .ok (.string (strOfNums l)) w6 := Kd.C_string Tryd.underlying22 Tryd.underlying5 Tryd.underlying9 (Kd.C_below HC.out HB6.out)
        generalize strOfNums l = sb at hcv1 hcv2
        clear hob hb hr3 HF HB
        go_wp2_with fail
        refine (known_calls _ (HT.out.below HB6.out)).mono ?_
        rintro e w7 ⟨rfl, hb⟩
        have HB7 := Aside0.mk (below_step HB6.out hb)
        clear hb
        go_wp2
        go_ret
        exact ⟨rfl, HB7.out⟩
      have e0 : decide (nw < (3 * (n : Int) + 1) * i * tm + n + 1) = true := decide_eq_true hlt
      go_wp2
      obtain ⟨wo, hwo⟩ : ∃ wo, wo = wr := ⟨_, rfl⟩
      subst hwo
      have HBND := Aside0.mk (And.intro hn0 (And.intro hnb (And.intro hlt (And.intro hQ1 hQ2))))
      clear hnb hlt hP1 hP2 hQ1 hQ2 e0
      go_loopg [21] ((n : Int) * i - tsum s.2.2 i n).toNat (fun q v21 wr => ∃ (s' : St) (cc' : Nat) (K : Nat → List Int), Aside0 ((q : Int) = (n : Int) * i - tsum s'.2.2 i n) ∧ Aside0 (AInv 0 nw tm n i g s') ∧ Aside0 ((cc' : Int) ≤ 3 * tsum s'.2.2 i n + nw) ∧ Aside0 (CI l n s' K) ∧ Aside0 (FW wr a f cc' s' K) ∧ Aside0 (Below w3.heap.size w3 wr) ∧ Aside0 (w4.heap.size ≤ wr.heap.size))
      case atStart => exact ⟨s, cc, K, ⟨by have := HTS.out; omega⟩, HAI, HCN, HCI, HF, HB, HS⟩
      case round =>
        clear HAI HCN HCI HF HB HTS HS
        obtain ⟨s', cc', K, HQ, HAI, HCN, HCI, HF, HB, HS⟩ := hrel
        have HTS := Aside0.mk (tsum_rng (T := s'.2.2) (m := i) n HAI.out.1)
        have hcb : cc' ≤ 3000 := by have := HCN.out; have := HTS.out; have := HNM.out; have h := HBND.out; omega
        have hnw : nw < 3000 := by have h := HBND.out; omega
        have HBW := Aside0.mk (below_step HB3.out HB.out)
        go_wp2_with fail
        by_cases hlf : leftF s'.1 n = 0
        · have hnx := fnext_left (f := f) (s := s') (K := K) (now := nw) (by rw [HFD.out.2.1, HN.out]; exact hlf)
          have HAH := Aside0.mk (ainv_had HAI.out hlf)
          refine (fnext_calls (r := (0, 0, false)) (s' := s') HF.out HIN.out (by omega) (HT.out.below HBW.out) (by omega) (by rw [hnx]) (by rw [hnx])).mono ?_
          rintro e w5 ⟨rfl, hfw, hm⟩
          have HF5 := Aside0.mk hfw
          have HB5 := Aside0.mk (HB.out.trans (hm.below HB.out.size))
          have HS5 := Aside0.mk (Nat.le_trans HS.out hm.size)
          clear hfw hm HF HB hnx hlf
          go_wp2
          go_roundw
          case rel => exact ⟨nw + 1, s', cc' + 1, K, by first | rfl | go_num, by omega, by have h := HBND.out; omega, HAH, ⟨by have := HCN.out; omega⟩, HCI, HF5, HB5, HS5⟩
          case measure => have h := HBND.out; simp [intOf]; omega
        have hnx := fnext_comes (f := f) (s := s') (K := K) (now := nw) (g := g) (by rw [HFE.out.2.2.2]; omega) (by rw [HFE.out.2.2.2, HFE.out.2.2.1]; omega) (by rw [HFD.out.2.2, hps]; exact HGI.out) HAI.out.2.2.2.2.2 (by rw [HFD.out.2.1, HN.out]; exact hlf)
        rw [HFE.out.1, HFE.out.2.1, HFD.out.2.1, HN.out, HFD.out.2.2, hps] at hnx
        rcases hok : (nextF nw win tm n i s').1.2.2 with _ | _
        · rw [hok, if_neg (by simp)] at hnx
          have HNO := Aside0.mk (ainv_none HGI.out (by have := HH.out.2.2.1; omega) HAI.out hok)
          have HCI2 := Aside0.mk (HCI.out.next (m := i) (now := nw) (win := win) (tm := tm))
          refine (fnext_calls (r := (0, 0, false)) (s' := (nextF nw win tm n i s').2) HF.out HIN.out (by omega) (HT.out.below HBW.out) (by omega) (by rw [hnx]) (by rw [hnx])).mono ?_
          rintro e w5 ⟨rfl, hfw, hm⟩
          have HF5 := Aside0.mk hfw
          have HB5 := Aside0.mk (HB.out.trans (hm.below HB.out.size))
          have HS5 := Aside0.mk (Nat.le_trans HS.out hm.size)
          clear hfw hm HF HB hnx hlf hok
          generalize (nextF nw win tm n i s').2 = s2 at HF5 HNO HCI2
          go_wp2
          go_roundw
          case rel => exact ⟨nw + 1, s2, cc' + 1, K, by first | rfl | go_num, by omega, by have h := HBND.out; omega, ⟨HNO.out.1⟩, ⟨by have := HCN.out; have := HNO.out.2; omega⟩, HCI2, HF5, HB5, HS5⟩
          case measure => have h := HBND.out; simp [intOf]; omega
        rw [hok, if_pos rfl] at hnx
        obtain ⟨ci, ck, hci, hck, hr, hts, hA, hB, hC⟩ := ainv_some HGI.out (by have := HH.out.2.2.1; omega) (by have := HH.out.2.2.2; omega) HAI.out hok
        have HCI2 := Aside0.mk (HCI.out.next (m := i) (now := nw) (win := win) (tm := tm))
        have HOP := Aside0.mk (show ((nextF nw win tm n i s').2.1 ci).1 ≠ 2 by
          obtain ⟨i2, k2, _, _, hr2, _, hs, _⟩ := next_asks hok
          have e1 : (ci : Int) = i2 := congrArg (fun x => x.1) (hr.symm.trans hr2)
          obtain rfl : ci = i2 := by omega
          rw [hs]
          show (upd _ ci (1, (k2 : Int), nw) ci).1 ≠ 2
          rw [upd_same]
          show (1 : Int) ≠ 2
          omega)
        rw [hr] at hnx
        simp only [Int.toNat_natCast] at hnx
        have hpck : ps.getD ck 0 = 10 + 3 * (ck : Int) := by rw [← HPD.out]; exact nmL_at f10 hck
        rw [hpck] at hnx
        have HTS2 := Aside0.mk hts
        have HAA := Aside0.mk hA
        have HAB := Aside0.mk hB
        have HAC := Aside0.mk hC
        have HCK := Aside0.mk hci
        have HIDX := Aside0.mk (show idxF f.ps (10 + 3 * (ck : Int)) = (ck : Int) by rw [HFD.out.2.2, ← HPD.out]; exact idx_nm f10_inj hck)
        refine (fnext_calls (r := ((ci : Int), 10 + 3 * (ck : Int), true)) (s' := (nextF nw win tm n i s').2) HF.out HIN.out (by omega) (HT.out.below HBW.out) (by omega) (by rw [hnx]) (by rw [hnx])).mono ?_
        rintro e w5 ⟨rfl, hfw, hm⟩
        have HF5 := Aside0.mk hfw
        have HB5 := Aside0.mk (HB.out.trans (hm.below HB.out.size))
        have HS5 := Aside0.mk (Nat.le_trans HS.out hm.size)
        clear hfw hm HF HB hnx hlf hok hts hA hB hC hr HCI HBW
        generalize (nextF nw win tm n i s').2 = s2 at HF5 HTS2 HAA HAB HAC HCI2 HOP
        have HBW5 := Aside0.mk (below_step HB3.out HB5.out)
        obtain ⟨ad, rfl, cad⟩ := row_ci (Kd.C_below HPS3.out HB5.out) ck (by omega)
        rw [hpck] at cad
        have k1 : wrap64 (10 + 3 * (ck : Int) - 10) = 3 * (ck : Int) := by unfold wrap64; omega
        have k2 : (3 * (ck : Int)).tdiv 3 = (ck : Int) := by rw [Int.mul_comm]; exact Int.mul_tdiv_cancel _ (by decide)
        have e1 : decide ((ci : Int) < 0) = false := decide_eq_false (by omega)
        have e2 : decide ((ci : Int) ≥ (n : Int)) = false := decide_eq_false (by omega)
        have e2' : decide (n ≤ ci) = false := decide_eq_false (by omega)
        have e3 : decide ((ck : Int) < 0) = false := decide_eq_false (by omega)
        have e4 : decide ((ck : Int) ≥ (i : Int)) = false := decide_eq_false (by omega)
        have e4' : decide (i ≤ ck) = false := decide_eq_false (by omega)
        by_cases hkg : ck = g
        · subst hkg
          go_wp2_with fail
          clear k1 k2 e1 e2 e2' e3 e4 e4' cad
          have HA2 := Aside0.mk (HAA.out (by first | rfl | trivial))
          clear HAA HAB HAC
          refine (rchunk_calls A c l ci _ (Kd.C_below HC.out HBW5.out) HCC.out (by have := HH.out.1; omega) (by rw [HN.out]; exact HCK.out)).mono ?_
          rintro e w6 ⟨v, rfl, hob, hb⟩
          obtain ⟨A6, c6, rfl, hc6, hr6⟩ := Kd.R_reads hob
          have HF6 := Aside0.mk (HF5.out.below hb)
          have HB6 := Aside0.mk (HB5.out.trans (bdown hb HB5.out.size))
          have HS6 := Aside0.mk (Nat.le_trans HS5.out hb.size)
          have HCH6 := Aside0.mk hr6
          have HC6 := Aside0.mk hc6
          clear hob hb hr6 hc6 HF5
          go_wp2_with fail
          refine (rproof_calls gh A c l ci _ (heap_keep HG3.out HB6.out) (Kd.C_below HC.out (below_step HB3.out HB6.out)) HCC.out HBY.out (by have := HH.out.1; omega) (by rw [HN.out]; exact HCK.out)).mono ?_
          rintro e w7 ⟨v, rfl, hob, hb⟩
          obtain ⟨A7, c7, rfl, hc7, hr7⟩ := Kd.R_reads hob
          have HF7 := Aside0.mk (HF6.out.below hb)
          have HB7 := Aside0.mk (HB6.out.trans (bdown hb HB6.out.size))
          have HS7 := Aside0.mk (Nat.le_trans HS6.out hb.size)
          have HCH7 := Aside0.mk (Kd.C_below HCH6.out hb)
          have HPR7 := Aside0.mk hr7
          have HC7 := Aside0.mk hc7
          clear hob hb hr7 hc7 HF6 HCH6
          have HHR := Aside0.mk (hear_right (f := f) (l := l) (s := s2) (K := K) (x := 10 + 3 * (ck : Int)) (i := ci) (k := ck) HFD.out.1 HFD.out.2.1 (by rw [HN.out]; exact HCK.out) HIDX.out HOP.out)
          rw [HN.out] at HHR
          have HCI3 := Aside0.mk (HCI2.out.had (i := ci) HCK.out HOP.out)
          have HCHB := Aside0.mk (chunk_in HBY.out ci)
          have HCHL := Aside0.mk (chunk_le l ci)
          have HPRR := Aside0.mk (Sha.proof_row l ci)
          have HPRL := Aside0.mk (proof_len (l := l) (i := ci) (by have := HH.out.1; omega))
          have HT8 := Aside0.mk (show tsum (hadS n s2 (ci : Int)).2.2 i n = tsum s'.2.2 i n + 1 by rw [HA2.out.2.2]; exact HTS2.out)
          have HA8 := Aside0.mk HA2.out.2.1
          clear HA2 HTS2
          generalize hadS n s2 (ci : Int) = s3 at HT8 HA8 HCI3 HHR
          generalize updK K ci (chunkL l ci) = K3 at HCI3 HHR
          generalize chunkL l ci = ch at HCH7 HC6 HCHB HCHL HHR ⊢
          generalize proofOf l ci = pf at HPR7 HC7 HPRR HPRL HHR ⊢
          go_wp2_with fail
          refine (hear_calls (r := 0) (s' := s3) (K' := K3) (l := ch) (p := pf) HF7.out HIN.out (by omega) (HT.out.below (below_step HB3.out HB7.out)) HCH7.out HCHB.out ⟨HC6.out, by have := HCHL.out; omega⟩ HPR7.out HPRR.out ⟨HC7.out, HPRL.out⟩ HHR.out).mono ?_
          rintro e w8 ⟨rfl, hfw, hm⟩
          have HF8 := Aside0.mk hfw
          have HB8 := Aside0.mk (HB7.out.trans (hm.below HB7.out.size))
          have HS8 := Aside0.mk (Nat.le_trans HS7.out hm.size)
          clear hfw hm HF7 HB7 HCH7 HPR7
          go_wp2
          go_roundg (gk - 1)
          case measure => have := HQ.out; have := HTS.out; have := HT8.out; have := (tsum_rng (T := s3.2.2) (m := i) n HA8.out.1).2; omega
          case rel => exact ⟨s3, cc' + 1 + 2, _, ⟨by have := HQ.out; have := HT8.out; have := (tsum_rng (T := s3.2.2) (m := i) n HA8.out.1).2; omega⟩, HA8, ⟨by have := HCN.out; have := HT8.out; omega⟩, HCI3, HF8, HB8, HS8⟩
        have e5 : ((ck : Int) == (g : Int)) = false := by rw [beq_eq_false_iff_ne]; omega
        have e5' : (ck == g) = false := by rw [beq_eq_false_iff_ne]; exact hkg
        go_wp2_with fail
        rotate_left
        · clear k1 k2 e1 e2 e2' e3 e4 e4' cad e5 e5'
          have HB2 := Aside0.mk (HAB.out hkg)
          clear HAA HAB HAC
          go_roundg (gk - 1)
          case measure => have := HQ.out; have := HTS.out; have := HTS2.out; have := (tsum_rng (T := s2.2.2) (m := i) n HB2.out.1).2; omega
          case rel => exact ⟨s2, cc' + 1, K, ⟨by have := HQ.out; have := HTS2.out; have := (tsum_rng (T := s2.2.2) (m := i) n HB2.out.1).2; omega⟩, HB2, ⟨by have := HCN.out; have := HTS2.out; omega⟩, HCI2, HF5, HB5, HS5⟩
        clear k1 k2 e1 e2 e2' e3 e4 e4' cad e5 e5'
        have HC2 := Aside0.mk (HAC.out hkg)
        clear HAA HAB HAC
        refine (rchunk_calls A c l ci _ (Kd.C_below HC.out HBW5.out) HCC.out (by have := HH.out.1; omega) (by rw [HN.out]; exact HCK.out)).mono ?_
        rintro e w6 ⟨v, rfl, hob, hb⟩
        have hcp := chunk_pos (l := l) (i := ci) (by have := HH.out.1; omega) (by rw [HN.out]; exact HCK.out)
        obtain ⟨gc, cG, rfl, hgc, hcc, hob6⟩ := OB.of hob (by omega)
        have HF6 := Aside0.mk (HF5.out.below hb)
        have HB6 := Aside0.mk (HB5.out.trans (bdown hb HB5.out.size))
        have HOB6 := Aside0.mk hob6
        have HCG := Aside0.mk hcc
        have HGC := Aside0.mk (show w5.heap.size ≤ gc ∧ gc < w6.heap.size from ⟨hgc, Kd.R_lt hob gc rfl⟩)
        have HLT := Aside0.mk HB5.out.size
        have HF6S := HF5
        have hb6s := Aside0.mk hb
        have HHI := Aside0.mk (show w4.heap.size ≤ w5.heap.size from HS5.out)
        clear hob hb hcc hob6 HF5 hgc
        obtain ⟨y0, hy0⟩ := HOB6.out.cell 0 (by omega)
        obtain ⟨y, hy⟩ : ∃ y, (chunkL l ci).getD 0 0 = y := ⟨_, rfl⟩
        rw [hy] at y0
        have HYE := Aside0.mk hy
        have HCP := Aside0.mk hcp
        have hclz : (chunkL l ci).length ≠ 0 := by omega
        clear hy
        go_upto_region 29 with (fail)
        obtain ⟨z, hz⟩ : ∃ z, (y + 1) % 256 = z := ⟨_, rfl⟩
        rw [hz]
        obtain ⟨w7, hw7⟩ : ∃ w7, w6.setCell ⟨gc, 0, none⟩ (.int .u8 z) = w7 := ⟨_, rfl⟩
        have hm7 : Mov gc (gc + 1) w6 w7 := hw7 ▸ mov_set w6 gc 0 (.int .u8 z)
        have HOB7 := Aside0.mk (show OB w7 gc ((chunkL l ci).set 0 z) from hw7 ▸ HOB6.out.set 0 (by have := HCP.out; omega) z)
        have hb7 : Below w5.heap.size w6 w7 := ⟨hm7.os, hm7.tape, hm7.output, hm7.size, fun k hk => hm7.block k (by have := HGC.out; omega) (Or.inl (by have := HGC.out; omega))⟩
        have HF7 := Aside0.mk (HF6S.out.below ⟨hb7.os.trans hb6s.out.os, hb7.tape.trans hb6s.out.tape, hb7.output.trans hb6s.out.output, Nat.le_trans hb6s.out.size hb7.size, fun k hk => (hb7.block k hk).trans (hb6s.out.block k hk)⟩)
        have HB7 := Aside0.mk (HB6.out.trans (show Below w3.heap.size w6 w7 from ⟨hb7.os, hb7.tape, hb7.output, hb7.size, fun k hk => hb7.block k (Nat.lt_of_lt_of_le hk HLT.out)⟩))
        have HS7 := Aside0.mk (Nat.le_trans HS5.out (Nat.le_trans hb6s.out.size hb7.size))
        rw [hw7]
        have HZN := Aside0.mk (show chunkL l ci ≠ (chunkL l ci).set 0 z from fun e => by
          have h1 : (chunkL l ci).getD 0 0 = ((chunkL l ci).set 0 z).getD 0 0 := congrArg (fun x => x.getD 0 0) e
          rw [HYE.out] at h1
          have h2 : ((chunkL l ci).set 0 z).getD 0 0 = z := by
            rw [List.getD_eq_getElem?_getD, List.getElem?_set]
            rw [if_pos rfl, if_pos (by have := HCP.out; omega)]
            rfl
          rw [h2, ← hz] at h1
          have := HYE.out
          have hyb : 0 ≤ y ∧ y < 256 := by
            have hm : (chunkL l ci).getD 0 0 ∈ chunkL l ci := by
              rw [getD_at (by have := HCP.out; omega)]; exact List.getElem_mem _
            rw [HYE.out] at hm
            exact chunk_in HBY.out ci y hm
          omega)
        have HZB := Aside0.mk (show 0 ≤ z ∧ z < 256 by rw [← hz]; omega)
        have HLB := Aside0.mk (show ((chunkL l ci).set 0 z).length = (chunkL l ci).length from List.length_set)
        have HLB2 := Aside0.mk (show ((chunkL l ci).set 0 z).length ≤ 64 by rw [List.length_set]; exact chunk_le l ci)
        have HLBY := Aside0.mk (set_bytes (chunk_in HBY.out ci) 0 HZB.out)
        rw [← HLB.out]
        have HCG2 := HCG
        rw [← HLB.out] at HCG2
        clear hm7 hb7 hw7 hz y0 hy0 HOB6 HF6 HB6 HCG HLB HYE HCP hclz hcp HF6S hb6s
        obtain ⟨bad, hbad⟩ : ∃ b, (chunkL l ci).set 0 z = b := ⟨_, rfl⟩
        rw [hbad] at HOB7 HZN HLB2 HLBY HCG2 ⊢
        clear hbad
        go_wp2_with fail
        refine (rproof_calls gh A c l ci _ (heap_keep HG3.out HB7.out) (Kd.C_below HC.out (below_step HB3.out HB7.out)) HCC.out HBY.out (by have := HH.out.1; omega) (by rw [HN.out]; exact HCK.out)).mono ?_
        rintro e w8 ⟨v, rfl, hob, hb⟩
        obtain ⟨A7, c7, rfl, hc7, hr7⟩ := Kd.R_reads hob
        have HF8 := Aside0.mk (HF7.out.below hb)
        have HB8 := Aside0.mk (HB7.out.trans (bdown hb HB7.out.size))
        have HS8 := Aside0.mk (Nat.le_trans HS7.out hb.size)
        have HOB8 := Aside0.mk (HOB7.out.below hb)
        have HPR8 := Aside0.mk hr7
        have HC7 := Aside0.mk hc7
        have HPRR := Aside0.mk (Sha.proof_row l ci)
        have HPRL := Aside0.mk (proof_len (l := l) (i := ci) (by have := HH.out.1; omega))
        have HHA := Aside0.mk (hear_asked (f := f) (s := s2) (K := K) (x := 10 + 3 * (ck : Int)) (i := ci) (k := ck) (b := bad) (p := proofOf l ci) (by rw [HFD.out.2.1, HN.out]; exact HCK.out) HIDX.out HOP.out)
        rw [HFD.out.1, HFD.out.2.1, HN.out, HFD.out.2.2, hps] at HHA
        have HSH := Aside0.mk (fun (w' : World) (h1 : w'.heap[gh]? = some (.cells Go.Proofs.YtoiblfmlahedlaaDoor.Ref.hk 72 (0, 0))) (h2 : B.C w' A l.length l) (h3 : B.C w' (some ⟨gc, 0, none⟩) bad.length bad) (h4 : checkB (rootOf l) l.length (ci : Int) bad (proofOf l ci) = true) => shown_calls (w := w') gh ci A (some ⟨gc, 0, none⟩) c cG l bad h1 h2 HCC.out HBY.out (by have := HH.out.1; omega) (by rw [HN.out]; exact HCK.out) h3 HCG2.out HLBY.out HLB2.out h4 HZN.out)
        clear hob hb hr7 hc7 HF7 HB7 HOB7 HZN
        generalize rootOf l = RR at HHA HSH
        generalize proofOf l ci = pf at HPR8 HC7 HPRR HPRL HHA HSH ⊢
        go_wp2_with fail
        rcases hcb2 : checkB RR l.length (ci : Int) bad pf with _ | _
        · rw [hcb2, if_neg (by simp)] at HHA
          have HCI3 := Aside0.mk (HCI2.out.bad (m := i) (ci : Int) (ck : Int))
          have HT9 := Aside0.mk (show tsum (badS n i s2 (ci : Int) (ck : Int)).2.2 i n = tsum s'.2.2 i n + 1 by rw [HC2.out.2.2]; exact HTS2.out)
          have HA9 := Aside0.mk HC2.out.2.1
          clear hcb2 HC2 HTS2 HSH
          refine (hear_calls (r := 5) (s' := badS n i s2 (ci : Int) (ck : Int)) (K' := K) (l := bad) (p := pf) HF8.out HIN.out (by omega) (HT.out.below (below_step HB3.out HB8.out)) (HOB8.out.C (by have := HLB2.out; omega)) HLBY.out ⟨HCG2.out, by have := HLB2.out; omega⟩ HPR8.out HPRR.out ⟨HC7.out, HPRL.out⟩ HHA.out).mono ?_
          rintro e w9 ⟨rfl, hfw, hm⟩
          have HF9 := Aside0.mk hfw
          have HB9 := Aside0.mk (HB8.out.trans (hm.below HB8.out.size))
          have HS9 := Aside0.mk (Nat.le_trans HS8.out hm.size)
          clear hfw hm HF8 HB8 HHA
          generalize badS n i s2 (ci : Int) (ck : Int) = s3 at HF9 HT9 HA9 HCI3
          go_wp2
          go_roundg (gk - 1)
          case measure => have := HQ.out; have := HTS.out; have := HT9.out; have := (tsum_rng (T := s3.2.2) (m := i) n HA9.out.1).2; omega
          case rel => exact ⟨s3, cc' + 1 + 2, K, ⟨by have := HQ.out; have := HT9.out; have := (tsum_rng (T := s3.2.2) (m := i) n HA9.out.1).2; omega⟩, HA9, ⟨by have := HCN.out; have := HT9.out; omega⟩, HCI3, HF9, HB9, HS9⟩
        · rw [hcb2, if_pos rfl] at HHA
          refine (hear_calls (l := bad) (p := pf) HF8.out HIN.out (by omega) (HT.out.below (below_step HB3.out HB8.out)) (HOB8.out.C (by have := HLB2.out; omega)) HLBY.out ⟨HCG2.out, by have := HLB2.out; omega⟩ HPR8.out HPRR.out ⟨HC7.out, HPRL.out⟩ HHA.out).mono ?_
          rintro e w9 ⟨rfl, hfw, hm⟩
          have HB9 := Aside0.mk (HB8.out.trans (hm.below HB8.out.size))
          have HOB9 := Aside0.mk (show OB w9 gc bad from by
            obtain ⟨cur, g1, g2⟩ := HOB8.out
            exact ⟨cur, (hm.block gc (Array.getElem?_eq_some_iff.1 g1).1 (Or.inr (by have := HGC.out; have := HHI.out; omega))).trans g1, g2⟩)
          have HCT := Aside0.mk hcb2
          clear hfw hm HF8 HB8 HHA HOB8 hcb2
          go_wp2_with fail
          refine (HSH.out _ (heap_keep HG3.out HB9.out) (Kd.C_below HC.out (below_step HB3.out HB9.out)) (HOB9.out.C (by have := HLB2.out; omega)) HCT.out).mono ?_
          rintro e w10 ⟨rfl, hb⟩
          have HB10 := Aside0.mk (below_step (below_step HB3.out HB9.out) hb)
          clear hb
          go_wp2_with fail
          refine (known_calls _ (HT.out.below HB10.out)).mono ?_
          rintro e w11 ⟨rfl, hb⟩
          have HB11 := Aside0.mk (below_step HB10.out hb)
          clear hb
          go_wp2
          go_ret
          exact ⟨rfl, HB11.out⟩
theorem comes_walk (a0 : Option Addr) (c0 : Nat) (x0 : List Int) (a1 a2 a3 a4 a5 : Int) (w : World) (hT : Sha.Tab w) (C0 : B.C w a0 x0.length x0) (l0 : x0.length ≤ c0) (k0 : ∀ x ∈ x0, (Lit.int .u8 x).wf = true) (k1 : (Lit.int .i64 a1).wf = true) (k2 : (Lit.int .i64 a2).wf = true) (k3 : (Lit.int .i64 a3).wf = true) (k4 : (Lit.int .i64 a4).wf = true) (k5 : (Lit.int .u64 a5).wf = true) :
    Calls Tryd.prog 4 #[.slice a0 x0.length c0, .int .i64 a1, .int .i64 a2, .int .i64 a3, .int .i64 a4, .int .u64 a5] w fun e w' => e = .returned (.bool true) ∧ Below w.heap.size w w' := by
  by_cases h : (1 ≤ x0.length ∧ x0.length ≤ 600) ∧ (1 ≤ a1 ∧ a1 ≤ 5) ∧ (1 ≤ a2 ∧ a2 ≤ 100) ∧ (1 ≤ a3 ∧ a3 ≤ 8)
  · obtain ⟨m, rfl⟩ := Int.eq_ofNat_of_zero_le (show 0 ≤ a1 by omega)
    obtain ⟨win, rfl⟩ := Int.eq_ofNat_of_zero_le (show 0 ≤ a2 by omega)
    obtain ⟨tm, rfl⟩ := Int.eq_ofNat_of_zero_le (show 0 ≤ a3 by omega)
    exact comes_in x0 a0 c0 m win tm a4 a5 w hT C0 l0 (fun x hx => by have := bounds_u8 (k0 x hx); omega) (by omega) (by have := bounds_u64 k5; omega)
  · exact comes_out x0.length a0 c0 a1 a2 a3 a4 a5 w hT h
end Go.Proofs.YtoiblfmlahedlaaDoor.Fe
end
