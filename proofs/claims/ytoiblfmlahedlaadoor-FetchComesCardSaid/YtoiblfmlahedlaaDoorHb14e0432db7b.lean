/- What calls of Go functions of this seat come to, as the rows need it: under the conditions that each theorem names. -/
import Derived.Test.YtoiblfmlahedlaaDoorH3d4f35f1d9de
import Derived.Deep.RegionWith
section
namespace Go.Proofs.YtoiblfmlahedlaaDoor.As
open Go.RowKit Go.Proofs.YtoiblfmlahedlaaDoorW.PrintWords Go.Proofs.YtoiblfmlahedlaaDoorW.PrintLast Go.Proofs.YtoiblfmlahedlaaDoorW.PrintMore
set_option linter.unusedVariables false
set_option linter.unusedSimpArgs false
set_option maxRecDepth 100000
open Go.Maps
theorem infoC : (Tryd.prog.info? 108).map (fun i => (i.zero, i.size, i.bytes)) = some (some (.agg #[.int .i64 0, .int .i64 0, .int .i64 0]), 3, 24) := by kernel_rfl
theorem infoI : (Tryd.prog.info? 3).map (fun i => (i.zero, i.size, i.bytes)) = some (some (.int .i64 0), 1, 8) := by kernel_rfl
def zC (n : Nat) : Array Value := madeCells #[.int .i64 0, .int .i64 0, .int .i64 0] (n * 3)
def zI (n : Nat) : Array Value := madeCells #[.int .i64 0] (n * 1)
theorem zC_at (n j : Nat) (h : j < n * 3) : (zC n)[j]? = some (.int .i64 0) := by
  unfold zC madeCells
  have : j % 3 = 0 ∨ j % 3 = 1 ∨ j % 3 = 2 := by omega
  rcases this with e | e | e <;> simp [h, e]
theorem zI_at (n j : Nat) (h : j < n) : (zI n)[j]? = some (.int .i64 0) := by
  unfold zI madeCells
  have : j < n * 1 := by omega
  have e : (Array.range (n * 1))[j]? = some j := by rw [Array.getElem?_range]; simp [h]
  rw [Array.getElem?_map, e]
  simp [Nat.mod_one]
theorem make_C (n : Nat) (hn : n ≤ 100) (w : World) : (Instr.makeSlice 101 (.int .i64 (n : Int)) (.int .i64 (n : Int))).run Tryd.prog w = .ok (.slice (some ⟨w.heap.size, 0, none⟩) n n) (w.alloc (.cells (zC n) 108)) := by
  obtain ⟨i, hi, hz, hs, hb⟩ := info_parts infoC
  have h := run_make (P := Tryd.prog) w 101 108 i _ Tryd.underlying101 hi hz .i64 .i64 (n : Int) (n : Int) (by omega) (Int.le_refl _) (by rw [hb]; omega) (by omega)
  rw [hs] at h
  simp only [Int.toNat_natCast] at h
  exact h
theorem make_I (n : Nat) (hn : n ≤ 100) (w : World) : (Instr.makeSlice 23 (.int .i64 (n : Int)) (.int .i64 (n : Int))).run Tryd.prog w = .ok (.slice (some ⟨w.heap.size, 0, none⟩) n n) (w.alloc (.cells (zI n) 3)) := by
  obtain ⟨i, hi, hz, hs, hb⟩ := info_parts infoI
  have h := run_make (P := Tryd.prog) w 23 3 i _ Tryd.underlying23 hi hz .i64 .i64 (n : Int) (n : Int) (by omega) (Int.le_refl _) (by rw [hb]; omega) (by omega)
  rw [hs] at h
  simp only [Int.toNat_natCast] at h
  exact h
theorem new_fin {w w4 : World} {p gc gd gm n m : Nat} {win tm : Int} (hn : n ≤ 100) (hm : m ≤ 64) (ht : 1 ≤ tm ∧ tm ≤ 1000000) (hb : Below w.heap.size w w4)
    (hp : w4.heap[p]? = some (.cells #[.slice (some ⟨gc, 0, none⟩) n n, .slice (some ⟨gd, 0, none⟩) m m, .map (some gm), .int .i64 win, .int .i64 tm] 104 (0, 0)))
    (hc : w4.heap[gc]? = some (.cells (zC n) 108 (0, 0))) (hd : w4.heap[gd]? = some (.cells (zI m) 3 (0, 0))) (hg : w4.heap[gm]? = some (.map #[] 0))
    (l1 : w.heap.size ≤ p) (l2 : w.heap.size ≤ gc) (l3 : w.heap.size ≤ gd) (l4 : w.heap.size ≤ gm) (e1 : p ≠ gc ∧ p ≠ gd ∧ gc ≠ gd ∧ gm ≠ p ∧ gm ≠ gc ∧ gm ≠ gd) :
    PW w4 p gc gd gm n m n m win tm 0 (fun _ => (0, 0, 0), fun _ => 0, fun _ _ => 0) ∧ Below w.heap.size w w4 ∧ w.heap.size ≤ p ∧ w.heap.size ≤ gc ∧ w.heap.size ≤ gd ∧ w.heap.size ≤ gm := by
  obtain ⟨a1, a2, a3, a4, a5, a6⟩ := e1
  refine ⟨⟨⟨hp, ⟨zC n, hc, Nat.le_of_eq (by simp [zC, size_madeCells]), fun i hi => ⟨zC_at _ _ (by omega), zC_at _ _ (by omega), zC_at _ _ (by omega)⟩⟩, ⟨zI m, hd, Nat.le_of_eq (by simp [zI, size_madeCells]), fun k hk => zI_at _ _ hk⟩, hn, hm, a1, a2, a3, a4, a5, a6⟩, ?_, ⟨(fun i hi hs => by cases hs), fun k => ⟨Int.le_refl _, by show (0 : Int) ≤ _; omega⟩⟩, fun i k => ⟨Int.le_refl _, Int.le_refl _⟩, ht.1, ht.2⟩, hb, l1, l2, l3, l4⟩
  exact ⟨_, ⟨#[], 0, hg, ⟨by simp, ⟨by simp, by simp⟩, by simp⟩, Nat.le_refl _, rfl⟩, ⟨[], rfl⟩, fun i k _ _ => rfl⟩
theorem al_new {w : World} {o : Obj} {k : Nat} (h : k = w.heap.size) : (w.alloc o).heap[k]? = some o := by subst h; exact heap_new w o
theorem al_old {w : World} {o x : Obj} {k : Nat} (h : w.heap[k]? = some x) : (w.alloc o).heap[k]? = some x := heap_keep h ((Below.refl _ _).alloc (Nat.le_refl _) _)
theorem al_drew {w : World} {x : Obj} {k : Nat} (h : w.heap[k]? = some x) : w.drew.heap[k]? = some x := h
set_option maxHeartbeats 3200000 in
set_option maxRecDepth 100000 in
theorem new_yes (n m : Nat) (win tm : Int) (w : World) (h : mayB n m win tm = true) : Calls Tryd.prog 33 #[.int .i64 (n : Int), .int .i64 (m : Int), .int .i64 win, .int .i64 tm] w fun e w' => ∃ p gc gd gm cc cd, e = .returned (.tuple #[.pointer (some ⟨p, 0, none⟩), .int .i64 0]) ∧
    PW w' p gc gd gm cc cd n m win tm 0 (fun _ => (0, 0, 0), fun _ => 0, fun _ _ => 0) ∧ Below w.heap.size w w' ∧ w.heap.size ≤ p ∧ w.heap.size ≤ gc ∧ w.heap.size ≤ gd ∧ w.heap.size ≤ gm := by
  have H1 := Aside0.mk (in_calls n 0 100)
  have H2 := Aside0.mk (in_calls m 0 64)
  have H3 := Aside0.mk (in_calls win 1 100)
  have H4 := Aside0.mk (in_calls tm 1 1000000)
  have hh : ((inB n 0 100 = true ∧ inB m 0 64 = true) ∧ inB win 1 100 = true) ∧ inB tm 1 1000000 = true := by simpa [mayB] using h
  obtain ⟨⟨⟨a1, a2⟩, a3⟩, a4⟩ := hh
  rw [a1] at H1
  rw [a2] at H2
  rw [a3] at H3
  rw [a4] at H4
  have b1 : n ≤ 100 := by have := of_decide_eq_true a1; omega
  have b2 : m ≤ 64 := by have := of_decide_eq_true a2; omega
  have HB4 := Aside0.mk (of_decide_eq_true a4)
  clear h a1 a2 a3 a4
  have k1 := make_C n b1
  have k2 := make_I m (by omega)
  have k3 := @run_makeMap Tryd.prog
  go_enter Tryd.func33, Tryd.ntmps33
  go_wp2_with fail
  refine (H1.out _).mono ?_
  rintro e w1 ⟨rfl, hw⟩
  replace hw := hw.symm
  subst hw
  go_wp2_with fail
  refine (H2.out _).mono ?_
  rintro e w1 ⟨rfl, hw⟩
  replace hw := hw.symm
  subst hw
  go_wp2_with fail
  refine (H3.out _).mono ?_
  rintro e w1 ⟨rfl, hw⟩
  replace hw := hw.symm
  subst hw
  go_wp2_with fail
  refine (H4.out _).mono ?_
  rintro e w1 ⟨rfl, hw⟩
  replace hw := hw.symm
  subst hw
  go_upto_region 4 with (fail)
  go_region_with (fail)
  all_goals
    go_wp2
    go_ret2
  · exact ⟨w.heap.size + 1 + 1 + 1, w.heap.size, w.heap.size + 1, w.heap.size + 1 + 1, n, m, by simp [Act.put], new_fin b1 b2 HB4.out (by repeat (first | exact Below.refl _ _ | apply below_drew1 | apply below_alloc)) (by refine al_drew ?_; repeat (first | exact al_new (by simp) | refine al_old ?_)) (by refine al_drew ?_; repeat (first | exact al_new (by simp) | refine al_old ?_)) (by refine al_drew ?_; repeat (first | exact al_new (by simp) | refine al_old ?_)) (by refine al_drew ?_; repeat (first | exact al_new (by simp) | refine al_old ?_)) (by omega) (by omega) (by omega) (by omega) (by omega)⟩
  · exact ⟨w.heap.size + 1 + 1 + 1, w.heap.size, w.heap.size + 1 + 1, w.heap.size + 1, n, m, by simp [Act.put], new_fin b1 b2 HB4.out (by repeat (first | exact Below.refl _ _ | apply below_drew1 | apply below_alloc)) (by refine al_drew ?_; repeat (first | exact al_new (by simp) | refine al_old ?_)) (by refine al_drew ?_; repeat (first | exact al_new (by simp) | refine al_old ?_)) (by refine al_drew ?_; repeat (first | exact al_new (by simp) | refine al_old ?_)) (by refine al_drew ?_; repeat (first | exact al_new (by simp) | refine al_old ?_)) (by omega) (by omega) (by omega) (by omega) (by omega)⟩
  · exact ⟨w.heap.size + 1 + 1 + 1, w.heap.size + 1, w.heap.size, w.heap.size + 1 + 1, n, m, by simp [Act.put], new_fin b1 b2 HB4.out (by repeat (first | exact Below.refl _ _ | apply below_drew1 | apply below_alloc)) (by refine al_drew ?_; repeat (first | exact al_new (by simp) | refine al_old ?_)) (by refine al_drew ?_; repeat (first | exact al_new (by simp) | refine al_old ?_)) (by refine al_drew ?_; repeat (first | exact al_new (by simp) | refine al_old ?_)) (by refine al_drew ?_; repeat (first | exact al_new (by simp) | refine al_old ?_)) (by omega) (by omega) (by omega) (by omega) (by omega)⟩
  · exact ⟨w.heap.size + 1 + 1 + 1, w.heap.size + 1 + 1, w.heap.size, w.heap.size + 1, n, m, by simp [Act.put], new_fin b1 b2 HB4.out (by repeat (first | exact Below.refl _ _ | apply below_drew1 | apply below_alloc)) (by refine al_drew ?_; repeat (first | exact al_new (by simp) | refine al_old ?_)) (by refine al_drew ?_; repeat (first | exact al_new (by simp) | refine al_old ?_)) (by refine al_drew ?_; repeat (first | exact al_new (by simp) | refine al_old ?_)) (by refine al_drew ?_; repeat (first | exact al_new (by simp) | refine al_old ?_)) (by omega) (by omega) (by omega) (by omega) (by omega)⟩
  · exact ⟨w.heap.size + 1 + 1 + 1, w.heap.size + 1, w.heap.size + 1 + 1, w.heap.size, n, m, by simp [Act.put], new_fin b1 b2 HB4.out (by repeat (first | exact Below.refl _ _ | apply below_drew1 | apply below_alloc)) (by refine al_drew ?_; repeat (first | exact al_new (by simp) | refine al_old ?_)) (by refine al_drew ?_; repeat (first | exact al_new (by simp) | refine al_old ?_)) (by refine al_drew ?_; repeat (first | exact al_new (by simp) | refine al_old ?_)) (by refine al_drew ?_; repeat (first | exact al_new (by simp) | refine al_old ?_)) (by omega) (by omega) (by omega) (by omega) (by omega)⟩
  · exact ⟨w.heap.size + 1 + 1 + 1, w.heap.size + 1 + 1, w.heap.size + 1, w.heap.size, n, m, by simp [Act.put], new_fin b1 b2 HB4.out (by repeat (first | exact Below.refl _ _ | apply below_drew1 | apply below_alloc)) (by refine al_drew ?_; repeat (first | exact al_new (by simp) | refine al_old ?_)) (by refine al_drew ?_; repeat (first | exact al_new (by simp) | refine al_old ?_)) (by refine al_drew ?_; repeat (first | exact al_new (by simp) | refine al_old ?_)) (by refine al_drew ?_; repeat (first | exact al_new (by simp) | refine al_old ?_)) (by omega) (by omega) (by omega) (by omega) (by omega)⟩
end Go.Proofs.YtoiblfmlahedlaaDoor.As
end
section
namespace Go.Proofs.YtoiblfmlahedlaaDoor.As
open Go.RowKit Go.Proofs.YtoiblfmlahedlaaDoorW.PrintWords Go.Proofs.YtoiblfmlahedlaaDoorW.PrintLast Go.Proofs.YtoiblfmlahedlaaDoorW.PrintMore
set_option linter.unusedVariables false
set_option linter.unusedSimpArgs false
set_option maxRecDepth 100000
def isIn (n : Nat) (i : Int) : Prop := 0 ≤ i ∧ i < n
instance (n : Nat) (i : Int) : Decidable (isIn n i) := by unfold isIn; infer_instance
def hadR (n : Nat) (s : St) (i : Int) : Int := if isIn n i then (if (s.1 i.toNat).1 = 2 then 7 else 0) else 6
def hadS (n : Nat) (s : St) (i : Int) : St := if isIn n i ∧ (s.1 i.toNat).1 ≠ 2 then (upd s.1 i.toNat (2, 0, 0), s.2.1, s.2.2) else s
def badR (n m : Nat) (s : St) (i k : Int) : Int := if isIn n i ∧ isIn m k then (if (s.1 i.toNat).1 = 1 ∧ (s.1 i.toNat).2.1 = k then 0 else 2) else 6
def badS (n m : Nat) (s : St) (i k : Int) : St := if (isIn n i ∧ isIn m k) ∧ (s.1 i.toNat).1 = 1 ∧ (s.1 i.toNat).2.1 = k then (upd s.1 i.toNat (0, 0, 0), updD s.2.1 k.toNat (s.2.1 k.toNat + 1), s.2.2) else s
theorem Good.put {n m : Nat} {S : Nat → U} {D : Nat → Int} {B : Int} (h : Good n m S D B) (i : Nat) (x : U) (hx : x.1 ≠ 1) : Good n m (upd S i x) D B := by
  refine ⟨fun j hj hs => ?_, h.2⟩
  by_cases e : j = i
  · subst e
    rw [upd_same] at hs
    exact absurd hs hx
  · rw [upd_other _ _ _ _ e] at hs ⊢
    exact h.1 j hj hs
theorem Good.putD {n m : Nat} {S : Nat → U} {D : Nat → Int} {B : Int} (h : Good n m S D B) (k : Nat) : Good n m S (updD D k (D k + 1)) (B + 1) := by
  refine ⟨h.1, fun j => ?_⟩
  have h1 := h.2 j
  have h2 := h.2 k
  unfold updD
  split <;> omega
theorem PW.same {w : World} {p gc gd gm cc cd n m c : Nat} {win tm : Int} {s : St} (h : PW w p gc gd gm cc cd n m win tm c s) : PW w p gc gd gm cc cd n m win tm (c + 1) s := by
  obtain ⟨S, D, T⟩ := s
  exact h.next h.pl h.mp h.good (by omega) (by omega) (fun i k => by have := h.tb i k; show 0 ≤ T i k ∧ T i k ≤ _; simp only [] at this; omega)
theorem PW.below {w w' : World} {p gc gd gm cc cd n m c : Nat} {win tm : Int} {s : St} (h : PW w p gc gd gm cc cd n m win tm c s) (hb : Below w.heap.size w w') : PW w' p gc gd gm cc cd n m win tm c s :=
  ⟨h.pl.below hb, h.mp.below hb, h.good, h.tb, h.t1, h.t2⟩
theorem had_calls {p gc gd gm cc cd n m c : Nat} {win tm : Int} {s : St} (i : Int) (w : World) (h : PW w p gc gd gm cc cd n m win tm c s) :
    Calls Tryd.prog 43 #[.pointer (some ⟨p, 0, none⟩), .int .i64 i] w fun e w' => e = .returned (.int .i64 (hadR n s i)) ∧ PW w' p gc gd gm cc cd n m win tm (c + 1) (hadS n s i) ∧ Chg gc gd gm w w' := by
  obtain ⟨S, D, T⟩ := s
  by_cases hi : isIn n i
  · obtain ⟨j, rfl⟩ := Int.eq_ofNat_of_zero_le hi.1
    have hj : j < n := by have := hi.2; omega
    by_cases hs : (S j).1 = 2
    · refine (had_twice j hj w h.pl hs).mono ?_
      rintro e w' ⟨rfl, hw⟩
      subst hw
      have e1 : hadR n (S, D, T) (j : Int) = 7 := by unfold hadR; rw [if_pos hi]; exact if_pos hs
      have e2 : hadS n (S, D, T) (j : Int) = (S, D, T) := by unfold hadS; exact if_neg (fun h => h.2 hs)
      rw [e1, e2]
      exact ⟨rfl, h.same, Chg.of_below (Below.refl _ _)⟩
    · refine (had_ok j hj w h.pl hs).mono ?_
      rintro e w' ⟨rfl, hw⟩
      subst hw
      have e1 : hadR n (S, D, T) (j : Int) = 0 := by unfold hadR; rw [if_pos hi]; exact if_neg hs
      have e2 : hadS n (S, D, T) (j : Int) = (upd S j (2, 0, 0), D, T) := by unfold hadS; exact if_pos ⟨hi, hs⟩
      rw [e1, e2]
      have hch := put3_chg w gc j (2, 0, 0) gd gd
      exact ⟨rfl, h.next (h.pl.put j hj (2, 0, 0)) (h.mp.chg hch h.pl.e5 h.pl.e6) (h.good.put j (2, 0, 0) (by decide)) (by omega) (by omega) (fun i k => by have := h.tb i k; simp only [] at this; omega), put3_chg w gc j (2, 0, 0) gd gm⟩
  · refine (had_none i w h.pl hi).mono ?_
    rintro e w' ⟨rfl, hw⟩
    subst hw
    have e1 : hadR n (S, D, T) i = 6 := by unfold hadR; exact if_neg hi
    have e2 : hadS n (S, D, T) i = (S, D, T) := by unfold hadS; exact if_neg (fun h => hi h.1)
    rw [e1, e2]
    exact ⟨rfl, h.same, Chg.of_below (Below.refl _ _)⟩
theorem bad_calls {p gc gd gm cc cd n m c : Nat} {win tm : Int} {s : St} (i k : Int) (w : World) (h : PW w p gc gd gm cc cd n m win tm c s) (hc : c ≤ 4000000) :
    Calls Tryd.prog 41 #[.pointer (some ⟨p, 0, none⟩), .int .i64 i, .int .i64 k] w fun e w' => e = .returned (.int .i64 (badR n m s i k)) ∧ PW w' p gc gd gm cc cd n m win tm (c + 1) (badS n m s i k) ∧ Chg gc gd gm w w' := by
  obtain ⟨S, D, T⟩ := s
  by_cases hi : isIn n i ∧ isIn m k
  · obtain ⟨j, rfl⟩ := Int.eq_ofNat_of_zero_le hi.1.1
    obtain ⟨q, rfl⟩ := Int.eq_ofNat_of_zero_le hi.2.1
    have hj : j < n := by have := hi.1.2; omega
    have hq : q < m := by have := hi.2.2; omega
    by_cases hs : (S j).1 = 1 ∧ (S j).2.1 = (q : Int)
    · have hd := h.good.2 q
      simp only [] at hd
      refine (bad_ok j q hj hq w h.pl hs.1 hs.2 ⟨hd.1, by show D q < _; omega⟩).mono ?_
      rintro e w' ⟨rfl, hw⟩
      subst hw
      have e1 : badR n m (S, D, T) (j : Int) (q : Int) = 0 := by unfold badR; rw [if_pos hi]; exact if_pos hs
      have e2 : badS n m (S, D, T) (j : Int) (q : Int) = (upd S j (0, 0, 0), updD D q (D q + 1), T) := by unfold badS; exact if_pos ⟨hi, hs⟩
      rw [e1, e2]
      have hch : Chg gc gd gd w ((put3 w gc j (0, 0, 0)).setCell ⟨gd, q, none⟩ (.int .i64 (D q + 1))) := (put3_chg w gc j (0, 0, 0) gd gd).trans (Chg.of_set gd q _ _ (Or.inr (Or.inl rfl)))
      exact ⟨rfl, h.next ((h.pl.put j hj (0, 0, 0)).putD q hq (D q + 1)) (h.mp.chg hch h.pl.e5 h.pl.e6) ((h.good.put j (0, 0, 0) (by decide)).putD q) (by have := h.pl.n1; omega) (by omega) (fun i k => by have := h.tb i k; simp only [] at this; omega), hch.wide⟩
    · refine (bad_arg j q hj hq w h.pl hs).mono ?_
      rintro e w' ⟨rfl, hw⟩
      subst hw
      have e1 : badR n m (S, D, T) (j : Int) (q : Int) = 2 := by unfold badR; rw [if_pos hi]; exact if_neg hs
      have e2 : badS n m (S, D, T) (j : Int) (q : Int) = (S, D, T) := by unfold badS; exact if_neg (fun h => hs h.2)
      rw [e1, e2]
      exact ⟨rfl, h.same, Chg.of_below (Below.refl _ _)⟩
  · refine (bad_none i k w h.pl hi).mono ?_
    rintro e w' ⟨rfl, hw⟩
    subst hw
    have e1 : badR n m (S, D, T) i k = 6 := by unfold badR; exact if_neg hi
    have e2 : badS n m (S, D, T) i k = (S, D, T) := by unfold badS; exact if_neg (fun h => hi h.1)
    rw [e1, e2]
    exact ⟨rfl, h.same, Chg.of_below (Below.refl _ _)⟩
def stuckB (n m : Nat) (s : St) : Bool := decide (leftF s.1 n ≠ 0) && !hasD s.2.1 m
theorem stuckB_calls {p gc gd gm cc cd n m : Nat} {win tm : Int} {S : Nat → U} {D : Nat → Int} (T : Nat → Nat → Int) (w : World) (h : Pl w p gc gd gm cc cd n m win tm S D) :
    Calls Tryd.prog 48 #[.pointer (some ⟨p, 0, none⟩)] w fun e w' => e = .returned (.bool (stuckB n m (S, D, T))) ∧ Below w.heap.size w w' := by
  by_cases hl : leftF S n = 0
  · rw [show stuckB n m (S, D, T) = false by simp [stuckB, hl]]
    exact stuck_zero w h hl
  · rw [show stuckB n m (S, D, T) = !hasD D m by simp [stuckB, hl]]
    exact stuck_calls w h hl
end Go.Proofs.YtoiblfmlahedlaaDoor.As
end
section
namespace Go.Proofs.YtoiblfmlahedlaaDoor.As
open Go.RowKit Go.Proofs.YtoiblfmlahedlaaDoorW.PrintWords Go.Proofs.YtoiblfmlahedlaaDoorW.PrintLast Go.Proofs.YtoiblfmlahedlaaDoorW.PrintMore
set_option linter.unusedVariables false
set_option linter.unusedSimpArgs false
set_option maxRecDepth 100000
def ks0 : St := (fun _ => (0, 0, 0), fun _ => 0, fun _ _ => 0)
def ks1 : St := (nextF 0 1 5 2 2 ks0).2
def ks2 : St := (nextF 0 1 5 2 2 ks1).2
theorem kn1 : (nextF 0 1 5 2 2 ks0).1 = (0, 0, true) := by kernel_rfl
theorem kn2 : (nextF 0 1 5 2 2 ks1).1 = (1, 1, true) := by kernel_rfl
theorem kn3 : (nextF 0 1 5 2 2 ks2).1 = (0, 0, false) := by kernel_rfl
theorem next_at {p gc gd gm cc cd n m c : Nat} {win tm : Int} {s s' : St} {r : Int × Int × Bool} (now : Int) (w : World) (h : PW w p gc gd gm cc cd n m win tm c s) (hc : c ≤ 4000000) (hnow : -9223372036854775808 ≤ now ∧ now ≤ 9223372036854775807) (hr : (nextF now win tm n m s).1 = r) (hs : (nextF now win tm n m s).2 = s') :
    Calls Tryd.prog 35 #[.pointer (some ⟨p, 0, none⟩), .int .i64 now] w fun e w' => e = .returned (.tuple #[.int .i64 r.1, .int .i64 r.2.1, .bool r.2.2]) ∧
      PW w' p gc gd gm cc cd n m win tm (c + 1) s' ∧ Chg gc gd gm w w' := by
  subst hr
  subst hs
  exact next_calls now w h hc hnow
theorem had_at {p gc gd gm cc cd n m c : Nat} {win tm : Int} {s s' : St} {r : Int} (i : Int) (w : World) (h : PW w p gc gd gm cc cd n m win tm c s) (hr : hadR n s i = r) (hs : hadS n s i = s') :
    Calls Tryd.prog 43 #[.pointer (some ⟨p, 0, none⟩), .int .i64 i] w fun e w' => e = .returned (.int .i64 r) ∧ PW w' p gc gd gm cc cd n m win tm (c + 1) s' ∧ Chg gc gd gm w w' := by
  subst hr
  subst hs
  exact had_calls i w h
theorem bad_at {p gc gd gm cc cd n m c : Nat} {win tm : Int} {s s' : St} {r : Int} (i k : Int) (w : World) (h : PW w p gc gd gm cc cd n m win tm c s) (hc : c ≤ 4000000) (hr : badR n m s i k = r) (hs : badS n m s i k = s') :
    Calls Tryd.prog 41 #[.pointer (some ⟨p, 0, none⟩), .int .i64 i, .int .i64 k] w fun e w' => e = .returned (.int .i64 r) ∧ PW w' p gc gd gm cc cd n m win tm (c + 1) s' ∧ Chg gc gd gm w w' := by
  subst hr
  subst hs
  exact bad_calls i k w h hc
theorem mul_bd {a b x y : Int} (h1 : 0 ≤ a) (h2 : a ≤ x) (h3 : 0 ≤ b) (h4 : b ≤ y) : 0 ≤ a * b ∧ a * b ≤ x * y :=
  ⟨Int.mul_nonneg h1 h3, Int.mul_le_mul h2 h4 h3 (by omega)⟩
theorem new_at (n m : Nat) (win tm : Int) (w : World) (h : mayB n m win tm = true) : Calls Tryd.prog 33 #[.int .i64 (n : Int), .int .i64 (m : Int), .int .i64 win, .int .i64 tm] w fun e w' => ∃ p gc gd gm cc cd, e = .returned (.tuple #[.pointer (some ⟨p, 0, none⟩), .int .i64 0]) ∧
    PW w' p gc gd gm cc cd n m win tm 0 ks0 ∧ Below w.heap.size w w' ∧ w.heap.size ≤ p ∧ w.heap.size ≤ gc ∧ w.heap.size ≤ gd ∧ w.heap.size ≤ gm := new_yes n m win tm w h
end Go.Proofs.YtoiblfmlahedlaaDoor.As
end
