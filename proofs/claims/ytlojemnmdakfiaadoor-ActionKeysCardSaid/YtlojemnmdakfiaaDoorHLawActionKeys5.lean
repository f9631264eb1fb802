/- What calls of Go functions of this seat come to, as the rows need it: under the conditions that each theorem names. -/
import Derived.Test.YtlojemnmdakfiaaDoorHLawActionKeys4
import Derived.Laws.Cover1
import Derived.Deep.QuietTactic
import Derived.BigQuiet
section
namespace Go.Proofs.YtlojemnmdakfiaaDoor.Ac
open Go.RowKit Go.Proofs.YtlojemnmdakfiaaDoorW.PrintWords Go.Proofs.YtlojemnmdakfiaaDoorW.PrintLast Go.Proofs.YtlojemnmdakfiaaDoorW.PrintMore
set_option linter.unusedVariables false
set_option linter.unusedSimpArgs false
open Go.Proofs.YtlojemnmdakfiaaDoor.Prog6 (Ins KP mayP szOk progB)
open Go.Proofs.YtlojemnmdakfiaaDoor.Tr
open Go.Proofs.YtlojemnmdakfiaaDoor.Hand
theorem BoxA.fz {w : World} {b : Nat} {A : Option Addr} {n c : Nat} {A2 : Option Addr} {n2 c2 : Nat} {f : Int} (h : BoxA w b A n c A2 n2 c2 f) (j : Nat) : w.frozen? ⟨b, j, none⟩ = false := by
  simp [World.frozen?, show w.heap[b]? = _ from h]
theorem BoxA.set2 {w : World} {b : Nat} {A : Option Addr} {n c : Nat} {A2 : Option Addr} {n2 c2 : Nat} {f : Int} (h : BoxA w b A n c A2 n2 c2 f) (f' : Int) : BoxA (w.setCell ⟨b, 2, none⟩ (.int .i64 f')) b A n c A2 n2 c2 f' := by
  have h0 : w.heap[b]? = _ := h
  have hlt := (Array.getElem?_eq_some_iff.1 h0).1
  have h' := (Array.getElem?_eq_some_iff.1 h0).2
  show (w.heap.modify b _)[b]? = _
  rw [Array.getElem?_eq_getElem (by simpa using hlt), Array.getElem_modify_self, h']
  rfl
theorem BoxA.set0 {w : World} {b : Nat} {A : Option Addr} {n c : Nat} {A2 : Option Addr} {n2 c2 : Nat} {f : Int} (h : BoxA w b A n c A2 n2 c2 f) (A' : Option Addr) (n' c' : Nat) : BoxA (w.setCell ⟨b, 0, none⟩ (.slice A' n' c')) b A' n' c' A2 n2 c2 f := by
  have h0 : w.heap[b]? = _ := h
  have hlt := (Array.getElem?_eq_some_iff.1 h0).1
  have h' := (Array.getElem?_eq_some_iff.1 h0).2
  show (w.heap.modify b _)[b]? = _
  rw [Array.getElem?_eq_getElem (by simpa using hlt), Array.getElem_modify_self, h']
  rfl
theorem abytes_calls (A : Option Addr) (c : Nat) (p : List Ins) (A2 : Option Addr) (c2 : Nat) (t : List Fl) (f : Int) (w : World) (h : Arg w A c p A2 c2 t) :
    Calls Tryd.prog 9 #[.agg (cA A p.length c A2 t.length c2 f)] w fun e w' => ∃ A3 n c3 er, e = .returned (.tuple #[.slice A3 n c3, .int .i64 er]) ∧ (mayA p t f = false → er = 2) ∧ (mayA p t f = true → er = 0 ∧ 0 ≤ f ∧ f ≤ 20000 ∧ n = (actB p t f.toNat).length ∧ n ≤ c3 ∧ B.C w' A3 n (actB p t f.toNat)) ∧ Below w.heap.size w w' := by
  rcases hm : mayA p t f with _ | _
  · refine (abytes_no A c p A2 c2 t f w h hm).mono ?_
    rintro e w' ⟨rfl, hb⟩
    exact ⟨none, 0, 0, 2, rfl, fun _ => rfl, (fun h => by cases h), hb⟩
  · have hm' := hm
    unfold mayA at hm'
    simp only [Bool.and_eq_true, decide_eq_true_eq] at hm'
    obtain ⟨n, rfl⟩ := Int.eq_ofNat_of_zero_le hm'.1.2
    refine (abytes_yes A c p A2 c2 t n w h hm).mono ?_
    rintro e w' ⟨v, rfl, ho, hb⟩
    obtain ⟨A3, c3, rfl, hc3, hr3⟩ := Kd.R_reads ho
    exact ⟨A3, _, c3, 0, rfl, (fun h => by cases h), fun _ => ⟨rfl, by omega, hm'.2, by rw [Int.toNat_natCast], hc3, by rw [Int.toNat_natCast]; exact hr3⟩, hb⟩
def parts_T12 : Bool × List (List Nat × List Nat) := (true, [([], []), ([0], [0]), ([1], [1]), ([2], [2]), ([3, 2], [2, 3]), ([2], [2]), ([5, 2], [2, 5]), ([4, 6, 2], [2, 4, 6]), ([2], [2]), ([8, 2], [2, 8]), ([2], [2]), ([9, 10, 2, 2], [2, 9, 10]), ([7, 11, 2], [2, 7, 11]), ([2, 12], [2, 12]), ([13, 11], [13]), ([14, 14], [14]), ([14, 15], [14, 15]), ([16, 15, 0, 1, 2, 3, 4, 5, 6, 7, 8, 9, 10, 11, 12, 13, 14, 15, 16], [16])])
def parts_B12 : List Nat := [0, 1, 3, 7, 15, 7, 39, 127, 7, 263, 7, 1799, 4095, 8191, 16383, 32767, 65535, 131071]
theorem parts_tab12 : rtab .any (opsOf Tryd.f5 12) = parts_T12 := by kernel_rfl
theorem parts_bits12 : waitsOk parts_T12.2 parts_B12 = true := by kernel_rfl
def parts_T4 : Bool × List (List Nat × List Nat) := (true, [([], []), ([], []), ([], []), ([], []), ([2, 0, 0, 2, 3], [0, 2]), ([3, 1, 4, 0, 1, 2, 3, 4], [1, 3])])
def parts_B4 : List Nat := [0, 0, 0, 0, 13, 31]
theorem parts_tab4 : rtab .any (opsOf Tryd.f5 4) = parts_T4 := by kernel_rfl
theorem parts_bits4 : waitsOk parts_T4.2 parts_B4 = true := by kernel_rfl
theorem infoAc {A : Option Addr} {n c : Nat} {A2 : Option Addr} {n2 c2 : Nat} {f : Int} : (Tryd.prog.info? 26).map (·.size) = some (cA A n c A2 n2 c2 f).size := by kernel_rfl
theorem oneAc {A : Option Addr} {n c : Nat} {A2 : Option Addr} {n2 c2 : Nat} {f : Int} : (cA A n c A2 n2 c2 f).all (·.oneCell') = true := by simp [cA, Value.oneCell']
set_option maxHeartbeats 6400000 in
set_option maxRecDepth 100000 in
theorem parts_calls (A : Option Addr) (c : Nat) (p : List Ins) (A2 : Option Addr) (c2 : Nat) (t : List Fl) (f fuel : Int) (A3 : Option Addr) (c3 : Nat) (q : List Ins) (w : World) (h : Arg w A c p A2 c2 t) (hq : KP.C w A3 q.length q) (hqc : q.length ≤ c3) (hqs : ∀ x ∈ q, szOk x) :
    Calls Tryd.prog 5 #[.agg (cA A p.length c A2 t.length c2 f), .int .i64 fuel, .slice A3 q.length c3] w fun e w' => e = .returned (.bool true) ∧ Below w.heap.size w w' := by
  have HA := Aside0.mk h
  have HQ := Aside0.mk hq
  have HQS := Aside0.mk hqs
  have hq63 : q.length ≤ 9223372036854775807 := hq.2.1
  clear h hq hqs
  obtain ⟨g, hg⟩ : ∃ g, w.heap.size = g := ⟨_, rfl⟩
  obtain ⟨w1, hw1, hw1h⟩ : ∃ w1, w.alloc (.cells (cA A p.length c A2 t.length c2 f) 26) = w1 ∧ w1.heap[w.heap.size]? = some (.cells (cA A p.length c A2 t.length c2 f) 26 (0, 0)) := ⟨_, rfl, Sha.heap_new _ _⟩
  have hbb : Below w.heap.size w w1 := by rw [← hw1]; exact (Below.refl _ _).alloc (Nat.le_refl _) _
  rw [hg] at hw1h
  have HX := Aside0.mk (show BoxA w1 g A p.length c A2 t.length c2 f from hw1h)
  have HB1 := Aside0.mk hbb
  have HA1 := Aside0.mk (HA.out.below hbb)
  obtain ⟨o0, o1, o2⟩ := HX.out.cu
  have HW := Aside0.mk hw1
  have HG := Aside0.mk hg
  clear hw1 hw1h hbb hg
  go_enter Tryd.func5, Tryd.ntmps5
  go_upto_region 1 with (fail)
  rw [HW.out, HG.out]
  go_wp2_with fail
  refine (agreat_calls A c p A2 c2 t f _ HA1.out).mono ?_
  rintro e w2 ⟨b, rfl, hbp, hb⟩
  have HP := Aside0.mk hbp
  have HB2 := Aside0.mk (below_step HB1.out hb)
  have HA2 := Aside0.mk (HA1.out.below hb)
  replace HX := Aside0.mk (HX.out.below hb)
  clear hb hbp o0 o1 o2
  obtain ⟨o0, o1, o2⟩ := HX.out.cu
  rcases b with _ | _
  rotate_left
  · go_wp2_with fail
    refine (known_calls _ HA2.out.t6 HA2.out.ts).mono ?_
    rintro e w3 ⟨rfl, hb⟩
    have HB3 := Aside0.mk (below_step HB2.out hb)
    clear hb
    go_wp2
    go_ret
    exact ⟨rfl, HB3.out⟩
  by_cases hl : q.length ≤ 100
  rotate_left
  · have e1 : decide ((q.length : Int) > 100) = true := decide_eq_true (by omega)
    have e2 : decide (q.length > 100) = true := decide_eq_true (by omega)
    go_wp2_with fail
    refine (known_calls _ HA2.out.t6 HA2.out.ts).mono ?_
    rintro e w3 ⟨rfl, hb⟩
    have HB3 := Aside0.mk (below_step HB2.out hb)
    clear hb
    go_wp2
    go_ret
    exact ⟨rfl, HB3.out⟩
  have e1 : decide ((q.length : Int) > 100) = false := decide_eq_false (by omega)
  have e2 : decide (q.length > 100) = false := decide_eq_false (by omega)
  go_upto_region 3 with (fail)
  clear e1 e2
  go_wp2_with fail
  refine (abytes_calls A c p A2 c2 t f _ HA2.out).mono ?_
  rintro e w3 ⟨X1, n1, k1, r1, rfl, hno, hyes, hb⟩
  have HN1 := Aside0.mk hno
  have HY1 := Aside0.mk hyes
  have HB3 := Aside0.mk (below_step HB2.out hb)
  have HA3 := Aside0.mk (HA2.out.below hb)
  replace HX := Aside0.mk (HX.out.below hb)
  clear hb hno hyes o0 o1 o2 HA2 HB2
  obtain ⟨o0, o1, o2⟩ := HX.out.cu
  go_upto_region 4 with (fail)
  have hS0 : Below w3.heap.size w3 w3.drew := below_drew1 (Below.refl _ _)
  refine start_ (n := 6) (S := fun w' => Below w3.heap.size w3 w') (ds := []) #[false, false, false, false, false, false] (by kernel_rfl) rfl rfl (by exact hS0) (fun hHeld => ?_)
  refine with_tabW parts_tab4 parts_bits4 (fun HT_ HW_ => ?_)
  generalize w3.drew = wq at hHeld hS0 ⊢
  refine take_ (i := 0) (N := some 28) (v := ?_) (a' := ?_) #[true, false, false, false, false, false] rfl rfl (take_ofW HT_.out HW_.out (by kernel_rfl)) (fun _ _ _ h => h) (Or.inl ⟨by rfl, ?_⟩) hHeld ?_ ?_
  rotate_left
  · intro w' hSt
    have hxa := HX.out.below hSt
    obtain ⟨o0, o1, o2⟩ := hxa.cu
    go_simp
    with_reducible rfl
  rotate_left
  · simp only [Act.put, List.setIfInBounds_toArray, List.set_cons_zero, List.set_cons_succ, i64_w, i32_w]
    rfl
  refine take_ (i := 1) (N := some 29) (v := ?_) (a' := ?_) #[true, true, false, false, false, false] rfl rfl (take_ofW HT_.out HW_.out (by kernel_rfl)) (fun _ _ _ h => h) (Or.inl ⟨by rfl, ?_⟩) hHeld ?_ ?_
  rotate_left
  · intro w' hSt
    have hxa := HX.out.below hSt
    obtain ⟨o0, o1, o2⟩ := hxa.cu
    go_simp
    with_reducible rfl
  rotate_left
  · simp only [Act.put, List.setIfInBounds_toArray, List.set_cons_zero, List.set_cons_succ, i64_w, i32_w]
    rfl
  have hsz0 := hHeld.size
  refine Reg.allocs2_ (i := 2) (j := 3) (m := 9) (n := 10) #[true, true, true, false, false, false] #[true, true, false, true, false, false] #[true, true, true, true, false, false] (.cells #[.slice none 0 0, .slice none 0 0, .int .i64 0] 26) (.cells #[.slice none 0 0, .slice none 0 0, .int .i64 0] 26) rfl rfl rfl rfl rfl rfl (fun a w => by go_simp) (fun a w => by go_simp) (two_of HT_.out (by kernel_rfl)) (one_of HT_.out (by kernel_rfl)) (one_of HT_.out (by kernel_rfl)) (by decide) (by decide) (by decide) (fun w o h => h.alloc (by have := h.size; omega) _) hHeld ?_
  intro gb gc w5 hne hlb hlc hgb hgc hb5 hHeld
  refine norm_ (a' := ?_) ?_ ?_
  rotate_left
  · first
    | (simp only [Act.put, List.setIfInBounds_toArray, List.set_cons_zero, List.set_cons_succ, i64_w, i32_w]; rfl)
    | rfl
  have HN5 := Aside0.mk hne
  have HGB := Aside0.mk hgb
  have HGC := Aside0.mk hgc
  have HLB := Aside0.mk (Nat.le_trans hsz0 hlb)
  have HLC := Aside0.mk (Nat.le_trans hsz0 hlc)
  clear hne hlb hlc hgb hgc hb5
  refine one_ (i := 4) (N := none) #[true, true, true, true, true, false] rfl rfl (one_of HT_.out (by kernel_rfl)) (by decide) (fun K hK => ?_)
  refine Sha.storeRow_step (by rfl) 26 (.tmp 9) (.tmp 28) rfl gb (cA A p.length c A2 t.length c2 f) rfl rfl 26 _ HGB.out infoAc rfl oneAc ?_
  obtain ⟨wa, hwa⟩ : ∃ wa, w5.setRow gb (cA A p.length c A2 t.length c2 f) = wa := ⟨_, rfl⟩
  have HGB2 := Aside0.mk (show BoxA wa gb A p.length c A2 t.length c2 f by rw [← hwa]; exact setRow_heap _ _ _ _ _ _ HGB.out)
  have HGC2 := Aside0.mk (show wa.heap[gc]? = some (.cells #[.slice none 0 0, .slice none 0 0, .int .i64 0] 26 (0, 0)) by rw [← hwa, setRow_other _ _ _ _ HN5.out.symm]; exact HGC.out)
  have hS1 : Below w3.heap.size w3 wa := by rw [← hwa]; exact below_setRow hHeld HLB.out _
  rw [hwa]
  clear hwa
  refine hK.out _ _ (by exact hS1) (fun hHeld => ?_)
  clear hK K
  refine norm_ (a' := ?_) ?_ ?_
  rotate_left
  · first
    | (show Act.put _ none _ = _; simp only [Act.put, List.setIfInBounds_toArray, List.set_cons_zero, List.set_cons_succ, i64_w, i32_w]; rfl)
    | rfl
  refine one_ (i := 5) (N := none) #[true, true, true, true, true, true] rfl rfl (one_of HT_.out (by kernel_rfl)) (by decide) (fun K hK => ?_)
  refine Sha.storeRow_step (by rfl) 26 (.tmp 10) (.tmp 29) rfl gc (cA A p.length c A2 t.length c2 f) rfl rfl 26 _ HGC2.out infoAc rfl oneAc ?_
  obtain ⟨wb, hwb⟩ : ∃ wb, wa.setRow gc (cA A p.length c A2 t.length c2 f) = wb := ⟨_, rfl⟩
  have HGC3 := Aside0.mk (show BoxA wb gc A p.length c A2 t.length c2 f by rw [← hwb]; exact setRow_heap _ _ _ _ _ _ HGC2.out)
  have HGB3 := Aside0.mk (show BoxA wb gb A p.length c A2 t.length c2 f by rw [← hwb]; exact (setRow_other _ _ _ _ HN5.out).trans HGB2.out)
  have hS1 : Below w3.heap.size w3 wb := by rw [← hwb]; exact below_setRow hHeld HLC.out _
  rw [hwb]
  clear hwb
  refine hK.out _ _ (by exact hS1) (fun hHeld => ?_)
  clear hK K
  refine norm_ (a' := ?_) ?_ ?_
  rotate_left
  · first
    | (show Act.put _ none _ = _; simp only [Act.put, List.setIfInBounds_toArray, List.set_cons_zero, List.set_cons_succ, i64_w, i32_w]; rfl)
    | rfl
  refine done_ (done_of HT_.out (by kernel_rfl)) ?_
  have HLB5 := Aside0.mk (Nat.le_trans HB3.out.size HLB.out)
  have HLC5 := Aside0.mk (Nat.le_trans HB3.out.size HLC.out)
  have HH5 := Aside0.mk hHeld
  clear hS0 hHeld HT_ HW_ o0 o1 o2 HGB HGC HGB2 HGC2
  obtain ⟨y0, y1, y2⟩ := HGB3.out.cu
  obtain ⟨z0, z1, z2⟩ := HGC3.out.cu
  have fy := HGB3.out.fz 2
  have fz := HGC3.out.fz 0
  go_upto_region 5 with (fail)
  go_upto_region 6 with (fail)
  obtain ⟨w6, hw6⟩ : ∃ w6, (wb.setCell ⟨gb, 2, none⟩ (.int .i64 fuel)).setCell ⟨gc, 0, none⟩ (.slice A3 q.length c3) = w6 := ⟨_, rfl⟩
  rw [hw6]
  have hh6 : Below w3.heap.size w3 w6 := by rw [← hw6]; exact (HH5.out.setCell (p := ⟨gb, 2, none⟩) HLB.out _).setCell (p := ⟨gc, 0, none⟩) HLC.out _
  have HY6 := Aside0.mk (show BoxA w6 gb A p.length c A2 t.length c2 fuel by rw [← hw6]; exact (Below.heap_setCell _ ⟨gc, 0, none⟩ _ gb HN5.out).trans (HGB3.out.set2 fuel))
  have HZ6 := Aside0.mk (show BoxA w6 gc A3 q.length c3 A2 t.length c2 f by
    rw [← hw6]
    exact BoxA.set0 (w := wb.setCell ⟨gb, 2, none⟩ (.int .i64 fuel)) ((Below.heap_setCell _ ⟨gb, 2, none⟩ _ gc HN5.out.symm).trans HGC3.out) A3 q.length c3)
  have HB6 := Aside0.mk (below_step HB3.out hh6)
  have HA6 := Aside0.mk (HA3.out.below hh6)
  have HQ6 := Aside0.mk (Kd.C_below HQ.out HB6.out)
  have HX6 := Aside0.mk (HX.out.below hh6)
  have HC6 := Aside0.mk (fun h => Kd.C_below (HY1.out h).2.2.2.2.2 hh6)
  clear hw6 hh6 HGB3 HGC3 HH5 fy fz y0 y1 y2 z0 z1 z2 HA3 HX HLB HLC HB3
  obtain ⟨y0, y1, y2⟩ := HY6.out.cu
  go_wp2_with fail
  refine (abytes_calls A c p A2 c2 t fuel _ HA6.out).mono ?_
  rintro e w7 ⟨X2, n2, k2, r2, rfl, hno, hyes, hb⟩
  have HN2 := Aside0.mk hno
  have HY2 := Aside0.mk hyes
  have HB7 := Aside0.mk (below_step HB6.out hb)
  have HA7 := Aside0.mk (HA6.out.below hb)
  have HQ7 := Aside0.mk (Kd.C_below HQ6.out hb)
  have HX7 := Aside0.mk (HX6.out.below hb)
  have HZ7 := Aside0.mk (HZ6.out.below hb)
  have HC7 := Aside0.mk (fun h => Kd.C_below (HC6.out h) hb)
  clear hb hno hyes y0 y1 y2 HA6 HQ6 HX6 HZ6 HC6 HB6 HY6
  obtain ⟨z0, z1, z2⟩ := HZ7.out.cu
  go_wp2_with fail
  have HR7 := Aside0.mk (show Arg w7 A3 c3 q A2 c2 t from ⟨HQ7.out, hqc, HQS.out, HA7.out.ht, HA7.out.lt, HA7.out.st, HA7.out.bt, HA7.out.t6, HA7.out.ts⟩)
  refine (abytes_calls A3 c3 q A2 c2 t f _ HR7.out).mono ?_
  rintro e w8 ⟨X3, n3, k3, r3, rfl, hno, hyes, hb⟩
  have HN3 := Aside0.mk hno
  have HY3 := Aside0.mk hyes
  have HB8 := Aside0.mk (below_step HB7.out hb)
  have HA8 := Aside0.mk (HA7.out.below hb)
  have HQ8 := Aside0.mk (Kd.C_below HQ7.out hb)
  have HX8 := Aside0.mk (HX7.out.below hb)
  have HC8 := Aside0.mk (fun h => Kd.C_below (HC7.out h) hb)
  have HD8 := Aside0.mk (fun h => Kd.C_below (HY2.out h).2.2.2.2.2 hb)
  clear hb hno hyes z0 z1 z2 HA7 HQ7 HX7 HZ7 HC7 HB7 HR7
  rcases hm : mayA p t f with _ | _
  · obtain rfl := HN1.out hm
    go_wp2_with fail
    refine (known_calls _ HA8.out.t6 HA8.out.ts).mono ?_
    rintro e w9 ⟨rfl, hb⟩
    have HB9 := Aside0.mk (below_step HB8.out hb)
    clear hb
    go_wp2
    go_ret
    exact ⟨rfl, HB9.out⟩
  obtain ⟨rfl, hf0, hf1, hn1, hk1, _⟩ := HY1.out hm
  have HC1 := Aside0.mk (HC8.out hm)
  have HMF := Aside0.mk hm
  have hmp : mayP p = true := by unfold mayA at hm; simp only [Bool.and_eq_true] at hm; exact hm.1.1.1
  clear HC8 HY1 HN1 hm
  obtain ⟨F, rfl⟩ := Int.eq_ofNat_of_zero_le hf0
  rw [Int.toNat_natCast] at HC1 hn1
  have HB1 := Aside0.mk (actB_bytes hmp t F (by omega))
  obtain ⟨x, hx⟩ : ∃ x, actB p t F = x := ⟨_, rfl⟩
  have HSX := Aside0.mk hx
  rw [hx] at HC1 hn1 HB1
  subst hn1
  clear hx
  go_upto_region 10 with (fail)
  rcases hm : mayA p t fuel with _ | _
  · obtain rfl := HN2.out hm
    clear HD8 HY2 HN2 hm
    go_upto_region 12 with (fail)
    have hS0 : Below w8.heap.size w8 w8.drew := below_drew1 (Below.refl _ _)
    rcases hm : mayA q t (F : Int) with _ | _
    · obtain rfl := HN3.out hm
      clear HY3 HN3 hm
      refine start_ (n := 18) (S := fun w' => Below w8.heap.size w8 w') (ds := []) #[false, false, false, false, false, false, false, false, false, false, false, false, false, false, false, false, false, false] (by kernel_rfl) rfl rfl (by exact hS0) (fun hHeld => ?_)
      refine with_tabW parts_tab12 parts_bits12 (fun HT_ HW_ => ?_)
      generalize w8.drew = wq at hHeld hS0 ⊢
      refine pure_ (i := 0) (N := some 61) (v := ?_) (a' := ?_) #[true, false, false, false, false, false, false, false, false, false, false, false, false, false, false, false, false, false] rfl rfl (any_of HT_.out (by kernel_rfl)) (fun _ _ _ h => h) (Or.inl ⟨by rfl, ?_⟩) ?_ ?_
      rotate_left
      · intro w'
        go_simp
        with_reducible rfl
      rotate_left
      · simp only [Act.put, List.setIfInBounds_toArray, List.set_cons_zero, List.set_cons_succ, i64_w, i32_w]
        rfl
      refine pure_ (i := 1) (N := some 62) (v := ?_) (a' := ?_) #[true, true, false, false, false, false, false, false, false, false, false, false, false, false, false, false, false, false] rfl rfl (any_of HT_.out (by kernel_rfl)) (fun _ _ _ h => h) (Or.inl ⟨by rfl, ?_⟩) ?_ ?_
      rotate_left
      · intro w'
        go_simp
        with_reducible rfl
      rotate_left
      · simp only [Act.put, List.setIfInBounds_toArray, List.set_cons_zero, List.set_cons_succ, i64_w, i32_w]
        rfl
      refine pure_ (i := 2) (N := some 63) (v := ?_) (a' := ?_) #[true, true, true, false, false, false, false, false, false, false, false, false, false, false, false, false, false, false] rfl rfl (any_of HT_.out (by kernel_rfl)) (fun _ _ _ h => h) (Or.inl ⟨by rfl, ?_⟩) ?_ ?_
      rotate_left
      · intro w'
        go_simp
        with_reducible rfl
      rotate_left
      · simp only [Act.put, List.setIfInBounds_toArray, List.set_cons_zero, List.set_cons_succ, i64_w, i32_w]
        rfl
      refine pure_ (i := 3) (N := some 64) (v := undef) (a' := ?_) #[true, true, true, true, false, false, false, false, false, false, false, false, false, false, false, false, false, false] rfl rfl (any_of HT_.out (by kernel_rfl)) (fun _ _ _ h => h) (Or.inr ⟨by rfl, rfl⟩) ?_ ?_
      rotate_left
      · simp only [Act.put, List.setIfInBounds_toArray, List.set_cons_zero, List.set_cons_succ, i64_w, i32_w]
        rfl
      refine pure_ (i := 4) (N := some 65) (v := undef) (a' := ?_) #[true, true, true, true, true, false, false, false, false, false, false, false, false, false, false, false, false, false] rfl rfl (any_of HT_.out (by kernel_rfl)) (fun _ _ _ h => h) (Or.inr ⟨by rfl, rfl⟩) ?_ ?_
      rotate_left
      · simp only [Act.put, List.setIfInBounds_toArray, List.set_cons_zero, List.set_cons_succ, i64_w, i32_w]
        rfl
      refine pure_ (i := 5) (N := some 66) (v := undef) (a' := ?_) #[true, true, true, true, true, true, false, false, false, false, false, false, false, false, false, false, false, false] rfl rfl (any_of HT_.out (by kernel_rfl)) (fun _ _ _ h => h) (Or.inr ⟨by rfl, rfl⟩) ?_ ?_
      rotate_left
      · simp only [Act.put, List.setIfInBounds_toArray, List.set_cons_zero, List.set_cons_succ, i64_w, i32_w]
        rfl
      refine pure_ (i := 6) (N := some 67) (v := undef) (a' := ?_) #[true, true, true, true, true, true, true, false, false, false, false, false, false, false, false, false, false, false] rfl rfl (any_of HT_.out (by kernel_rfl)) (fun _ _ _ h => h) (Or.inr ⟨by rfl, rfl⟩) ?_ ?_
      rotate_left
      · simp only [Act.put, List.setIfInBounds_toArray, List.set_cons_zero, List.set_cons_succ, i64_w, i32_w]
        rfl
      refine pure_ (i := 7) (N := some 68) (v := undef) (a' := ?_) #[true, true, true, true, true, true, true, true, false, false, false, false, false, false, false, false, false, false] rfl rfl (any_of HT_.out (by kernel_rfl)) (fun _ _ _ h => h) (Or.inr ⟨by rfl, rfl⟩) ?_ ?_
      rotate_left
      · simp only [Act.put, List.setIfInBounds_toArray, List.set_cons_zero, List.set_cons_succ, i64_w, i32_w]
        rfl
      refine pure_ (i := 8) (N := some 69) (v := undef) (a' := ?_) #[true, true, true, true, true, true, true, true, true, false, false, false, false, false, false, false, false, false] rfl rfl (any_of HT_.out (by kernel_rfl)) (fun _ _ _ h => h) (Or.inr ⟨by rfl, rfl⟩) ?_ ?_
      rotate_left
      · simp only [Act.put, List.setIfInBounds_toArray, List.set_cons_zero, List.set_cons_succ, i64_w, i32_w]
        rfl
      refine pure_ (i := 9) (N := some 70) (v := undef) (a' := ?_) #[true, true, true, true, true, true, true, true, true, true, false, false, false, false, false, false, false, false] rfl rfl (any_of HT_.out (by kernel_rfl)) (fun _ _ _ h => h) (Or.inr ⟨by rfl, rfl⟩) ?_ ?_
      rotate_left
      · simp only [Act.put, List.setIfInBounds_toArray, List.set_cons_zero, List.set_cons_succ, i64_w, i32_w]
        rfl
      refine pure_ (i := 10) (N := some 71) (v := undef) (a' := ?_) #[true, true, true, true, true, true, true, true, true, true, true, false, false, false, false, false, false, false] rfl rfl (any_of HT_.out (by kernel_rfl)) (fun _ _ _ h => h) (Or.inr ⟨by rfl, rfl⟩) ?_ ?_
      rotate_left
      · simp only [Act.put, List.setIfInBounds_toArray, List.set_cons_zero, List.set_cons_succ, i64_w, i32_w]
        rfl
      refine pure_ (i := 11) (N := some 72) (v := undef) (a' := ?_) #[true, true, true, true, true, true, true, true, true, true, true, true, false, false, false, false, false, false] rfl rfl (any_of HT_.out (by kernel_rfl)) (fun _ _ _ h => h) (Or.inr ⟨by rfl, rfl⟩) ?_ ?_
      rotate_left
      · simp only [Act.put, List.setIfInBounds_toArray, List.set_cons_zero, List.set_cons_succ, i64_w, i32_w]
        rfl
      refine pure_ (i := 12) (N := some 73) (v := undef) (a' := ?_) #[true, true, true, true, true, true, true, true, true, true, true, true, true, false, false, false, false, false] rfl rfl (any_of HT_.out (by kernel_rfl)) (fun _ _ _ h => h) (Or.inr ⟨by rfl, rfl⟩) ?_ ?_
      rotate_left
      · simp only [Act.put, List.setIfInBounds_toArray, List.set_cons_zero, List.set_cons_succ, i64_w, i32_w]
        rfl
      refine pure_ (i := 13) (N := some 74) (v := ?_) (a' := ?_) #[true, true, true, true, true, true, true, true, true, true, true, true, true, true, false, false, false, false] rfl rfl (any_of HT_.out (by kernel_rfl)) (fun _ _ _ h => h) (Or.inl ⟨by rfl, ?_⟩) ?_ ?_
      rotate_left
      · intro w'
        go_simp
        with_reducible rfl
      rotate_left
      · simp only [Act.put, List.setIfInBounds_toArray, List.set_cons_zero, List.set_cons_succ, i64_w, i32_w]
        rfl
      refine pure_ (i := 14) (N := some 75) (v := ?_) (a' := ?_) #[true, true, true, true, true, true, true, true, true, true, true, true, true, true, true, false, false, false] rfl rfl (any_of HT_.out (by kernel_rfl)) (fun _ _ _ h => h) (Or.inl ⟨by rfl, ?_⟩) ?_ ?_
      rotate_left
      · intro w'
        go_simp
        with_reducible rfl
      rotate_left
      · simp only [Act.put, List.setIfInBounds_toArray, List.set_cons_zero, List.set_cons_succ, i64_w, i32_w]
        rfl
      refine one_ (i := 15) (N := some 76) #[true, true, true, true, true, true, true, true, true, true, true, true, true, true, true, true, false, false] rfl rfl (one_of HT_.out (by kernel_rfl)) (by decide) (fun K hK => ?_)
      refine goes_ Tryd.func7 (by kernel_rfl) rfl #[] (by rfl) rfl rfl (by (try simp only [List.map_toArray, List.map_cons, List.map_nil]); first | done | rfl) ?_
      refine (known_calls _ (HA8.out.below hHeld).t6 (HA8.out.below hHeld).ts).mono ?_
      rintro e wk ⟨rfl, hb⟩
      refine ⟨_, rfl, ?_⟩
      have hS1 := below_step hHeld hb
      clear hb
      refine hK.out _ _ (by exact hS1) (fun hHeld => ?_)
      clear hK K
      refine norm_ (a' := ?_) ?_ ?_
      rotate_left
      · first
        | (show Act.put _ (some 76) _ = _; simp only [Act.put, List.setIfInBounds_toArray, List.set_cons_zero, List.set_cons_succ, i64_w, i32_w]; rfl)
        | rfl
      refine pure_ (i := 16) (N := some 77) (v := ?_) (a' := ?_) #[true, true, true, true, true, true, true, true, true, true, true, true, true, true, true, true, true, false] rfl rfl (any_of HT_.out (by kernel_rfl)) (fun _ _ _ h => h) (Or.inl ⟨by rfl, ?_⟩) ?_ ?_
      rotate_left
      · intro w'
        go_simp
        with_reducible rfl
      rotate_left
      · simp only [Act.put, List.setIfInBounds_toArray, List.set_cons_zero, List.set_cons_succ, i64_w, i32_w]
        rfl
      refine pure_ (i := 17) (N := some 6) (v := ?_) (a' := ?_) #[true, true, true, true, true, true, true, true, true, true, true, true, true, true, true, true, true, true] rfl rfl (any_of HT_.out (by kernel_rfl)) (fun _ _ _ h => h) (Or.inl ⟨by rfl, ?_⟩) ?_ ?_
      rotate_left
      · intro w'
        go_simp
        with_reducible rfl
      rotate_left
      · simp only [Act.put, List.setIfInBounds_toArray, List.set_cons_zero, List.set_cons_succ, i64_w, i32_w]
        rfl
      refine done_ (done_of HT_.out (by kernel_rfl)) ?_
      go_wp2
      go_ret
      exact ⟨rfl, below_step HB8.out hHeld⟩
    obtain ⟨rfl, _, _, hn3, hk3, _⟩ := HY3.out hm
    have HC3 := Aside0.mk (HY3.out hm).2.2.2.2.2
    have hmq : mayP q = true := by unfold mayA at hm; simp only [Bool.and_eq_true] at hm; exact hm.1.1.1
    clear HY3 HN3 hm
    rw [Int.toNat_natCast] at HC3 hn3
    have HB3 := Aside0.mk (actB_bytes hmq t F (by omega))
    have HPQ := Aside0.mk (show actB p t F = actB q t F ↔ p = q from actB_prog hmp hmq)
    obtain ⟨z, hz⟩ : ∃ z, actB q t F = z := ⟨_, rfl⟩
    rw [hz] at HC3 hn3 HB3 HPQ
    rw [HSX.out] at HPQ
    subst hn3
    clear hz
    have hsp := Sha.str_eqB HB1.out HB3.out
    obtain ⟨d, hd⟩ : ∃ d, decide (p = q) = d := ⟨_, rfl⟩
    rw [show decide (x = z) = decide (p = q) from by rw [decide_eq_decide]; exact HPQ.out, hd] at hsp
    replace hd := Aside0.mk hd
    refine start_ (n := 18) (S := fun w' => Below w8.heap.size w8 w') (ds := []) #[false, false, false, false, false, false, false, false, false, false, false, false, false, false, false, false, false, false] (by kernel_rfl) rfl rfl (by exact hS0) (fun hHeld => ?_)
    refine with_tabW parts_tab12 parts_bits12 (fun HT_ HW_ => ?_)
    generalize w8.drew = wq at hHeld hS0 ⊢
    refine pure_ (i := 0) (N := some 61) (v := ?_) (a' := ?_) #[true, false, false, false, false, false, false, false, false, false, false, false, false, false, false, false, false, false] rfl rfl (any_of HT_.out (by kernel_rfl)) (fun _ _ _ h => h) (Or.inl ⟨by rfl, ?_⟩) ?_ ?_
    rotate_left
    · intro w'
      go_simp
      with_reducible rfl
    rotate_left
    · simp only [Act.put, List.setIfInBounds_toArray, List.set_cons_zero, List.set_cons_succ, i64_w, i32_w]
      rfl
    refine pure_ (i := 1) (N := some 62) (v := ?_) (a' := ?_) #[true, true, false, false, false, false, false, false, false, false, false, false, false, false, false, false, false, false] rfl rfl (any_of HT_.out (by kernel_rfl)) (fun _ _ _ h => h) (Or.inl ⟨by rfl, ?_⟩) ?_ ?_
    rotate_left
    · intro w'
      go_simp
      with_reducible rfl
    rotate_left
    · simp only [Act.put, List.setIfInBounds_toArray, List.set_cons_zero, List.set_cons_succ, i64_w, i32_w]
      rfl
    refine pure_ (i := 2) (N := some 63) (v := ?_) (a' := ?_) #[true, true, true, false, false, false, false, false, false, false, false, false, false, false, false, false, false, false] rfl rfl (any_of HT_.out (by kernel_rfl)) (fun _ _ _ h => h) (Or.inl ⟨by rfl, ?_⟩) ?_ ?_
    rotate_left
    · intro w'
      go_simp
      with_reducible rfl
    rotate_left
    · simp only [Act.put, List.setIfInBounds_toArray, List.set_cons_zero, List.set_cons_succ, i64_w, i32_w]
      rfl
    refine pure_ (i := 3) (N := some 64) (v := ?_) (a' := ?_) #[true, true, true, true, false, false, false, false, false, false, false, false, false, false, false, false, false, false] rfl rfl (any_of HT_.out (by kernel_rfl)) (fun _ _ _ h => h) (Or.inl ⟨by rfl, ?_⟩) ?_ ?_
    rotate_left
    · intro w'
      go_simp
      with_reducible rfl
    rotate_left
    · simp only [Act.put, List.setIfInBounds_toArray, List.set_cons_zero, List.set_cons_succ, i64_w, i32_w]
      rfl
    refine pure_ (i := 5) (N := some 66) (v := ?_) (a' := ?_) #[true, true, true, true, false, true, false, false, false, false, false, false, false, false, false, false, false, false] rfl rfl (any_of HT_.out (by kernel_rfl)) (fun _ _ _ h => h) (Or.inl ⟨by rfl, ?_⟩) ?_ ?_
    rotate_left
    · intro w'
      go_simp
      with_reducible rfl
    rotate_left
    · simp only [Act.put, List.setIfInBounds_toArray, List.set_cons_zero, List.set_cons_succ, i64_w, i32_w]
      rfl
    refine pure_ (i := 8) (N := some 69) (v := ?_) (a' := ?_) #[true, true, true, true, false, true, false, false, true, false, false, false, false, false, false, false, false, false] rfl rfl (any_of HT_.out (by kernel_rfl)) (fun _ _ _ h => h) (Or.inl ⟨by rfl, ?_⟩) ?_ ?_
    rotate_left
    · intro w'
      go_simp
      with_reducible rfl
    rotate_left
    · simp only [Act.put, List.setIfInBounds_toArray, List.set_cons_zero, List.set_cons_succ, i64_w, i32_w]
      rfl
    refine pure_ (i := 10) (N := some 71) (v := ?_) (a' := ?_) #[true, true, true, true, false, true, false, false, true, false, true, false, false, false, false, false, false, false] rfl rfl (any_of HT_.out (by kernel_rfl)) (fun _ _ _ h => h) (Or.inl ⟨by rfl, ?_⟩) ?_ ?_
    rotate_left
    · intro w'
      go_simp
      with_reducible rfl
    rotate_left
    · simp only [Act.put, List.setIfInBounds_toArray, List.set_cons_zero, List.set_cons_succ, i64_w, i32_w]
      rfl
    refine take_ (i := 4) (N := some 65) (v := ?_) (a' := ?_) #[true, true, true, true, true, true, false, false, true, false, true, false, false, false, false, false, false, false] rfl rfl (take_ofW HT_.out HW_.out (by kernel_rfl)) (fun _ _ _ h => h) (Or.inl ⟨by rfl, ?_⟩) hHeld ?_ ?_
    rotate_left
    · intro w' hSt
      have hcv : (convert 30 9 (.slice X1 x.length k1)).run Tryd.prog w' = .ok (.string (strOfNums x)) w' := Kd.C_string Tryd.underlying30 Tryd.underlying5 Tryd.underlying9 (Kd.C_below HC1.out hSt)
      go_simp
      with_reducible rfl
    rotate_left
    · simp only [Act.put, List.setIfInBounds_toArray, List.set_cons_zero, List.set_cons_succ, i64_w, i32_w]
      rfl
    refine take_ (i := 6) (N := some 67) (v := ?_) (a' := ?_) #[true, true, true, true, true, true, true, false, true, false, true, false, false, false, false, false, false, false] rfl rfl (take_ofW HT_.out HW_.out (by kernel_rfl)) (fun _ _ _ h => h) (Or.inl ⟨by rfl, ?_⟩) hHeld ?_ ?_
    rotate_left
    · intro w' hSt
      have hcv : (convert 30 9 (.slice X3 z.length k3)).run Tryd.prog w' = .ok (.string (strOfNums z)) w' := Kd.C_string Tryd.underlying30 Tryd.underlying5 Tryd.underlying9 (Kd.C_below HC3.out hSt)
      go_simp
      with_reducible rfl
    rotate_left
    · simp only [Act.put, List.setIfInBounds_toArray, List.set_cons_zero, List.set_cons_succ, i64_w, i32_w]
      rfl
    refine take_ (i := 9) (N := some 70) (v := ?_) (a' := ?_) #[true, true, true, true, true, true, true, false, true, true, true, false, false, false, false, false, false, false] rfl rfl (take_ofW HT_.out HW_.out (by kernel_rfl)) (fun _ _ _ h => h) (Or.inl ⟨by rfl, ?_⟩) hHeld ?_ ?_
    rotate_left
    · intro w' hSt
      obtain ⟨o0, o1, o2⟩ := (HX8.out.below hSt).cu
      go_simp
      with_reducible rfl
    rotate_left
    · simp only [Act.put, List.setIfInBounds_toArray, List.set_cons_zero, List.set_cons_succ, i64_w, i32_w]
      rfl
    refine pure_ (i := 7) (N := some 68) (v := ?_) (a' := ?_) #[true, true, true, true, true, true, true, true, true, true, true, false, false, false, false, false, false, false] rfl rfl (any_of HT_.out (by kernel_rfl)) (fun _ _ _ h => h) (Or.inl ⟨by rfl, ?_⟩) ?_ ?_
    rotate_left
    · intro w'
      go_simp
      with_reducible rfl
    rotate_left
    · simp only [Act.put, List.setIfInBounds_toArray, List.set_cons_zero, List.set_cons_succ, i64_w, i32_w]
      rfl
    refine one_ (i := 11) (N := some 72) #[true, true, true, true, true, true, true, true, true, true, true, true, false, false, false, false, false, false] rfl rfl (one_of HT_.out (by kernel_rfl)) (by decide) (fun K hK => ?_)
    refine goes_ Tryd.func17 (by kernel_rfl) rfl #[.slice A p.length c, .slice A3 q.length c3] (by rfl) rfl rfl (by (try simp only [List.map_toArray, List.map_cons, List.map_nil]); first | done | rfl) ?_
    refine (Prog6.psame_calls A A3 c c3 p q _ (HA8.out.below hHeld).hp (Kd.C_below HQ8.out hHeld) HA8.out.lp hqc).mono ?_
    rintro e wk ⟨rfl, hb⟩
    refine ⟨_, rfl, ?_⟩
    rw [hd.out]
    have hS1 := below_step hHeld hb
    clear hb
    refine hK.out _ _ (by exact hS1) (fun hHeld => ?_)
    clear hK K
    refine norm_ (a' := ?_) ?_ ?_
    rotate_left
    · first
      | (show Act.put _ (some 72) _ = _; simp only [Act.put, List.setIfInBounds_toArray, List.set_cons_zero, List.set_cons_succ, i64_w, i32_w]; rfl)
      | rfl
    refine pure_ (i := 12) (N := some 73) (v := ?_) (a' := ?_) #[true, true, true, true, true, true, true, true, true, true, true, true, true, false, false, false, false, false] rfl rfl (any_of HT_.out (by kernel_rfl)) (fun _ _ _ h => h) (Or.inl ⟨by rfl, ?_⟩) ?_ ?_
    rotate_left
    · intro w'
      go_simp
      with_reducible rfl
    rotate_left
    · simp only [Act.put, List.setIfInBounds_toArray, List.set_cons_zero, List.set_cons_succ, i64_w, i32_w]
      rfl
    refine pure_ (i := 13) (N := some 74) (v := ?_) (a' := ?_) #[true, true, true, true, true, true, true, true, true, true, true, true, true, true, false, false, false, false] rfl rfl (any_of HT_.out (by kernel_rfl)) (fun _ _ _ h => h) (Or.inl ⟨by rfl, ?_⟩) ?_ ?_
    rotate_left
    · intro w'
      go_simp
      with_reducible rfl
    rotate_left
    · simp only [Act.put, List.setIfInBounds_toArray, List.set_cons_zero, List.set_cons_succ, i64_w, i32_w]
      rfl
    refine pure_ (i := 14) (N := some 75) (v := ?_) (a' := ?_) #[true, true, true, true, true, true, true, true, true, true, true, true, true, true, true, false, false, false] rfl rfl (any_of HT_.out (by kernel_rfl)) (fun _ _ _ h => h) (Or.inl ⟨by rfl, ?_⟩) ?_ ?_
    rotate_left
    · intro w'
      go_simp
      with_reducible rfl
    rotate_left
    · simp only [Act.put, List.setIfInBounds_toArray, List.set_cons_zero, List.set_cons_succ, i64_w, i32_w]
      rfl
    refine one_ (i := 15) (N := some 76) #[true, true, true, true, true, true, true, true, true, true, true, true, true, true, true, true, false, false] rfl rfl (one_of HT_.out (by kernel_rfl)) (by decide) (fun K hK => ?_)
    refine goes_ Tryd.func7 (by kernel_rfl) rfl #[] (by rfl) rfl rfl (by (try simp only [List.map_toArray, List.map_cons, List.map_nil]); first | done | rfl) ?_
    refine (known_calls _ (HA8.out.below hHeld).t6 (HA8.out.below hHeld).ts).mono ?_
    rintro e wk ⟨rfl, hb⟩
    refine ⟨_, rfl, ?_⟩
    have hS1 := below_step hHeld hb
    clear hb
    refine hK.out _ _ (by exact hS1) (fun hHeld => ?_)
    clear hK K
    refine norm_ (a' := ?_) ?_ ?_
    rotate_left
    · first
      | (show Act.put _ (some 76) _ = _; simp only [Act.put, List.setIfInBounds_toArray, List.set_cons_zero, List.set_cons_succ, i64_w, i32_w]; rfl)
      | rfl
    refine pure_ (i := 16) (N := some 77) (v := ?_) (a' := ?_) #[true, true, true, true, true, true, true, true, true, true, true, true, true, true, true, true, true, false] rfl rfl (any_of HT_.out (by kernel_rfl)) (fun _ _ _ h => h) (Or.inl ⟨by rfl, ?_⟩) ?_ ?_
    rotate_left
    · intro w'
      go_simp
      with_reducible rfl
    rotate_left
    · simp only [Act.put, List.setIfInBounds_toArray, List.set_cons_zero, List.set_cons_succ, i64_w, i32_w]
      rfl
    refine pure_ (i := 17) (N := some 6) (v := ?_) (a' := ?_) #[true, true, true, true, true, true, true, true, true, true, true, true, true, true, true, true, true, true] rfl rfl (any_of HT_.out (by kernel_rfl)) (fun _ _ _ h => h) (Or.inl ⟨by rfl, ?_⟩) ?_ ?_
    rotate_left
    · intro w'
      go_simp
      with_reducible rfl
    rotate_left
    · simp only [Act.put, List.setIfInBounds_toArray, List.set_cons_zero, List.set_cons_succ, i64_w, i32_w]
      rfl
    refine done_ (done_of HT_.out (by kernel_rfl)) ?_
    go_wp2
    go_ret
    exact ⟨rfl, below_step HB8.out hHeld⟩
  obtain ⟨rfl, hg0, hg1, hn2, hk2, _⟩ := HY2.out hm
  have HC2 := Aside0.mk (HD8.out hm)
  clear HD8 HY2 HN2 hm
  obtain ⟨G, rfl⟩ := Int.eq_ofNat_of_zero_le hg0
  rw [Int.toNat_natCast] at HC2 hn2
  have HB2 := Aside0.mk (actB_bytes hmp t G (by omega))
  have HEQ := Aside0.mk (show actB p t F = actB p t G ↔ F = G from actB_fuel (by omega) (by omega))
  obtain ⟨y, hy⟩ : ∃ y, actB p t G = y := ⟨_, rfl⟩
  rw [hy] at HC2 hn2 HB2 HEQ
  rw [HSX.out] at HEQ
  subst hn2
  clear hy
  have cv1 : (convert 30 9 (.slice X1 x.length k1)).run Tryd.prog w8 = .ok (.string (strOfNums x)) w8 := Kd.C_string Tryd.underlying30 Tryd.underlying5 Tryd.underlying9 HC1.out
  have cv2 : (convert 30 9 (.slice X2 y.length k2)).run Tryd.prog w8 = .ok (.string (strOfNums y)) w8 := Kd.C_string Tryd.underlying30 Tryd.underlying5 Tryd.underlying9 HC2.out
  have hse := Sha.str_eqB HB1.out HB2.out
  obtain ⟨o0, o1, o2⟩ := HX8.out.cu
  by_cases hFG : F = G
  · have e1 : (x = y) := HEQ.out.2 hFG
    rw [decide_eq_true e1] at hse
    clear e1 HB2
    subst hFG
    go_upto_region 12 with (fail)
    clear cv1 cv2 hse o0 o1 o2 HC2
    have hS0 : Below w8.heap.size w8 w8.drew := below_drew1 (Below.refl _ _)
    rcases hm : mayA q t (F : Int) with _ | _
    · obtain rfl := HN3.out hm
      clear HY3 HN3 hm
      refine start_ (n := 18) (S := fun w' => Below w8.heap.size w8 w') (ds := []) #[false, false, false, false, false, false, false, false, false, false, false, false, false, false, false, false, false, false] (by kernel_rfl) rfl rfl (by exact hS0) (fun hHeld => ?_)
      refine with_tabW parts_tab12 parts_bits12 (fun HT_ HW_ => ?_)
      generalize w8.drew = wq at hHeld hS0 ⊢
      refine pure_ (i := 0) (N := some 61) (v := ?_) (a' := ?_) #[true, false, false, false, false, false, false, false, false, false, false, false, false, false, false, false, false, false] rfl rfl (any_of HT_.out (by kernel_rfl)) (fun _ _ _ h => h) (Or.inl ⟨by rfl, ?_⟩) ?_ ?_
      rotate_left
      · intro w'
        go_simp
        with_reducible rfl
      rotate_left
      · simp only [Act.put, List.setIfInBounds_toArray, List.set_cons_zero, List.set_cons_succ, i64_w, i32_w]
        rfl
      refine pure_ (i := 1) (N := some 62) (v := ?_) (a' := ?_) #[true, true, false, false, false, false, false, false, false, false, false, false, false, false, false, false, false, false] rfl rfl (any_of HT_.out (by kernel_rfl)) (fun _ _ _ h => h) (Or.inl ⟨by rfl, ?_⟩) ?_ ?_
      rotate_left
      · intro w'
        go_simp
        with_reducible rfl
      rotate_left
      · simp only [Act.put, List.setIfInBounds_toArray, List.set_cons_zero, List.set_cons_succ, i64_w, i32_w]
        rfl
      refine pure_ (i := 2) (N := some 63) (v := ?_) (a' := ?_) #[true, true, true, false, false, false, false, false, false, false, false, false, false, false, false, false, false, false] rfl rfl (any_of HT_.out (by kernel_rfl)) (fun _ _ _ h => h) (Or.inl ⟨by rfl, ?_⟩) ?_ ?_
      rotate_left
      · intro w'
        go_simp
        with_reducible rfl
      rotate_left
      · simp only [Act.put, List.setIfInBounds_toArray, List.set_cons_zero, List.set_cons_succ, i64_w, i32_w]
        rfl
      refine pure_ (i := 3) (N := some 64) (v := undef) (a' := ?_) #[true, true, true, true, false, false, false, false, false, false, false, false, false, false, false, false, false, false] rfl rfl (any_of HT_.out (by kernel_rfl)) (fun _ _ _ h => h) (Or.inr ⟨by rfl, rfl⟩) ?_ ?_
      rotate_left
      · simp only [Act.put, List.setIfInBounds_toArray, List.set_cons_zero, List.set_cons_succ, i64_w, i32_w]
        rfl
      refine pure_ (i := 4) (N := some 65) (v := undef) (a' := ?_) #[true, true, true, true, true, false, false, false, false, false, false, false, false, false, false, false, false, false] rfl rfl (any_of HT_.out (by kernel_rfl)) (fun _ _ _ h => h) (Or.inr ⟨by rfl, rfl⟩) ?_ ?_
      rotate_left
      · simp only [Act.put, List.setIfInBounds_toArray, List.set_cons_zero, List.set_cons_succ, i64_w, i32_w]
        rfl
      refine pure_ (i := 5) (N := some 66) (v := undef) (a' := ?_) #[true, true, true, true, true, true, false, false, false, false, false, false, false, false, false, false, false, false] rfl rfl (any_of HT_.out (by kernel_rfl)) (fun _ _ _ h => h) (Or.inr ⟨by rfl, rfl⟩) ?_ ?_
      rotate_left
      · simp only [Act.put, List.setIfInBounds_toArray, List.set_cons_zero, List.set_cons_succ, i64_w, i32_w]
        rfl
      refine pure_ (i := 6) (N := some 67) (v := undef) (a' := ?_) #[true, true, true, true, true, true, true, false, false, false, false, false, false, false, false, false, false, false] rfl rfl (any_of HT_.out (by kernel_rfl)) (fun _ _ _ h => h) (Or.inr ⟨by rfl, rfl⟩) ?_ ?_
      rotate_left
      · simp only [Act.put, List.setIfInBounds_toArray, List.set_cons_zero, List.set_cons_succ, i64_w, i32_w]
        rfl
      refine pure_ (i := 7) (N := some 68) (v := undef) (a' := ?_) #[true, true, true, true, true, true, true, true, false, false, false, false, false, false, false, false, false, false] rfl rfl (any_of HT_.out (by kernel_rfl)) (fun _ _ _ h => h) (Or.inr ⟨by rfl, rfl⟩) ?_ ?_
      rotate_left
      · simp only [Act.put, List.setIfInBounds_toArray, List.set_cons_zero, List.set_cons_succ, i64_w, i32_w]
        rfl
      refine pure_ (i := 8) (N := some 69) (v := undef) (a' := ?_) #[true, true, true, true, true, true, true, true, true, false, false, false, false, false, false, false, false, false] rfl rfl (any_of HT_.out (by kernel_rfl)) (fun _ _ _ h => h) (Or.inr ⟨by rfl, rfl⟩) ?_ ?_
      rotate_left
      · simp only [Act.put, List.setIfInBounds_toArray, List.set_cons_zero, List.set_cons_succ, i64_w, i32_w]
        rfl
      refine pure_ (i := 9) (N := some 70) (v := undef) (a' := ?_) #[true, true, true, true, true, true, true, true, true, true, false, false, false, false, false, false, false, false] rfl rfl (any_of HT_.out (by kernel_rfl)) (fun _ _ _ h => h) (Or.inr ⟨by rfl, rfl⟩) ?_ ?_
      rotate_left
      · simp only [Act.put, List.setIfInBounds_toArray, List.set_cons_zero, List.set_cons_succ, i64_w, i32_w]
        rfl
      refine pure_ (i := 10) (N := some 71) (v := undef) (a' := ?_) #[true, true, true, true, true, true, true, true, true, true, true, false, false, false, false, false, false, false] rfl rfl (any_of HT_.out (by kernel_rfl)) (fun _ _ _ h => h) (Or.inr ⟨by rfl, rfl⟩) ?_ ?_
      rotate_left
      · simp only [Act.put, List.setIfInBounds_toArray, List.set_cons_zero, List.set_cons_succ, i64_w, i32_w]
        rfl
      refine pure_ (i := 11) (N := some 72) (v := undef) (a' := ?_) #[true, true, true, true, true, true, true, true, true, true, true, true, false, false, false, false, false, false] rfl rfl (any_of HT_.out (by kernel_rfl)) (fun _ _ _ h => h) (Or.inr ⟨by rfl, rfl⟩) ?_ ?_
      rotate_left
      · simp only [Act.put, List.setIfInBounds_toArray, List.set_cons_zero, List.set_cons_succ, i64_w, i32_w]
        rfl
      refine pure_ (i := 12) (N := some 73) (v := undef) (a' := ?_) #[true, true, true, true, true, true, true, true, true, true, true, true, true, false, false, false, false, false] rfl rfl (any_of HT_.out (by kernel_rfl)) (fun _ _ _ h => h) (Or.inr ⟨by rfl, rfl⟩) ?_ ?_
      rotate_left
      · simp only [Act.put, List.setIfInBounds_toArray, List.set_cons_zero, List.set_cons_succ, i64_w, i32_w]
        rfl
      refine pure_ (i := 13) (N := some 74) (v := ?_) (a' := ?_) #[true, true, true, true, true, true, true, true, true, true, true, true, true, true, false, false, false, false] rfl rfl (any_of HT_.out (by kernel_rfl)) (fun _ _ _ h => h) (Or.inl ⟨by rfl, ?_⟩) ?_ ?_
      rotate_left
      · intro w'
        go_simp
        with_reducible rfl
      rotate_left
      · simp only [Act.put, List.setIfInBounds_toArray, List.set_cons_zero, List.set_cons_succ, i64_w, i32_w]
        rfl
      refine pure_ (i := 14) (N := some 75) (v := ?_) (a' := ?_) #[true, true, true, true, true, true, true, true, true, true, true, true, true, true, true, false, false, false] rfl rfl (any_of HT_.out (by kernel_rfl)) (fun _ _ _ h => h) (Or.inl ⟨by rfl, ?_⟩) ?_ ?_
      rotate_left
      · intro w'
        go_simp
        with_reducible rfl
      rotate_left
      · simp only [Act.put, List.setIfInBounds_toArray, List.set_cons_zero, List.set_cons_succ, i64_w, i32_w]
        rfl
      refine one_ (i := 15) (N := some 76) #[true, true, true, true, true, true, true, true, true, true, true, true, true, true, true, true, false, false] rfl rfl (one_of HT_.out (by kernel_rfl)) (by decide) (fun K hK => ?_)
      refine goes_ Tryd.func7 (by kernel_rfl) rfl #[] (by rfl) rfl rfl (by (try simp only [List.map_toArray, List.map_cons, List.map_nil]); first | done | rfl) ?_
      refine (known_calls _ (HA8.out.below hHeld).t6 (HA8.out.below hHeld).ts).mono ?_
      rintro e wk ⟨rfl, hb⟩
      refine ⟨_, rfl, ?_⟩
      have hS1 := below_step hHeld hb
      clear hb
      refine hK.out _ _ (by exact hS1) (fun hHeld => ?_)
      clear hK K
      refine norm_ (a' := ?_) ?_ ?_
      rotate_left
      · first
        | (show Act.put _ (some 76) _ = _; simp only [Act.put, List.setIfInBounds_toArray, List.set_cons_zero, List.set_cons_succ, i64_w, i32_w]; rfl)
        | rfl
      refine pure_ (i := 16) (N := some 77) (v := ?_) (a' := ?_) #[true, true, true, true, true, true, true, true, true, true, true, true, true, true, true, true, true, false] rfl rfl (any_of HT_.out (by kernel_rfl)) (fun _ _ _ h => h) (Or.inl ⟨by rfl, ?_⟩) ?_ ?_
      rotate_left
      · intro w'
        go_simp
        with_reducible rfl
      rotate_left
      · simp only [Act.put, List.setIfInBounds_toArray, List.set_cons_zero, List.set_cons_succ, i64_w, i32_w]
        rfl
      refine pure_ (i := 17) (N := some 6) (v := ?_) (a' := ?_) #[true, true, true, true, true, true, true, true, true, true, true, true, true, true, true, true, true, true] rfl rfl (any_of HT_.out (by kernel_rfl)) (fun _ _ _ h => h) (Or.inl ⟨by rfl, ?_⟩) ?_ ?_
      rotate_left
      · intro w'
        go_simp
        with_reducible rfl
      rotate_left
      · simp only [Act.put, List.setIfInBounds_toArray, List.set_cons_zero, List.set_cons_succ, i64_w, i32_w]
        rfl
      refine done_ (done_of HT_.out (by kernel_rfl)) ?_
      go_wp2
      go_ret
      exact ⟨rfl, below_step HB8.out hHeld⟩
    obtain ⟨rfl, _, _, hn3, hk3, _⟩ := HY3.out hm
    have HC3 := Aside0.mk (HY3.out hm).2.2.2.2.2
    have hmq : mayP q = true := by unfold mayA at hm; simp only [Bool.and_eq_true] at hm; exact hm.1.1.1
    clear HY3 HN3 hm
    rw [Int.toNat_natCast] at HC3 hn3
    have HB3 := Aside0.mk (actB_bytes hmq t F (by omega))
    have HPQ := Aside0.mk (show actB p t F = actB q t F ↔ p = q from actB_prog hmp hmq)
    obtain ⟨z, hz⟩ : ∃ z, actB q t F = z := ⟨_, rfl⟩
    rw [hz] at HC3 hn3 HB3 HPQ
    rw [HSX.out] at HPQ
    subst hn3
    clear hz
    have hsp := Sha.str_eqB HB1.out HB3.out
    obtain ⟨d, hd⟩ : ∃ d, decide (p = q) = d := ⟨_, rfl⟩
    rw [show decide (x = z) = decide (p = q) from by rw [decide_eq_decide]; exact HPQ.out, hd] at hsp
    replace hd := Aside0.mk hd
    refine start_ (n := 18) (S := fun w' => Below w8.heap.size w8 w') (ds := []) #[false, false, false, false, false, false, false, false, false, false, false, false, false, false, false, false, false, false] (by kernel_rfl) rfl rfl (by exact hS0) (fun hHeld => ?_)
    refine with_tabW parts_tab12 parts_bits12 (fun HT_ HW_ => ?_)
    generalize w8.drew = wq at hHeld hS0 ⊢
    refine pure_ (i := 0) (N := some 61) (v := ?_) (a' := ?_) #[true, false, false, false, false, false, false, false, false, false, false, false, false, false, false, false, false, false] rfl rfl (any_of HT_.out (by kernel_rfl)) (fun _ _ _ h => h) (Or.inl ⟨by rfl, ?_⟩) ?_ ?_
    rotate_left
    · intro w'
      go_simp
      with_reducible rfl
    rotate_left
    · simp only [Act.put, List.setIfInBounds_toArray, List.set_cons_zero, List.set_cons_succ, i64_w, i32_w]
      rfl
    refine pure_ (i := 1) (N := some 62) (v := ?_) (a' := ?_) #[true, true, false, false, false, false, false, false, false, false, false, false, false, false, false, false, false, false] rfl rfl (any_of HT_.out (by kernel_rfl)) (fun _ _ _ h => h) (Or.inl ⟨by rfl, ?_⟩) ?_ ?_
    rotate_left
    · intro w'
      go_simp
      with_reducible rfl
    rotate_left
    · simp only [Act.put, List.setIfInBounds_toArray, List.set_cons_zero, List.set_cons_succ, i64_w, i32_w]
      rfl
    refine pure_ (i := 2) (N := some 63) (v := ?_) (a' := ?_) #[true, true, true, false, false, false, false, false, false, false, false, false, false, false, false, false, false, false] rfl rfl (any_of HT_.out (by kernel_rfl)) (fun _ _ _ h => h) (Or.inl ⟨by rfl, ?_⟩) ?_ ?_
    rotate_left
    · intro w'
      go_simp
      with_reducible rfl
    rotate_left
    · simp only [Act.put, List.setIfInBounds_toArray, List.set_cons_zero, List.set_cons_succ, i64_w, i32_w]
      rfl
    refine pure_ (i := 3) (N := some 64) (v := ?_) (a' := ?_) #[true, true, true, true, false, false, false, false, false, false, false, false, false, false, false, false, false, false] rfl rfl (any_of HT_.out (by kernel_rfl)) (fun _ _ _ h => h) (Or.inl ⟨by rfl, ?_⟩) ?_ ?_
    rotate_left
    · intro w'
      go_simp
      with_reducible rfl
    rotate_left
    · simp only [Act.put, List.setIfInBounds_toArray, List.set_cons_zero, List.set_cons_succ, i64_w, i32_w]
      rfl
    refine pure_ (i := 5) (N := some 66) (v := ?_) (a' := ?_) #[true, true, true, true, false, true, false, false, false, false, false, false, false, false, false, false, false, false] rfl rfl (any_of HT_.out (by kernel_rfl)) (fun _ _ _ h => h) (Or.inl ⟨by rfl, ?_⟩) ?_ ?_
    rotate_left
    · intro w'
      go_simp
      with_reducible rfl
    rotate_left
    · simp only [Act.put, List.setIfInBounds_toArray, List.set_cons_zero, List.set_cons_succ, i64_w, i32_w]
      rfl
    refine pure_ (i := 8) (N := some 69) (v := ?_) (a' := ?_) #[true, true, true, true, false, true, false, false, true, false, false, false, false, false, false, false, false, false] rfl rfl (any_of HT_.out (by kernel_rfl)) (fun _ _ _ h => h) (Or.inl ⟨by rfl, ?_⟩) ?_ ?_
    rotate_left
    · intro w'
      go_simp
      with_reducible rfl
    rotate_left
    · simp only [Act.put, List.setIfInBounds_toArray, List.set_cons_zero, List.set_cons_succ, i64_w, i32_w]
      rfl
    refine pure_ (i := 10) (N := some 71) (v := ?_) (a' := ?_) #[true, true, true, true, false, true, false, false, true, false, true, false, false, false, false, false, false, false] rfl rfl (any_of HT_.out (by kernel_rfl)) (fun _ _ _ h => h) (Or.inl ⟨by rfl, ?_⟩) ?_ ?_
    rotate_left
    · intro w'
      go_simp
      with_reducible rfl
    rotate_left
    · simp only [Act.put, List.setIfInBounds_toArray, List.set_cons_zero, List.set_cons_succ, i64_w, i32_w]
      rfl
    refine take_ (i := 4) (N := some 65) (v := ?_) (a' := ?_) #[true, true, true, true, true, true, false, false, true, false, true, false, false, false, false, false, false, false] rfl rfl (take_ofW HT_.out HW_.out (by kernel_rfl)) (fun _ _ _ h => h) (Or.inl ⟨by rfl, ?_⟩) hHeld ?_ ?_
    rotate_left
    · intro w' hSt
      have hcv : (convert 30 9 (.slice X1 x.length k1)).run Tryd.prog w' = .ok (.string (strOfNums x)) w' := Kd.C_string Tryd.underlying30 Tryd.underlying5 Tryd.underlying9 (Kd.C_below HC1.out hSt)
      go_simp
      with_reducible rfl
    rotate_left
    · simp only [Act.put, List.setIfInBounds_toArray, List.set_cons_zero, List.set_cons_succ, i64_w, i32_w]
      rfl
    refine take_ (i := 6) (N := some 67) (v := ?_) (a' := ?_) #[true, true, true, true, true, true, true, false, true, false, true, false, false, false, false, false, false, false] rfl rfl (take_ofW HT_.out HW_.out (by kernel_rfl)) (fun _ _ _ h => h) (Or.inl ⟨by rfl, ?_⟩) hHeld ?_ ?_
    rotate_left
    · intro w' hSt
      have hcv : (convert 30 9 (.slice X3 z.length k3)).run Tryd.prog w' = .ok (.string (strOfNums z)) w' := Kd.C_string Tryd.underlying30 Tryd.underlying5 Tryd.underlying9 (Kd.C_below HC3.out hSt)
      go_simp
      with_reducible rfl
    rotate_left
    · simp only [Act.put, List.setIfInBounds_toArray, List.set_cons_zero, List.set_cons_succ, i64_w, i32_w]
      rfl
    refine take_ (i := 9) (N := some 70) (v := ?_) (a' := ?_) #[true, true, true, true, true, true, true, false, true, true, true, false, false, false, false, false, false, false] rfl rfl (take_ofW HT_.out HW_.out (by kernel_rfl)) (fun _ _ _ h => h) (Or.inl ⟨by rfl, ?_⟩) hHeld ?_ ?_
    rotate_left
    · intro w' hSt
      obtain ⟨o0, o1, o2⟩ := (HX8.out.below hSt).cu
      go_simp
      with_reducible rfl
    rotate_left
    · simp only [Act.put, List.setIfInBounds_toArray, List.set_cons_zero, List.set_cons_succ, i64_w, i32_w]
      rfl
    refine pure_ (i := 7) (N := some 68) (v := ?_) (a' := ?_) #[true, true, true, true, true, true, true, true, true, true, true, false, false, false, false, false, false, false] rfl rfl (any_of HT_.out (by kernel_rfl)) (fun _ _ _ h => h) (Or.inl ⟨by rfl, ?_⟩) ?_ ?_
    rotate_left
    · intro w'
      go_simp
      with_reducible rfl
    rotate_left
    · simp only [Act.put, List.setIfInBounds_toArray, List.set_cons_zero, List.set_cons_succ, i64_w, i32_w]
      rfl
    refine one_ (i := 11) (N := some 72) #[true, true, true, true, true, true, true, true, true, true, true, true, false, false, false, false, false, false] rfl rfl (one_of HT_.out (by kernel_rfl)) (by decide) (fun K hK => ?_)
    refine goes_ Tryd.func17 (by kernel_rfl) rfl #[.slice A p.length c, .slice A3 q.length c3] (by rfl) rfl rfl (by (try simp only [List.map_toArray, List.map_cons, List.map_nil]); first | done | rfl) ?_
    refine (Prog6.psame_calls A A3 c c3 p q _ (HA8.out.below hHeld).hp (Kd.C_below HQ8.out hHeld) HA8.out.lp hqc).mono ?_
    rintro e wk ⟨rfl, hb⟩
    refine ⟨_, rfl, ?_⟩
    rw [hd.out]
    have hS1 := below_step hHeld hb
    clear hb
    refine hK.out _ _ (by exact hS1) (fun hHeld => ?_)
    clear hK K
    refine norm_ (a' := ?_) ?_ ?_
    rotate_left
    · first
      | (show Act.put _ (some 72) _ = _; simp only [Act.put, List.setIfInBounds_toArray, List.set_cons_zero, List.set_cons_succ, i64_w, i32_w]; rfl)
      | rfl
    refine pure_ (i := 12) (N := some 73) (v := ?_) (a' := ?_) #[true, true, true, true, true, true, true, true, true, true, true, true, true, false, false, false, false, false] rfl rfl (any_of HT_.out (by kernel_rfl)) (fun _ _ _ h => h) (Or.inl ⟨by rfl, ?_⟩) ?_ ?_
    rotate_left
    · intro w'
      go_simp
      with_reducible rfl
    rotate_left
    · simp only [Act.put, List.setIfInBounds_toArray, List.set_cons_zero, List.set_cons_succ, i64_w, i32_w]
      rfl
    refine pure_ (i := 13) (N := some 74) (v := ?_) (a' := ?_) #[true, true, true, true, true, true, true, true, true, true, true, true, true, true, false, false, false, false] rfl rfl (any_of HT_.out (by kernel_rfl)) (fun _ _ _ h => h) (Or.inl ⟨by rfl, ?_⟩) ?_ ?_
    rotate_left
    · intro w'
      go_simp
      with_reducible rfl
    rotate_left
    · simp only [Act.put, List.setIfInBounds_toArray, List.set_cons_zero, List.set_cons_succ, i64_w, i32_w]
      rfl
    refine pure_ (i := 14) (N := some 75) (v := ?_) (a' := ?_) #[true, true, true, true, true, true, true, true, true, true, true, true, true, true, true, false, false, false] rfl rfl (any_of HT_.out (by kernel_rfl)) (fun _ _ _ h => h) (Or.inl ⟨by rfl, ?_⟩) ?_ ?_
    rotate_left
    · intro w'
      go_simp
      with_reducible rfl
    rotate_left
    · simp only [Act.put, List.setIfInBounds_toArray, List.set_cons_zero, List.set_cons_succ, i64_w, i32_w]
      rfl
    refine one_ (i := 15) (N := some 76) #[true, true, true, true, true, true, true, true, true, true, true, true, true, true, true, true, false, false] rfl rfl (one_of HT_.out (by kernel_rfl)) (by decide) (fun K hK => ?_)
    refine goes_ Tryd.func7 (by kernel_rfl) rfl #[] (by rfl) rfl rfl (by (try simp only [List.map_toArray, List.map_cons, List.map_nil]); first | done | rfl) ?_
    refine (known_calls _ (HA8.out.below hHeld).t6 (HA8.out.below hHeld).ts).mono ?_
    rintro e wk ⟨rfl, hb⟩
    refine ⟨_, rfl, ?_⟩
    have hS1 := below_step hHeld hb
    clear hb
    refine hK.out _ _ (by exact hS1) (fun hHeld => ?_)
    clear hK K
    refine norm_ (a' := ?_) ?_ ?_
    rotate_left
    · first
      | (show Act.put _ (some 76) _ = _; simp only [Act.put, List.setIfInBounds_toArray, List.set_cons_zero, List.set_cons_succ, i64_w, i32_w]; rfl)
      | rfl
    refine pure_ (i := 16) (N := some 77) (v := ?_) (a' := ?_) #[true, true, true, true, true, true, true, true, true, true, true, true, true, true, true, true, true, false] rfl rfl (any_of HT_.out (by kernel_rfl)) (fun _ _ _ h => h) (Or.inl ⟨by rfl, ?_⟩) ?_ ?_
    rotate_left
    · intro w'
      go_simp
      with_reducible rfl
    rotate_left
    · simp only [Act.put, List.setIfInBounds_toArray, List.set_cons_zero, List.set_cons_succ, i64_w, i32_w]
      rfl
    refine pure_ (i := 17) (N := some 6) (v := ?_) (a' := ?_) #[true, true, true, true, true, true, true, true, true, true, true, true, true, true, true, true, true, true] rfl rfl (any_of HT_.out (by kernel_rfl)) (fun _ _ _ h => h) (Or.inl ⟨by rfl, ?_⟩) ?_ ?_
    rotate_left
    · intro w'
      go_simp
      with_reducible rfl
    rotate_left
    · simp only [Act.put, List.setIfInBounds_toArray, List.set_cons_zero, List.set_cons_succ, i64_w, i32_w]
      rfl
    refine done_ (done_of HT_.out (by kernel_rfl)) ?_
    go_wp2
    go_ret
    exact ⟨rfl, below_step HB8.out hHeld⟩
  · rw [decide_eq_false (fun h => hFG (HEQ.out.1 h))] at hse
    have e1 : ((G : Int) == (F : Int)) = false := by rw [beq_eq_false_iff_ne]; omega
    have e2 : (G == F) = false := by rw [beq_eq_false_iff_ne]; omega
    go_upto_region 12 with (fail)
    clear cv1 cv2 hse o0 o1 o2 e1 e2 HC2
    have hS0 : Below w8.heap.size w8 w8.drew := below_drew1 (Below.refl _ _)
    rcases hm : mayA q t (F : Int) with _ | _
    · obtain rfl := HN3.out hm
      clear HY3 HN3 hm
      refine start_ (n := 18) (S := fun w' => Below w8.heap.size w8 w') (ds := []) #[false, false, false, false, false, false, false, false, false, false, false, false, false, false, false, false, false, false] (by kernel_rfl) rfl rfl (by exact hS0) (fun hHeld => ?_)
      refine with_tabW parts_tab12 parts_bits12 (fun HT_ HW_ => ?_)
      generalize w8.drew = wq at hHeld hS0 ⊢
      refine pure_ (i := 0) (N := some 61) (v := ?_) (a' := ?_) #[true, false, false, false, false, false, false, false, false, false, false, false, false, false, false, false, false, false] rfl rfl (any_of HT_.out (by kernel_rfl)) (fun _ _ _ h => h) (Or.inl ⟨by rfl, ?_⟩) ?_ ?_
      rotate_left
      · intro w'
        go_simp
        with_reducible rfl
      rotate_left
      · simp only [Act.put, List.setIfInBounds_toArray, List.set_cons_zero, List.set_cons_succ, i64_w, i32_w]
        rfl
      refine pure_ (i := 1) (N := some 62) (v := ?_) (a' := ?_) #[true, true, false, false, false, false, false, false, false, false, false, false, false, false, false, false, false, false] rfl rfl (any_of HT_.out (by kernel_rfl)) (fun _ _ _ h => h) (Or.inl ⟨by rfl, ?_⟩) ?_ ?_
      rotate_left
      · intro w'
        go_simp
        with_reducible rfl
      rotate_left
      · simp only [Act.put, List.setIfInBounds_toArray, List.set_cons_zero, List.set_cons_succ, i64_w, i32_w]
        rfl
      refine pure_ (i := 2) (N := some 63) (v := ?_) (a' := ?_) #[true, true, true, false, false, false, false, false, false, false, false, false, false, false, false, false, false, false] rfl rfl (any_of HT_.out (by kernel_rfl)) (fun _ _ _ h => h) (Or.inl ⟨by rfl, ?_⟩) ?_ ?_
      rotate_left
      · intro w'
        go_simp
        with_reducible rfl
      rotate_left
      · simp only [Act.put, List.setIfInBounds_toArray, List.set_cons_zero, List.set_cons_succ, i64_w, i32_w]
        rfl
      refine pure_ (i := 3) (N := some 64) (v := undef) (a' := ?_) #[true, true, true, true, false, false, false, false, false, false, false, false, false, false, false, false, false, false] rfl rfl (any_of HT_.out (by kernel_rfl)) (fun _ _ _ h => h) (Or.inr ⟨by rfl, rfl⟩) ?_ ?_
      rotate_left
      · simp only [Act.put, List.setIfInBounds_toArray, List.set_cons_zero, List.set_cons_succ, i64_w, i32_w]
        rfl
      refine pure_ (i := 4) (N := some 65) (v := undef) (a' := ?_) #[true, true, true, true, true, false, false, false, false, false, false, false, false, false, false, false, false, false] rfl rfl (any_of HT_.out (by kernel_rfl)) (fun _ _ _ h => h) (Or.inr ⟨by rfl, rfl⟩) ?_ ?_
      rotate_left
      · simp only [Act.put, List.setIfInBounds_toArray, List.set_cons_zero, List.set_cons_succ, i64_w, i32_w]
        rfl
      refine pure_ (i := 5) (N := some 66) (v := undef) (a' := ?_) #[true, true, true, true, true, true, false, false, false, false, false, false, false, false, false, false, false, false] rfl rfl (any_of HT_.out (by kernel_rfl)) (fun _ _ _ h => h) (Or.inr ⟨by rfl, rfl⟩) ?_ ?_
      rotate_left
      · simp only [Act.put, List.setIfInBounds_toArray, List.set_cons_zero, List.set_cons_succ, i64_w, i32_w]
        rfl
      refine pure_ (i := 6) (N := some 67) (v := undef) (a' := ?_) #[true, true, true, true, true, true, true, false, false, false, false, false, false, false, false, false, false, false] rfl rfl (any_of HT_.out (by kernel_rfl)) (fun _ _ _ h => h) (Or.inr ⟨by rfl, rfl⟩) ?_ ?_
      rotate_left
      · simp only [Act.put, List.setIfInBounds_toArray, List.set_cons_zero, List.set_cons_succ, i64_w, i32_w]
        rfl
      refine pure_ (i := 7) (N := some 68) (v := undef) (a' := ?_) #[true, true, true, true, true, true, true, true, false, false, false, false, false, false, false, false, false, false] rfl rfl (any_of HT_.out (by kernel_rfl)) (fun _ _ _ h => h) (Or.inr ⟨by rfl, rfl⟩) ?_ ?_
      rotate_left
      · simp only [Act.put, List.setIfInBounds_toArray, List.set_cons_zero, List.set_cons_succ, i64_w, i32_w]
        rfl
      refine pure_ (i := 8) (N := some 69) (v := undef) (a' := ?_) #[true, true, true, true, true, true, true, true, true, false, false, false, false, false, false, false, false, false] rfl rfl (any_of HT_.out (by kernel_rfl)) (fun _ _ _ h => h) (Or.inr ⟨by rfl, rfl⟩) ?_ ?_
      rotate_left
      · simp only [Act.put, List.setIfInBounds_toArray, List.set_cons_zero, List.set_cons_succ, i64_w, i32_w]
        rfl
      refine pure_ (i := 9) (N := some 70) (v := undef) (a' := ?_) #[true, true, true, true, true, true, true, true, true, true, false, false, false, false, false, false, false, false] rfl rfl (any_of HT_.out (by kernel_rfl)) (fun _ _ _ h => h) (Or.inr ⟨by rfl, rfl⟩) ?_ ?_
      rotate_left
      · simp only [Act.put, List.setIfInBounds_toArray, List.set_cons_zero, List.set_cons_succ, i64_w, i32_w]
        rfl
      refine pure_ (i := 10) (N := some 71) (v := undef) (a' := ?_) #[true, true, true, true, true, true, true, true, true, true, true, false, false, false, false, false, false, false] rfl rfl (any_of HT_.out (by kernel_rfl)) (fun _ _ _ h => h) (Or.inr ⟨by rfl, rfl⟩) ?_ ?_
      rotate_left
      · simp only [Act.put, List.setIfInBounds_toArray, List.set_cons_zero, List.set_cons_succ, i64_w, i32_w]
        rfl
      refine pure_ (i := 11) (N := some 72) (v := undef) (a' := ?_) #[true, true, true, true, true, true, true, true, true, true, true, true, false, false, false, false, false, false] rfl rfl (any_of HT_.out (by kernel_rfl)) (fun _ _ _ h => h) (Or.inr ⟨by rfl, rfl⟩) ?_ ?_
      rotate_left
      · simp only [Act.put, List.setIfInBounds_toArray, List.set_cons_zero, List.set_cons_succ, i64_w, i32_w]
        rfl
      refine pure_ (i := 12) (N := some 73) (v := undef) (a' := ?_) #[true, true, true, true, true, true, true, true, true, true, true, true, true, false, false, false, false, false] rfl rfl (any_of HT_.out (by kernel_rfl)) (fun _ _ _ h => h) (Or.inr ⟨by rfl, rfl⟩) ?_ ?_
      rotate_left
      · simp only [Act.put, List.setIfInBounds_toArray, List.set_cons_zero, List.set_cons_succ, i64_w, i32_w]
        rfl
      refine pure_ (i := 13) (N := some 74) (v := ?_) (a' := ?_) #[true, true, true, true, true, true, true, true, true, true, true, true, true, true, false, false, false, false] rfl rfl (any_of HT_.out (by kernel_rfl)) (fun _ _ _ h => h) (Or.inl ⟨by rfl, ?_⟩) ?_ ?_
      rotate_left
      · intro w'
        go_simp
        with_reducible rfl
      rotate_left
      · simp only [Act.put, List.setIfInBounds_toArray, List.set_cons_zero, List.set_cons_succ, i64_w, i32_w]
        rfl
      refine pure_ (i := 14) (N := some 75) (v := ?_) (a' := ?_) #[true, true, true, true, true, true, true, true, true, true, true, true, true, true, true, false, false, false] rfl rfl (any_of HT_.out (by kernel_rfl)) (fun _ _ _ h => h) (Or.inl ⟨by rfl, ?_⟩) ?_ ?_
      rotate_left
      · intro w'
        go_simp
        with_reducible rfl
      rotate_left
      · simp only [Act.put, List.setIfInBounds_toArray, List.set_cons_zero, List.set_cons_succ, i64_w, i32_w]
        rfl
      refine one_ (i := 15) (N := some 76) #[true, true, true, true, true, true, true, true, true, true, true, true, true, true, true, true, false, false] rfl rfl (one_of HT_.out (by kernel_rfl)) (by decide) (fun K hK => ?_)
      refine goes_ Tryd.func7 (by kernel_rfl) rfl #[] (by rfl) rfl rfl (by (try simp only [List.map_toArray, List.map_cons, List.map_nil]); first | done | rfl) ?_
      refine (known_calls _ (HA8.out.below hHeld).t6 (HA8.out.below hHeld).ts).mono ?_
      rintro e wk ⟨rfl, hb⟩
      refine ⟨_, rfl, ?_⟩
      have hS1 := below_step hHeld hb
      clear hb
      refine hK.out _ _ (by exact hS1) (fun hHeld => ?_)
      clear hK K
      refine norm_ (a' := ?_) ?_ ?_
      rotate_left
      · first
        | (show Act.put _ (some 76) _ = _; simp only [Act.put, List.setIfInBounds_toArray, List.set_cons_zero, List.set_cons_succ, i64_w, i32_w]; rfl)
        | rfl
      refine pure_ (i := 16) (N := some 77) (v := ?_) (a' := ?_) #[true, true, true, true, true, true, true, true, true, true, true, true, true, true, true, true, true, false] rfl rfl (any_of HT_.out (by kernel_rfl)) (fun _ _ _ h => h) (Or.inl ⟨by rfl, ?_⟩) ?_ ?_
      rotate_left
      · intro w'
        go_simp
        with_reducible rfl
      rotate_left
      · simp only [Act.put, List.setIfInBounds_toArray, List.set_cons_zero, List.set_cons_succ, i64_w, i32_w]
        rfl
      refine pure_ (i := 17) (N := some 6) (v := ?_) (a' := ?_) #[true, true, true, true, true, true, true, true, true, true, true, true, true, true, true, true, true, true] rfl rfl (any_of HT_.out (by kernel_rfl)) (fun _ _ _ h => h) (Or.inl ⟨by rfl, ?_⟩) ?_ ?_
      rotate_left
      · intro w'
        go_simp
        with_reducible rfl
      rotate_left
      · simp only [Act.put, List.setIfInBounds_toArray, List.set_cons_zero, List.set_cons_succ, i64_w, i32_w]
        rfl
      refine done_ (done_of HT_.out (by kernel_rfl)) ?_
      go_wp2
      go_ret
      exact ⟨rfl, below_step HB8.out hHeld⟩
    obtain ⟨rfl, _, _, hn3, hk3, _⟩ := HY3.out hm
    have HC3 := Aside0.mk (HY3.out hm).2.2.2.2.2
    have hmq : mayP q = true := by unfold mayA at hm; simp only [Bool.and_eq_true] at hm; exact hm.1.1.1
    clear HY3 HN3 hm
    rw [Int.toNat_natCast] at HC3 hn3
    have HB3 := Aside0.mk (actB_bytes hmq t F (by omega))
    have HPQ := Aside0.mk (show actB p t F = actB q t F ↔ p = q from actB_prog hmp hmq)
    obtain ⟨z, hz⟩ : ∃ z, actB q t F = z := ⟨_, rfl⟩
    rw [hz] at HC3 hn3 HB3 HPQ
    rw [HSX.out] at HPQ
    subst hn3
    clear hz
    have hsp := Sha.str_eqB HB1.out HB3.out
    obtain ⟨d, hd⟩ : ∃ d, decide (p = q) = d := ⟨_, rfl⟩
    rw [show decide (x = z) = decide (p = q) from by rw [decide_eq_decide]; exact HPQ.out, hd] at hsp
    replace hd := Aside0.mk hd
    refine start_ (n := 18) (S := fun w' => Below w8.heap.size w8 w') (ds := []) #[false, false, false, false, false, false, false, false, false, false, false, false, false, false, false, false, false, false] (by kernel_rfl) rfl rfl (by exact hS0) (fun hHeld => ?_)
    refine with_tabW parts_tab12 parts_bits12 (fun HT_ HW_ => ?_)
    generalize w8.drew = wq at hHeld hS0 ⊢
    refine pure_ (i := 0) (N := some 61) (v := ?_) (a' := ?_) #[true, false, false, false, false, false, false, false, false, false, false, false, false, false, false, false, false, false] rfl rfl (any_of HT_.out (by kernel_rfl)) (fun _ _ _ h => h) (Or.inl ⟨by rfl, ?_⟩) ?_ ?_
    rotate_left
    · intro w'
      go_simp
      with_reducible rfl
    rotate_left
    · simp only [Act.put, List.setIfInBounds_toArray, List.set_cons_zero, List.set_cons_succ, i64_w, i32_w]
      rfl
    refine pure_ (i := 1) (N := some 62) (v := ?_) (a' := ?_) #[true, true, false, false, false, false, false, false, false, false, false, false, false, false, false, false, false, false] rfl rfl (any_of HT_.out (by kernel_rfl)) (fun _ _ _ h => h) (Or.inl ⟨by rfl, ?_⟩) ?_ ?_
    rotate_left
    · intro w'
      go_simp
      with_reducible rfl
    rotate_left
    · simp only [Act.put, List.setIfInBounds_toArray, List.set_cons_zero, List.set_cons_succ, i64_w, i32_w]
      rfl
    refine pure_ (i := 2) (N := some 63) (v := ?_) (a' := ?_) #[true, true, true, false, false, false, false, false, false, false, false, false, false, false, false, false, false, false] rfl rfl (any_of HT_.out (by kernel_rfl)) (fun _ _ _ h => h) (Or.inl ⟨by rfl, ?_⟩) ?_ ?_
    rotate_left
    · intro w'
      go_simp
      with_reducible rfl
    rotate_left
    · simp only [Act.put, List.setIfInBounds_toArray, List.set_cons_zero, List.set_cons_succ, i64_w, i32_w]
      rfl
    refine pure_ (i := 3) (N := some 64) (v := ?_) (a' := ?_) #[true, true, true, true, false, false, false, false, false, false, false, false, false, false, false, false, false, false] rfl rfl (any_of HT_.out (by kernel_rfl)) (fun _ _ _ h => h) (Or.inl ⟨by rfl, ?_⟩) ?_ ?_
    rotate_left
    · intro w'
      go_simp
      with_reducible rfl
    rotate_left
    · simp only [Act.put, List.setIfInBounds_toArray, List.set_cons_zero, List.set_cons_succ, i64_w, i32_w]
      rfl
    refine pure_ (i := 5) (N := some 66) (v := ?_) (a' := ?_) #[true, true, true, true, false, true, false, false, false, false, false, false, false, false, false, false, false, false] rfl rfl (any_of HT_.out (by kernel_rfl)) (fun _ _ _ h => h) (Or.inl ⟨by rfl, ?_⟩) ?_ ?_
    rotate_left
    · intro w'
      go_simp
      with_reducible rfl
    rotate_left
    · simp only [Act.put, List.setIfInBounds_toArray, List.set_cons_zero, List.set_cons_succ, i64_w, i32_w]
      rfl
    refine pure_ (i := 8) (N := some 69) (v := ?_) (a' := ?_) #[true, true, true, true, false, true, false, false, true, false, false, false, false, false, false, false, false, false] rfl rfl (any_of HT_.out (by kernel_rfl)) (fun _ _ _ h => h) (Or.inl ⟨by rfl, ?_⟩) ?_ ?_
    rotate_left
    · intro w'
      go_simp
      with_reducible rfl
    rotate_left
    · simp only [Act.put, List.setIfInBounds_toArray, List.set_cons_zero, List.set_cons_succ, i64_w, i32_w]
      rfl
    refine pure_ (i := 10) (N := some 71) (v := ?_) (a' := ?_) #[true, true, true, true, false, true, false, false, true, false, true, false, false, false, false, false, false, false] rfl rfl (any_of HT_.out (by kernel_rfl)) (fun _ _ _ h => h) (Or.inl ⟨by rfl, ?_⟩) ?_ ?_
    rotate_left
    · intro w'
      go_simp
      with_reducible rfl
    rotate_left
    · simp only [Act.put, List.setIfInBounds_toArray, List.set_cons_zero, List.set_cons_succ, i64_w, i32_w]
      rfl
    refine take_ (i := 4) (N := some 65) (v := ?_) (a' := ?_) #[true, true, true, true, true, true, false, false, true, false, true, false, false, false, false, false, false, false] rfl rfl (take_ofW HT_.out HW_.out (by kernel_rfl)) (fun _ _ _ h => h) (Or.inl ⟨by rfl, ?_⟩) hHeld ?_ ?_
    rotate_left
    · intro w' hSt
      have hcv : (convert 30 9 (.slice X1 x.length k1)).run Tryd.prog w' = .ok (.string (strOfNums x)) w' := Kd.C_string Tryd.underlying30 Tryd.underlying5 Tryd.underlying9 (Kd.C_below HC1.out hSt)
      go_simp
      with_reducible rfl
    rotate_left
    · simp only [Act.put, List.setIfInBounds_toArray, List.set_cons_zero, List.set_cons_succ, i64_w, i32_w]
      rfl
    refine take_ (i := 6) (N := some 67) (v := ?_) (a' := ?_) #[true, true, true, true, true, true, true, false, true, false, true, false, false, false, false, false, false, false] rfl rfl (take_ofW HT_.out HW_.out (by kernel_rfl)) (fun _ _ _ h => h) (Or.inl ⟨by rfl, ?_⟩) hHeld ?_ ?_
    rotate_left
    · intro w' hSt
      have hcv : (convert 30 9 (.slice X3 z.length k3)).run Tryd.prog w' = .ok (.string (strOfNums z)) w' := Kd.C_string Tryd.underlying30 Tryd.underlying5 Tryd.underlying9 (Kd.C_below HC3.out hSt)
      go_simp
      with_reducible rfl
    rotate_left
    · simp only [Act.put, List.setIfInBounds_toArray, List.set_cons_zero, List.set_cons_succ, i64_w, i32_w]
      rfl
    refine take_ (i := 9) (N := some 70) (v := ?_) (a' := ?_) #[true, true, true, true, true, true, true, false, true, true, true, false, false, false, false, false, false, false] rfl rfl (take_ofW HT_.out HW_.out (by kernel_rfl)) (fun _ _ _ h => h) (Or.inl ⟨by rfl, ?_⟩) hHeld ?_ ?_
    rotate_left
    · intro w' hSt
      obtain ⟨o0, o1, o2⟩ := (HX8.out.below hSt).cu
      go_simp
      with_reducible rfl
    rotate_left
    · simp only [Act.put, List.setIfInBounds_toArray, List.set_cons_zero, List.set_cons_succ, i64_w, i32_w]
      rfl
    refine pure_ (i := 7) (N := some 68) (v := ?_) (a' := ?_) #[true, true, true, true, true, true, true, true, true, true, true, false, false, false, false, false, false, false] rfl rfl (any_of HT_.out (by kernel_rfl)) (fun _ _ _ h => h) (Or.inl ⟨by rfl, ?_⟩) ?_ ?_
    rotate_left
    · intro w'
      go_simp
      with_reducible rfl
    rotate_left
    · simp only [Act.put, List.setIfInBounds_toArray, List.set_cons_zero, List.set_cons_succ, i64_w, i32_w]
      rfl
    refine one_ (i := 11) (N := some 72) #[true, true, true, true, true, true, true, true, true, true, true, true, false, false, false, false, false, false] rfl rfl (one_of HT_.out (by kernel_rfl)) (by decide) (fun K hK => ?_)
    refine goes_ Tryd.func17 (by kernel_rfl) rfl #[.slice A p.length c, .slice A3 q.length c3] (by rfl) rfl rfl (by (try simp only [List.map_toArray, List.map_cons, List.map_nil]); first | done | rfl) ?_
    refine (Prog6.psame_calls A A3 c c3 p q _ (HA8.out.below hHeld).hp (Kd.C_below HQ8.out hHeld) HA8.out.lp hqc).mono ?_
    rintro e wk ⟨rfl, hb⟩
    refine ⟨_, rfl, ?_⟩
    rw [hd.out]
    have hS1 := below_step hHeld hb
    clear hb
    refine hK.out _ _ (by exact hS1) (fun hHeld => ?_)
    clear hK K
    refine norm_ (a' := ?_) ?_ ?_
    rotate_left
    · first
      | (show Act.put _ (some 72) _ = _; simp only [Act.put, List.setIfInBounds_toArray, List.set_cons_zero, List.set_cons_succ, i64_w, i32_w]; rfl)
      | rfl
    refine pure_ (i := 12) (N := some 73) (v := ?_) (a' := ?_) #[true, true, true, true, true, true, true, true, true, true, true, true, true, false, false, false, false, false] rfl rfl (any_of HT_.out (by kernel_rfl)) (fun _ _ _ h => h) (Or.inl ⟨by rfl, ?_⟩) ?_ ?_
    rotate_left
    · intro w'
      go_simp
      with_reducible rfl
    rotate_left
    · simp only [Act.put, List.setIfInBounds_toArray, List.set_cons_zero, List.set_cons_succ, i64_w, i32_w]
      rfl
    refine pure_ (i := 13) (N := some 74) (v := ?_) (a' := ?_) #[true, true, true, true, true, true, true, true, true, true, true, true, true, true, false, false, false, false] rfl rfl (any_of HT_.out (by kernel_rfl)) (fun _ _ _ h => h) (Or.inl ⟨by rfl, ?_⟩) ?_ ?_
    rotate_left
    · intro w'
      go_simp
      with_reducible rfl
    rotate_left
    · simp only [Act.put, List.setIfInBounds_toArray, List.set_cons_zero, List.set_cons_succ, i64_w, i32_w]
      rfl
    refine pure_ (i := 14) (N := some 75) (v := ?_) (a' := ?_) #[true, true, true, true, true, true, true, true, true, true, true, true, true, true, true, false, false, false] rfl rfl (any_of HT_.out (by kernel_rfl)) (fun _ _ _ h => h) (Or.inl ⟨by rfl, ?_⟩) ?_ ?_
    rotate_left
    · intro w'
      go_simp
      with_reducible rfl
    rotate_left
    · simp only [Act.put, List.setIfInBounds_toArray, List.set_cons_zero, List.set_cons_succ, i64_w, i32_w]
      rfl
    refine one_ (i := 15) (N := some 76) #[true, true, true, true, true, true, true, true, true, true, true, true, true, true, true, true, false, false] rfl rfl (one_of HT_.out (by kernel_rfl)) (by decide) (fun K hK => ?_)
    refine goes_ Tryd.func7 (by kernel_rfl) rfl #[] (by rfl) rfl rfl (by (try simp only [List.map_toArray, List.map_cons, List.map_nil]); first | done | rfl) ?_
    refine (known_calls _ (HA8.out.below hHeld).t6 (HA8.out.below hHeld).ts).mono ?_
    rintro e wk ⟨rfl, hb⟩
    refine ⟨_, rfl, ?_⟩
    have hS1 := below_step hHeld hb
    clear hb
    refine hK.out _ _ (by exact hS1) (fun hHeld => ?_)
    clear hK K
    refine norm_ (a' := ?_) ?_ ?_
    rotate_left
    · first
      | (show Act.put _ (some 76) _ = _; simp only [Act.put, List.setIfInBounds_toArray, List.set_cons_zero, List.set_cons_succ, i64_w, i32_w]; rfl)
      | rfl
    refine pure_ (i := 16) (N := some 77) (v := ?_) (a' := ?_) #[true, true, true, true, true, true, true, true, true, true, true, true, true, true, true, true, true, false] rfl rfl (any_of HT_.out (by kernel_rfl)) (fun _ _ _ h => h) (Or.inl ⟨by rfl, ?_⟩) ?_ ?_
    rotate_left
    · intro w'
      go_simp
      with_reducible rfl
    rotate_left
    · simp only [Act.put, List.setIfInBounds_toArray, List.set_cons_zero, List.set_cons_succ, i64_w, i32_w]
      rfl
    refine pure_ (i := 17) (N := some 6) (v := ?_) (a' := ?_) #[true, true, true, true, true, true, true, true, true, true, true, true, true, true, true, true, true, true] rfl rfl (any_of HT_.out (by kernel_rfl)) (fun _ _ _ h => h) (Or.inl ⟨by rfl, ?_⟩) ?_ ?_
    rotate_left
    · intro w'
      go_simp
      with_reducible rfl
    rotate_left
    · simp only [Act.put, List.setIfInBounds_toArray, List.set_cons_zero, List.set_cons_succ, i64_w, i32_w]
      rfl
    refine done_ (done_of HT_.out (by kernel_rfl)) ?_
    go_wp2
    go_ret
    exact ⟨rfl, below_step HB8.out hHeld⟩
end Go.Proofs.YtlojemnmdakfiaaDoor.Ac
end
section
namespace Go.Proofs.YtlojemnmdakfiaaDoor.Prog6
open Go.RowKit Go.Proofs.YtlojemnmdakfiaaDoorW.PrintWords Go.Proofs.YtlojemnmdakfiaaDoorW.PrintLast Go.Proofs.YtlojemnmdakfiaaDoorW.PrintMore
set_option linter.unusedVariables false
set_option linter.unusedSimpArgs false
def prevB (s : ByteArray) (i : Nat) : Int := if h : 0 < i ∧ i ≤ s.size then ((s[i - 1]'(by omega)).toNat : Nat) else 47
def restP (s : ByteArray) (i : Nat) : Bool := pathFrom s (s.size - i) i (prevB s i)
def lastOk (s : ByteArray) : Bool := if h : 0 < s.size then !((((s[s.size - 1]'(by omega)).toNat : Nat) : Int) == 47) else true
theorem isPath_rest (s : ByteArray) (h1 : 1 ≤ s.size) (h2 : s.size ≤ 40) : isPath s = (lastOk s && restP s 0) := by
  unfold isPath lastOk restP prevB
  rw [dif_pos ⟨h1, h2⟩, dif_pos (by omega), dif_neg (by omega)]
  simp only [Nat.sub_zero]
  cases ((((s[s.size - 1]'(by omega)).toNat : Nat) : Int) == 47) <;> simp
theorem restP_end (s : ByteArray) (i : Nat) (h : s.size ≤ i) : restP s i = true := by
  unfold restP
  rw [show s.size - i = 0 by omega]
  rfl
theorem plain_nat (b : Nat) : plain (b : Int) = (decide (97 ≤ b ∧ b ≤ 122) || decide (48 ≤ b ∧ b ≤ 57) || decide (b = 46) || decide (b = 95) || decide (b = 45)) := by
  unfold plain
  rw [Bool.eq_iff_iff]
  simp only [Bool.or_eq_true, Bool.and_eq_true, decide_eq_true_eq, beq_iff_eq]
  omega
theorem plain_high (r : Int) (h : 128 ≤ r) : plain r = false := by
  unfold plain
  rw [Bool.eq_false_iff]
  simp only [ne_eq, Bool.or_eq_true, Bool.and_eq_true, decide_eq_true_eq, beq_iff_eq]
  omega
theorem restP_step (s : ByteArray) (i : Nat) (h : i < s.size) (b : Nat) (hb : (s[i]'h).toNat = b) :
    restP s i = if plain (b : Int) = true ∨ (b = 47 ∧ prevB s i ≠ 47) then restP s (i + 1) else false := by
  have hp : prevB s (i + 1) = (b : Int) := by
    unfold prevB
    rw [dif_pos ⟨by omega, by omega⟩]
    simp only [Nat.add_sub_cancel, hb]
  have hf : s.size - i = (s.size - (i + 1)) + 1 := by omega
  unfold restP
  rw [hf, pathFrom, if_pos h]
  by_cases ha : b < 128
  · have hd := decode_ascii s i h (by rw [hb]; exact ha)
    rw [hd, hb]
    simp only []
    by_cases hc : plain (b : Int) = true ∨ (b = 47 ∧ prevB s i ≠ 47)
    · rw [if_pos hc, if_neg, hp]
      rintro hx
      simp only [Bool.and_eq_true, Bool.not_eq_true', Bool.or_eq_true, bne_iff_ne, beq_iff_eq, ne_eq] at hx
      rcases hc with hc | ⟨h1, h2⟩
      · rw [hx.1] at hc; cases hc
      · rcases hx.2 with h3 | h3
        · omega
        · exact h2 h3
    · rw [if_neg hc, if_pos]
      simp only [Bool.and_eq_true, Bool.not_eq_true', Bool.or_eq_true, bne_iff_ne, beq_iff_eq, ne_eq]
      refine ⟨by
        cases hq : plain (b : Int)
        · rfl
        · exact absurd (.inl hq) hc, ?_⟩
      by_cases h47 : b = 47
      · right
        exact Classical.byContradiction fun h2 => hc (.inr ⟨h47, h2⟩)
      · left
        omega
  · have hd := (decode_high s i h (by rw [hb]; omega)).1
    generalize hr : (Utf8.decode s i).1 = r at hd ⊢
    have hph := plain_high (r : Int) (by omega)
    have hpb := plain_high (b : Int) (by omega)
    rw [if_pos, if_neg]
    · rintro (h1 | h1)
      · rw [hpb] at h1; cases h1
      · omega
    · simp only [Bool.and_eq_true, Bool.not_eq_true', Bool.or_eq_true, bne_iff_ne, beq_iff_eq, ne_eq]
      exact ⟨hph, .inl (by omega)⟩
set_option maxHeartbeats 1600000 in
set_option maxRecDepth 100000 in
theorem risPath_calls (s : ByteArray) (w : World) (hs63 : s.size ≤ 9223372036854775807) :
    Calls Tryd.prog 47 #[.string s] w fun e w' => e = .returned (.bool (isPath s)) ∧ w' = w := by
  by_cases h1 : s.size < 1
  · have e1 : decide ((s.size : Int) < 1) = true := decide_eq_true (by omega)
    have e1' : decide (s.size < 1) = true := decide_eq_true h1
    have HV := Aside0.mk (show isPath s = false by unfold isPath; rw [dif_neg (by omega)])
    rw [HV.out]
    clear h1
    go_enter Tryd.func47, Tryd.ntmps47
    go_wp2
    go_ret
    exact ⟨rfl, rfl⟩
  have e1 : decide ((s.size : Int) < 1) = false := decide_eq_false (by omega)
  by_cases h2 : s.size > 40
  · have e2 : decide ((s.size : Int) > 40) = true := decide_eq_true (by omega)
    have HV := Aside0.mk (show isPath s = false by unfold isPath; rw [dif_neg (by omega)])
    rw [HV.out]
    clear h1 h2
    go_enter Tryd.func47, Tryd.ntmps47
    go_wp2
    go_ret
    exact ⟨rfl, rfl⟩
  have e2 : decide ((s.size : Int) > 40) = false := decide_eq_false (by omega)
  have HIR := Aside0.mk (isPath_rest s (by omega) (by omega))
  have hs40 : s.size ≤ 40 := by omega
  have hs1 : 1 ≤ s.size := by omega
  generalize isPath s = R at HIR ⊢
  clear hs63 h1 h2
  go_enter Tryd.func47, Tryd.ntmps47
  go_wp2
  clear e1 e2
  go_loopw [3] (fun v wr => ∃ k : Nat, k ≤ s.size ∧ v = .int .i64 (k : Int) ∧ Aside0 (R = (lastOk s && restP s k)) ∧ Aside0 (k = s.size → lastOk s = true) ∧ wr = w) (fun v _ => 41 - (intOf v).toNat)
  case atStart => exact ⟨0, Nat.zero_le _, rfl, HIR, ⟨fun h => by omega⟩, rfl⟩
  case round =>
    obtain ⟨k, hk, rfl, HI, HL, hwr⟩ := hrel
    replace hwr := hwr.symm
    subst hwr
    by_cases hlt : k < s.size
    · obtain ⟨b, hb⟩ : ∃ b, (s[k]'hlt).toNat = b := ⟨_, rfl⟩
      have hb256 : b < 256 := by rw [← hb]; exact (s[k]'hlt).toNat_lt
      have HST := Aside0.mk (restP_step s k hlt b hb)
      have HLS := Aside0.mk (show b ≠ 47 → k + 1 = s.size → lastOk s = true from fun h h2 => by
        unfold lastOk
        rw [dif_pos (by omega)]
        have e : s.size - 1 = k := by omega
        simp only [e, hb]
        rw [Bool.not_eq_true', beq_eq_false_iff_ne]
        omega)
      by_cases h47 : b = 47
      · have q47 : ((b : Int) == 47) = true := by rw [beq_iff_eq]; omega
        by_cases hk0 : k = 0
        · have HE := Aside0.mk (show R = false by
            rw [HI.out, HST.out, if_neg, Bool.and_false]
            rintro (h | h)
            · rw [plain_nat] at h; simp only [Bool.or_eq_true, decide_eq_true_eq] at h; omega
            · apply h.2
              unfold prevB
              rw [dif_neg (by omega)])
          have z1 : ((k : Int) == 0) = true := by rw [beq_iff_eq]; omega
          have z2 : (k == 0) = true := by rw [beq_iff_eq]; exact hk0
          clear h47 hk0
          go_wp2
          go_ret
          exact ⟨by rw [HE.out]; rfl, rfl⟩
        · have z1 : ((k : Int) == 0) = false := by rw [beq_eq_false_iff_ne]; omega
          have z2 : (k == 0) = false := by rw [beq_eq_false_iff_ne]; exact hk0
          by_cases hlast : k + 1 = s.size
          · have HE := Aside0.mk (show R = false by
              have hlo : lastOk s = false := by
                unfold lastOk
                rw [dif_pos (by omega)]
                have e : s.size - 1 = k := by omega
                simp only [e, hb, h47]
                rfl
              rw [HI.out, hlo, Bool.false_and])
            have y1 : ((k : Int) == (s.size : Int) - 1) = true := by rw [beq_iff_eq]; omega
            clear h47 hlast
            go_wp2
            go_ret
            exact ⟨by rw [HE.out]; rfl, rfl⟩
          · have y1 : ((k : Int) == (s.size : Int) - 1) = false := by rw [beq_eq_false_iff_ne]; omega
            obtain ⟨p, hp⟩ : ∃ p, k = p + 1 := ⟨k - 1, by omega⟩
            have hp1 : (k : Int) - 1 = (p : Int) := by omega
            have hps : p < s.size := by omega
            obtain ⟨b2, hb2⟩ : ∃ b2, (s[p]'hps).toNat = b2 := ⟨_, rfl⟩
            have HPV := Aside0.mk (show prevB s k = (b2 : Int) by
              unfold prevB
              rw [dif_pos ⟨by omega, by omega⟩]
              have e : k - 1 = p := by omega
              simp only [e, hb2])
            have HPP := Aside0.mk hp
            by_cases hv : b2 = 47
            · have HE := Aside0.mk (show R = false by
                rw [HI.out, HST.out, if_neg, Bool.and_false]
                rintro (h | h)
                · rw [plain_nat] at h; simp only [Bool.or_eq_true, decide_eq_true_eq] at h; omega
                · apply h.2
                  rw [HPV.out, hv]
                  rfl)
              have v1 : ((b2 : Int) == 47) = true := by rw [beq_iff_eq]; omega
              clear h47 hp hv hk0 hlast
              go_wp2
              go_ret
              exact ⟨by rw [HE.out]; rfl, rfl⟩
            · have v1 : ((b2 : Int) == 47) = false := by rw [beq_eq_false_iff_ne]; omega
              have HN := Aside0.mk (show R = (lastOk s && restP s (k + 1)) by
                rw [HI.out, HST.out, if_pos (.inr ⟨h47, by rw [HPV.out]; omega⟩)])
              have HLL := Aside0.mk (show k + 1 = s.size → lastOk s = true from fun h => absurd h hlast)
              clear h47 hp hv hk0 hlast
              go_wp2
              go_roundw
              case rel => exact ⟨k + 1, by omega, by go_num, HN, HLL, trivial⟩
              case measure => simp [intOf]; omega
      · have q47 : ((b : Int) == 47) = false := by rw [beq_eq_false_iff_ne]; omega
        replace HLS := Aside0.mk (HLS.out h47)
        by_cases cA : 97 ≤ b ∧ b ≤ 122
        · have d41 : decide ((b : Int) < 97) = false := decide_eq_false (by omega)
          have d44 : decide ((b : Int) > 122) = false := decide_eq_false (by omega)
          have HPL := Aside0.mk (show plain (b : Int) = true by rw [plain_nat]; simp only [Bool.or_eq_true, decide_eq_true_eq]; omega)
          clear cA h47
          go_wp2
          go_roundw
          case rel => exact ⟨k + 1, by omega, by go_num, ⟨by rw [HI.out, HST.out, if_pos (.inl HPL.out)]⟩, ⟨fun hk1 => HLS.out hk1⟩, trivial⟩
          case measure => simp [intOf]; omega
        by_cases cB : 48 ≤ b ∧ b ≤ 57
        · have d41 : decide ((b : Int) < 97) = true := decide_eq_true (by omega)
          have d48 : decide ((b : Int) < 48) = false := decide_eq_false (by omega)
          have d51 : decide ((b : Int) > 57) = false := decide_eq_false (by omega)
          have HPL := Aside0.mk (show plain (b : Int) = true by rw [plain_nat]; simp only [Bool.or_eq_true, decide_eq_true_eq]; omega)
          clear cB h47 cA
          go_wp2
          go_roundw
          case rel => exact ⟨k + 1, by omega, by go_num, ⟨by rw [HI.out, HST.out, if_pos (.inl HPL.out)]⟩, ⟨fun hk1 => HLS.out hk1⟩, trivial⟩
          case measure => simp [intOf]; omega
        by_cases cC : b = 46
        · have d41 : decide ((b : Int) < 97) = true := decide_eq_true (by omega)
          have d48 : decide ((b : Int) < 48) = true := decide_eq_true (by omega)
          have x46 : ((b : Int) != 46) = false := by rw [bne_eq_false_iff_eq]; omega
          have HPL := Aside0.mk (show plain (b : Int) = true by rw [plain_nat]; simp only [Bool.or_eq_true, decide_eq_true_eq]; omega)
          clear cC h47 cA cB
          go_wp2
          go_roundw
          case rel => exact ⟨k + 1, by omega, by go_num, ⟨by rw [HI.out, HST.out, if_pos (.inl HPL.out)]⟩, ⟨fun hk1 => HLS.out hk1⟩, trivial⟩
          case measure => simp [intOf]; omega
        by_cases cD : b = 95
        · have d41 : decide ((b : Int) < 97) = true := decide_eq_true (by omega)
          have d48 : decide ((b : Int) < 48) = false := decide_eq_false (by omega)
          have d51 : decide ((b : Int) > 57) = true := decide_eq_true (by omega)
          have n46 : ((b : Int) != 46) = true := by rw [bne_iff_ne]; omega
          have x95 : ((b : Int) != 95) = false := by rw [bne_eq_false_iff_eq]; omega
          have HPL := Aside0.mk (show plain (b : Int) = true by rw [plain_nat]; simp only [Bool.or_eq_true, decide_eq_true_eq]; omega)
          clear cD h47 cA cB cC
          go_wp2
          go_roundw
          case rel => exact ⟨k + 1, by omega, by go_num, ⟨by rw [HI.out, HST.out, if_pos (.inl HPL.out)]⟩, ⟨fun hk1 => HLS.out hk1⟩, trivial⟩
          case measure => simp [intOf]; omega
        by_cases cE : b = 45
        · have d41 : decide ((b : Int) < 97) = true := decide_eq_true (by omega)
          have d48 : decide ((b : Int) < 48) = true := decide_eq_true (by omega)
          have n46 : ((b : Int) != 46) = true := by rw [bne_iff_ne]; omega
          have n95 : ((b : Int) != 95) = true := by rw [bne_iff_ne]; omega
          have x45 : ((b : Int) != 45) = false := by rw [bne_eq_false_iff_eq]; omega
          have HPL := Aside0.mk (show plain (b : Int) = true by rw [plain_nat]; simp only [Bool.or_eq_true, decide_eq_true_eq]; omega)
          clear cE h47 cA cB cC cD
          go_wp2
          go_roundw
          case rel => exact ⟨k + 1, by omega, by go_num, ⟨by rw [HI.out, HST.out, if_pos (.inl HPL.out)]⟩, ⟨fun hk1 => HLS.out hk1⟩, trivial⟩
          case measure => simp [intOf]; omega
        by_cases cF : b < 48
        · have d41 : decide ((b : Int) < 97) = true := decide_eq_true (by omega)
          have d48 : decide ((b : Int) < 48) = true := decide_eq_true (by omega)
          have n46 : ((b : Int) != 46) = true := by rw [bne_iff_ne]; omega
          have n95 : ((b : Int) != 95) = true := by rw [bne_iff_ne]; omega
          have n45 : ((b : Int) != 45) = true := by rw [bne_iff_ne]; omega
          have HNP := Aside0.mk (show ¬ (plain (b : Int) = true ∨ (b = 47 ∧ prevB s k ≠ 47)) by
            rintro (h | h)
            · rw [plain_nat] at h; simp only [Bool.or_eq_true, decide_eq_true_eq] at h; omega
            · omega)
          clear cF h47 cA cB cC cD cE
          go_wp2
          go_ret
          exact ⟨by rw [HI.out, HST.out, if_neg HNP.out, Bool.and_false]; rfl, rfl⟩
        by_cases cG : b < 97
        · have d41 : decide ((b : Int) < 97) = true := decide_eq_true (by omega)
          have d48 : decide ((b : Int) < 48) = false := decide_eq_false (by omega)
          have d51 : decide ((b : Int) > 57) = true := decide_eq_true (by omega)
          have n46 : ((b : Int) != 46) = true := by rw [bne_iff_ne]; omega
          have n95 : ((b : Int) != 95) = true := by rw [bne_iff_ne]; omega
          have n45 : ((b : Int) != 45) = true := by rw [bne_iff_ne]; omega
          have HNP := Aside0.mk (show ¬ (plain (b : Int) = true ∨ (b = 47 ∧ prevB s k ≠ 47)) by
            rintro (h | h)
            · rw [plain_nat] at h; simp only [Bool.or_eq_true, decide_eq_true_eq] at h; omega
            · omega)
          clear cG h47 cA cB cC cD cE cF
          go_wp2
          go_ret
          exact ⟨by rw [HI.out, HST.out, if_neg HNP.out, Bool.and_false]; rfl, rfl⟩
        have d41 : decide ((b : Int) < 97) = false := decide_eq_false (by omega)
        have d44 : decide ((b : Int) > 122) = true := decide_eq_true (by omega)
        have d48 : decide ((b : Int) < 48) = false := decide_eq_false (by omega)
        have d51 : decide ((b : Int) > 57) = true := decide_eq_true (by omega)
        have n46 : ((b : Int) != 46) = true := by rw [bne_iff_ne]; omega
        have n95 : ((b : Int) != 95) = true := by rw [bne_iff_ne]; omega
        have n45 : ((b : Int) != 45) = true := by rw [bne_iff_ne]; omega
        have HNP := Aside0.mk (show ¬ (plain (b : Int) = true ∨ (b = 47 ∧ prevB s k ≠ 47)) by
          rintro (h | h)
          · rw [plain_nat] at h; simp only [Bool.or_eq_true, decide_eq_true_eq] at h; omega
          · omega)
        clear h47 cA cB cC cD cE cF cG
        go_wp2
        go_ret
        exact ⟨by rw [HI.out, HST.out, if_neg HNP.out, Bool.and_false]; rfl, rfl⟩
    · obtain rfl : k = s.size := by omega
      have HE := Aside0.mk (show R = true by rw [HI.out, HL.out rfl, restP_end s _ (Nat.le_refl _)]; rfl)
      have e3 : decide ((s.size : Int) < (s.size : Int)) = false := decide_eq_false (by omega)
      go_wp2
      go_ret
      exact ⟨by rw [HE.out]; rfl, rfl⟩
end Go.Proofs.YtlojemnmdakfiaaDoor.Prog6
end
section
namespace Go.Proofs.YtlojemnmdakfiaaDoor.Prog6
open Go.RowKit Go.Proofs.YtlojemnmdakfiaaDoorW.PrintWords Go.Proofs.YtlojemnmdakfiaaDoorW.PrintLast Go.Proofs.YtlojemnmdakfiaaDoorW.PrintMore
set_option linter.unusedVariables false
set_option linter.unusedSimpArgs false
theorem one_1 (A B C : ByteArray) (N M m : Int) : one (1, A, B, C, N, M) m = (isPath A && (isPath B && (C.toList.isEmpty && ((N == 0) && ((M == 0) && true))))) := by rfl
theorem one_2 (A B C : ByteArray) (N M m : Int) : one (2, A, B, C, N, M) m = (isPath A && (isPath B && (isPath C && ((N == 0) && ((M == 0) && true))))) := by rfl
theorem one_3 (A B C : ByteArray) (N M m : Int) : one (3, A, B, C, N, M) m = (isPath A && (isPath B && (C.toList.isEmpty && ((decide (0 ≤ N) && decide (N ≤ 2000)) && ((decide (0 ≤ M) && decide (M ≤ 2000)) && true))))) := by rfl
theorem one_4 (A B C : ByteArray) (N M m : Int) : one (4, A, B, C, N, M) m = (isPath A && ((decide (B.size ≤ 40) && !B.toList.isEmpty) && (decide (C.size ≤ 40) && ((N == 0) && ((M == 0) && true))))) := by rfl
theorem one_5 (A B C : ByteArray) (N M m : Int) : one (5, A, B, C, N, M) m = (isPath A && (B.toList.isEmpty && (C.toList.isEmpty && ((N == 0) && ((M == 0) && true))))) := by rfl
theorem one_6 (A B C : ByteArray) (N M m : Int) : one (6, A, B, C, N, M) m = (isPath A && (isPath B && (C.toList.isEmpty && ((N == 0) && ((M == 0) && true))))) := by rfl
theorem one_7 (A B C : ByteArray) (N M m : Int) : one (7, A, B, C, N, M) m = (isPath A && (isPath B && (C.toList.isEmpty && ((N == 0) && ((M == 0) && true))))) := by rfl
theorem one_8 (A B C : ByteArray) (N M m : Int) : one (8, A, B, C, N, M) m = (A.toList.isEmpty && (B.toList.isEmpty && (C.toList.isEmpty && ((decide (0 ≤ N) && decide (N ≤ m)) && ((M == 0) && true))))) := by rfl
theorem one_9 (A B C : ByteArray) (N M m : Int) : one (9, A, B, C, N, M) m = (isPath A && (B.toList.isEmpty && (C.toList.isEmpty && ((decide (0 ≤ N) && decide (N ≤ m)) && ((M == 0) && true))))) := by rfl
theorem one_10 (A B C : ByteArray) (N M m : Int) : one (10, A, B, C, N, M) m = (isPath A && (isPath B && (C.toList.isEmpty && ((decide (0 ≤ N) && decide (N ≤ m)) && ((M == 0) && true))))) := by rfl
theorem one_11 (A B C : ByteArray) (N M m : Int) : one (11, A, B, C, N, M) m = (A.toList.isEmpty && (B.toList.isEmpty && (C.toList.isEmpty && ((N == 0) && ((M == 0) && true))))) := by rfl
def ron_T1 : Bool × List (List Nat × List Nat) := (true, [([], []), ([0], [0]), ([1], [1]), ([], []), ([3], [3]), ([4, 2], [4]), ([], []), ([6], [6]), ([7, 5], [7]), ([2, 8, 0, 1, 2], [2]), ([5, 9, 0, 1, 2, 3, 4, 5, 9], [5]), ([8, 10, 0, 1, 2, 3, 4, 5, 6, 7, 8, 9, 10], [8])])
def ron_B1 : List Nat := [0, 1, 3, 0, 8, 31, 0, 64, 255, 511, 1023, 2047]
theorem ron_tab1 : rtab .any (opsOf Tryd.f46 1) = ron_T1 := by kernel_rfl
theorem ron_bits1 : waitsOk ron_T1.2 ron_B1 = true := by kernel_rfl
set_option maxHeartbeats 6400000 in
set_option maxRecDepth 100000 in
theorem rone_calls (o : Int) (A B C : ByteArray) (N M m : Int) (w : World) (hszA : A.size ≤ 9223372036854775807) (hszB : B.size ≤ 9223372036854775807) (hszC : C.size ≤ 9223372036854775807) :
    Calls Tryd.prog 46 #[.agg (cI (o, A, B, C, N, M)), .int .i64 m] w fun e w' => e = .returned (.bool (one (o, A, B, C, N, M) m)) ∧ Below w.heap.size w w' := by
  go_enter Tryd.func46, Tryd.ntmps46
  go_upto_region 1 with (fail)
  have HB := Aside0.mk ((Below.refl w.heap.size w).alloc (Nat.le_refl _) (.cells (cI (o, A, B, C, N, M)) 68 (0, 0)))
  have HX := Aside0.mk (show BoxI (w.alloc (.cells (cI (o, A, B, C, N, M)) 68 (0, 0))) w.heap.size (o, A, B, C, N, M) from heap_new _ _)
  generalize w.alloc _ = wa at HB HX ⊢
  generalize w.heap.size = b at HX ⊢
  go_cut [5, 6, 7] (fun v5 v6 v7 wc => v5 = .bool (isPath A) ∧ v6 = .bool (isPath B) ∧ v7 = .bool (isPath C) ∧ Aside0 (Below wa.heap.size wa wc))
  case first =>
    have hS0 : Below wa.heap.size wa wa.drew := below_drew1 (Below.refl _ _)
    refine start_ (n := 12) (S := fun w' => Below wa.heap.size wa w') (ds := []) #[false, false, false, false, false, false, false, false, false, false, false, false] (by kernel_rfl) rfl rfl (by exact hS0) (fun hHeld => ?_)
    refine with_tabW ron_tab1 ron_bits1 (fun HT_ HW_ => ?_)
    refine pure_ (i := 0) (N := some 9) (v := ?_) (a' := ?_) #[true, false, false, false, false, false, false, false, false, false, false, false] rfl rfl (any_of HT_.out (by kernel_rfl)) (fun _ _ _ h => h) (Or.inl ⟨by rfl, ?_⟩) ?_ ?_
    rotate_left
    · intro w'
      go_simp
      with_reducible rfl
    rotate_left
    · simp only [Act.put, List.setIfInBounds_toArray, List.set_cons_zero, List.set_cons_succ, i64_w, i32_w]
      rfl
    refine pure_ (i := 3) (N := some 12) (v := ?_) (a' := ?_) #[true, false, false, true, false, false, false, false, false, false, false, false] rfl rfl (any_of HT_.out (by kernel_rfl)) (fun _ _ _ h => h) (Or.inl ⟨by rfl, ?_⟩) ?_ ?_
    rotate_left
    · intro w'
      go_simp
      with_reducible rfl
    rotate_left
    · simp only [Act.put, List.setIfInBounds_toArray, List.set_cons_zero, List.set_cons_succ, i64_w, i32_w]
      rfl
    refine pure_ (i := 6) (N := some 15) (v := ?_) (a' := ?_) #[true, false, false, true, false, false, true, false, false, false, false, false] rfl rfl (any_of HT_.out (by kernel_rfl)) (fun _ _ _ h => h) (Or.inl ⟨by rfl, ?_⟩) ?_ ?_
    rotate_left
    · intro w'
      go_simp
      with_reducible rfl
    rotate_left
    · simp only [Act.put, List.setIfInBounds_toArray, List.set_cons_zero, List.set_cons_succ, i64_w, i32_w]
      rfl
    refine take_ (i := 1) (N := some 10) (v := ?_) (a' := ?_) #[true, true, false, true, false, false, true, false, false, false, false, false] rfl rfl (take_ofW HT_.out HW_.out (by kernel_rfl)) (fun _ _ _ h => h) (Or.inl ⟨by rfl, ?_⟩) hHeld ?_ ?_
    rotate_left
    · intro w' hSt
      obtain ⟨b0, b1, b2, b3, b4, b5⟩ := (HX.out.below hSt).cu
      go_simp
      with_reducible rfl
    rotate_left
    · simp only [Act.put, List.setIfInBounds_toArray, List.set_cons_zero, List.set_cons_succ, i64_w, i32_w]
      rfl
    refine take_ (i := 4) (N := some 13) (v := ?_) (a' := ?_) #[true, true, false, true, true, false, true, false, false, false, false, false] rfl rfl (take_ofW HT_.out HW_.out (by kernel_rfl)) (fun _ _ _ h => h) (Or.inl ⟨by rfl, ?_⟩) hHeld ?_ ?_
    rotate_left
    · intro w' hSt
      obtain ⟨b0, b1, b2, b3, b4, b5⟩ := (HX.out.below hSt).cu
      go_simp
      with_reducible rfl
    rotate_left
    · simp only [Act.put, List.setIfInBounds_toArray, List.set_cons_zero, List.set_cons_succ, i64_w, i32_w]
      rfl
    refine take_ (i := 7) (N := some 16) (v := ?_) (a' := ?_) #[true, true, false, true, true, false, true, true, false, false, false, false] rfl rfl (take_ofW HT_.out HW_.out (by kernel_rfl)) (fun _ _ _ h => h) (Or.inl ⟨by rfl, ?_⟩) hHeld ?_ ?_
    rotate_left
    · intro w' hSt
      obtain ⟨b0, b1, b2, b3, b4, b5⟩ := (HX.out.below hSt).cu
      go_simp
      with_reducible rfl
    rotate_left
    · simp only [Act.put, List.setIfInBounds_toArray, List.set_cons_zero, List.set_cons_succ, i64_w, i32_w]
      rfl
    refine one_ (i := 2) (N := some 11) #[true, true, true, true, true, false, true, true, false, false, false, false] rfl rfl (one_of HT_.out (by kernel_rfl)) (by decide) (fun K hK => ?_)
    refine goes_ Tryd.func47 (by kernel_rfl) rfl #[.string A] (by rfl) rfl rfl (by (try simp only [List.map_toArray, List.map_cons, List.map_nil]); first | done | rfl) ?_
    refine (risPath_calls A _ hszA).mono ?_
    rintro e w1 ⟨rfl, rfl⟩
    refine ⟨_, rfl, ?_⟩
    have hS1 := hHeld
    refine hK.out _ _ (by exact hS1) (fun hHeld => ?_)
    clear hK K
    refine norm_ (a' := ?_) ?_ ?_
    rotate_left
    · first
      | (show Act.put _ (some 11) _ = _; simp only [Act.put, List.setIfInBounds_toArray, List.set_cons_zero, List.set_cons_succ, i64_w, i32_w]; rfl)
      | rfl
    refine one_ (i := 5) (N := some 14) #[true, true, true, true, true, true, true, true, false, false, false, false] rfl rfl (one_of HT_.out (by kernel_rfl)) (by decide) (fun K hK => ?_)
    refine goes_ Tryd.func47 (by kernel_rfl) rfl #[.string B] (by rfl) rfl rfl (by (try simp only [List.map_toArray, List.map_cons, List.map_nil]); first | done | rfl) ?_
    refine (risPath_calls B _ hszB).mono ?_
    rintro e w1 ⟨rfl, rfl⟩
    refine ⟨_, rfl, ?_⟩
    have hS1 := hHeld
    refine hK.out _ _ (by exact hS1) (fun hHeld => ?_)
    clear hK K
    refine norm_ (a' := ?_) ?_ ?_
    rotate_left
    · first
      | (show Act.put _ (some 14) _ = _; simp only [Act.put, List.setIfInBounds_toArray, List.set_cons_zero, List.set_cons_succ, i64_w, i32_w]; rfl)
      | rfl
    refine one_ (i := 8) (N := some 17) #[true, true, true, true, true, true, true, true, true, false, false, false] rfl rfl (one_of HT_.out (by kernel_rfl)) (by decide) (fun K hK => ?_)
    refine goes_ Tryd.func47 (by kernel_rfl) rfl #[.string C] (by rfl) rfl rfl (by (try simp only [List.map_toArray, List.map_cons, List.map_nil]); first | done | rfl) ?_
    refine (risPath_calls C _ hszC).mono ?_
    rintro e w1 ⟨rfl, rfl⟩
    refine ⟨_, rfl, ?_⟩
    have hS1 := hHeld
    refine hK.out _ _ (by exact hS1) (fun hHeld => ?_)
    clear hK K
    refine norm_ (a' := ?_) ?_ ?_
    rotate_left
    · first
      | (show Act.put _ (some 17) _ = _; simp only [Act.put, List.setIfInBounds_toArray, List.set_cons_zero, List.set_cons_succ, i64_w, i32_w]; rfl)
      | rfl
    refine pure_ (i := 9) (N := some 5) (v := ?_) (a' := ?_) #[true, true, true, true, true, true, true, true, true, true, false, false] rfl rfl (any_of HT_.out (by kernel_rfl)) (fun _ _ _ h => h) (Or.inl ⟨by rfl, ?_⟩) ?_ ?_
    rotate_left
    · intro w'
      go_simp
      with_reducible rfl
    rotate_left
    · simp only [Act.put, List.setIfInBounds_toArray, List.set_cons_zero, List.set_cons_succ, i64_w, i32_w]
      rfl
    refine pure_ (i := 10) (N := some 6) (v := ?_) (a' := ?_) #[true, true, true, true, true, true, true, true, true, true, true, false] rfl rfl (any_of HT_.out (by kernel_rfl)) (fun _ _ _ h => h) (Or.inl ⟨by rfl, ?_⟩) ?_ ?_
    rotate_left
    · intro w'
      go_simp
      with_reducible rfl
    rotate_left
    · simp only [Act.put, List.setIfInBounds_toArray, List.set_cons_zero, List.set_cons_succ, i64_w, i32_w]
      rfl
    refine pure_ (i := 11) (N := some 7) (v := ?_) (a' := ?_) #[true, true, true, true, true, true, true, true, true, true, true, true] rfl rfl (any_of HT_.out (by kernel_rfl)) (fun _ _ _ h => h) (Or.inl ⟨by rfl, ?_⟩) ?_ ?_
    rotate_left
    · intro w'
      go_simp
      with_reducible rfl
    rotate_left
    · simp only [Act.put, List.setIfInBounds_toArray, List.set_cons_zero, List.set_cons_succ, i64_w, i32_w]
      rfl
    refine done_ (done_of HT_.out (by kernel_rfl)) ?_
    go_wp2
    go_meet
    case rel => exact ⟨rfl, rfl, rfl, ⟨hHeld⟩⟩
  case rest =>
    obtain ⟨rfl, rfl, rfl, HBC⟩ := hcut
    replace HX := Aside0.mk (HX.out.below HBC.out)
    replace HB := Aside0.mk (below_step HB.out HBC.out)
    clear HBC
    obtain ⟨b0, b1, b2, b3, b4, b5⟩ := HX.out.cu
    have HXX := HX
    clear HX
    obtain ⟨pa, hpa⟩ : ∃ pa, isPath A = pa := ⟨_, rfl⟩
    obtain ⟨pb, hpb⟩ : ∃ pb, isPath B = pb := ⟨_, rfl⟩
    obtain ⟨pc, hpc⟩ : ∃ pc, isPath C = pc := ⟨_, rfl⟩
    rw [hpa, hpb, hpc]
    have HPA := Aside0.mk hpa
    have HPB := Aside0.mk hpb
    have HPC := Aside0.mk hpc
    clear hpa hpb hpc
    go_upto_region 2 with (fail)
    go_cut [8] (fun v wd => v = .bool (decide (0 ≤ N) && decide (N ≤ m)) ∧ wd = wc)
    case first =>
      by_cases h0 : 0 ≤ N
      · have e0 : decide (0 ≤ N) = true := decide_eq_true h0
        have e0' : decide (N ≥ 0) = true := decide_eq_true h0
        go_wp2
        go_meet
        case rel => exact ⟨by simp [e0], rfl⟩
      · have e0 : decide (0 ≤ N) = false := decide_eq_false h0
        have e0' : decide (N ≥ 0) = false := decide_eq_false h0
        go_wp2
        go_meet
        case rel => exact ⟨by simp [e0], rfl⟩
    obtain ⟨rfl, rfl⟩ := hcut
    obtain ⟨pl, hpl⟩ : ∃ pl, (decide (0 ≤ N) && decide (N ≤ m)) = pl := ⟨_, rfl⟩
    rw [hpl]
    have HPL := Aside0.mk hpl
    clear hpl
    by_cases ho11 : o = 11
    case pos =>
      subst ho11
      have hE := eqI (11, A, B, C, N, M) (11, ⟨#[]⟩, ⟨#[]⟩, ⟨#[]⟩, 0, 0) wc
      have HONE := Aside0.mk (one_11 A B C N M m)
      go_wp2_with (refine wpList_load_row rfl 68 (.tmp 2) rfl b rfl 68 (cI (11, A, B, C, N, M)) (0, 0) _ HXX.out Tryd.underlying68 rfl infoI6 ?_)
      all_goals go_ret
      all_goals refine ⟨?_, HB.out⟩
      all_goals rw [one_11]
      all_goals clear hE HONE HXX
      all_goals simp [*]
    by_cases ho1 : o = 1
    case pos =>
      subst ho1
      have HONE := Aside0.mk (one_1 A B C N M m)
      rw [HPA.out] at HONE
      rw [HPB.out] at HONE
      cases pa
      case false =>
        go_wp2
        go_ret
        exact ⟨by rw [HONE.out]; simp [*], HB.out⟩
      case true =>
        cases pb
        case false =>
          go_wp2
          go_ret
          exact ⟨by rw [HONE.out]; simp [*], HB.out⟩
        case true =>
          cases hqC : C.toList.isEmpty
          case false =>
            go_wp2
            go_ret
            exact ⟨by rw [HONE.out]; simp [*], HB.out⟩
          case true =>
            cases hqN : (N == 0)
            case false =>
              go_wp2
              go_ret
              exact ⟨by rw [HONE.out]; simp [*], HB.out⟩
            case true =>
              cases hqM : (M == 0)
              case false =>
                go_wp2
                go_ret
                exact ⟨by rw [HONE.out]; simp [*], HB.out⟩
              case true =>
                go_wp2
                go_ret
                exact ⟨by rw [HONE.out]; simp [*], HB.out⟩
    case neg =>
      by_cases ho2 : o = 2
      case pos =>
        subst ho2
        have HONE := Aside0.mk (one_2 A B C N M m)
        rw [HPA.out] at HONE
        rw [HPB.out] at HONE
        rw [HPC.out] at HONE
        cases pa
        case false =>
          go_wp2
          go_ret
          exact ⟨by rw [HONE.out]; simp [*], HB.out⟩
        case true =>
          cases pb
          case false =>
            go_wp2
            go_ret
            exact ⟨by rw [HONE.out]; simp [*], HB.out⟩
          case true =>
            cases pc
            case false =>
              go_wp2
              go_ret
              exact ⟨by rw [HONE.out]; simp [*], HB.out⟩
            case true =>
              cases hqN : (N == 0)
              case false =>
                go_wp2
                go_ret
                exact ⟨by rw [HONE.out]; simp [*], HB.out⟩
              case true =>
                cases hqM : (M == 0)
                case false =>
                  go_wp2
                  go_ret
                  exact ⟨by rw [HONE.out]; simp [*], HB.out⟩
                case true =>
                  go_wp2
                  go_ret
                  exact ⟨by rw [HONE.out]; simp [*], HB.out⟩
      case neg =>
        by_cases ho3 : o = 3
        case pos =>
          subst ho3
          have HONE := Aside0.mk (one_3 A B C N M m)
          rw [HPA.out] at HONE
          rw [HPB.out] at HONE
          cases pa
          case false =>
            go_wp2
            go_ret
            exact ⟨by rw [HONE.out]; simp [*], HB.out⟩
          case true =>
            cases pb
            case false =>
              go_wp2
              go_ret
              exact ⟨by rw [HONE.out]; simp [*], HB.out⟩
            case true =>
              cases hqC : C.toList.isEmpty
              case false =>
                go_wp2
                go_ret
                exact ⟨by rw [HONE.out]; simp [*], HB.out⟩
              case true =>
                by_cases hcN0 : 0 ≤ N
                case neg =>
                  have hdN00 : decide (0 ≤ N) = false := decide_eq_false (by omega)
                  have hdN01 : decide (N ≥ 0) = false := decide_eq_false (by omega)
                  go_wp2
                  go_ret
                  exact ⟨by rw [HONE.out]; simp [*], HB.out⟩
                case pos =>
                  have hdN00 : decide (0 ≤ N) = true := decide_eq_true (by omega)
                  have hdN01 : decide (N ≥ 0) = true := decide_eq_true (by omega)
                  by_cases hcN2 : N ≤ 2000
                  case neg =>
                    have hdN20 : decide (N ≤ 2000) = false := decide_eq_false (by omega)
                    have hdN21 : decide (2000 ≥ N) = false := decide_eq_false (by omega)
                    go_wp2
                    go_ret
                    exact ⟨by rw [HONE.out]; simp [*], HB.out⟩
                  case pos =>
                    have hdN20 : decide (N ≤ 2000) = true := decide_eq_true (by omega)
                    have hdN21 : decide (2000 ≥ N) = true := decide_eq_true (by omega)
                    by_cases hcM0 : 0 ≤ M
                    case neg =>
                      have hdM00 : decide (0 ≤ M) = false := decide_eq_false (by omega)
                      have hdM01 : decide (M ≥ 0) = false := decide_eq_false (by omega)
                      go_wp2
                      go_ret
                      exact ⟨by rw [HONE.out]; simp [*], HB.out⟩
                    case pos =>
                      have hdM00 : decide (0 ≤ M) = true := decide_eq_true (by omega)
                      have hdM01 : decide (M ≥ 0) = true := decide_eq_true (by omega)
                      by_cases hcM2 : M ≤ 2000
                      case neg =>
                        have hdM20 : decide (M ≤ 2000) = false := decide_eq_false (by omega)
                        have hdM21 : decide (2000 ≥ M) = false := decide_eq_false (by omega)
                        go_wp2
                        go_ret
                        exact ⟨by rw [HONE.out]; simp [*], HB.out⟩
                      case pos =>
                        have hdM20 : decide (M ≤ 2000) = true := decide_eq_true (by omega)
                        have hdM21 : decide (2000 ≥ M) = true := decide_eq_true (by omega)
                        go_wp2
                        go_ret
                        exact ⟨by rw [HONE.out]; simp [*], HB.out⟩
        case neg =>
          by_cases ho4 : o = 4
          case pos =>
            subst ho4
            have HONE := Aside0.mk (one_4 A B C N M m)
            rw [HPA.out] at HONE
            cases pa
            case false =>
              go_wp2
              go_ret
              exact ⟨by rw [HONE.out]; simp [*], HB.out⟩
            case true =>
              cases hqBn : B.toList.isEmpty
              case true =>
                go_wp2
                go_ret
                exact ⟨by rw [HONE.out]; simp [*], HB.out⟩
              case false =>
                by_cases hcB40 : B.size ≤ 40
                case neg =>
                  have hdB400 : decide ((B.size : Int) ≤ 40) = false := decide_eq_false (by omega)
                  have hdB401 : decide (B.size ≤ 40) = false := decide_eq_false (by omega)
                  go_wp2
                  go_ret
                  exact ⟨by rw [HONE.out]; simp [*], HB.out⟩
                case pos =>
                  have hdB400 : decide ((B.size : Int) ≤ 40) = true := decide_eq_true (by omega)
                  have hdB401 : decide (B.size ≤ 40) = true := decide_eq_true (by omega)
                  by_cases hcC40 : C.size ≤ 40
                  case neg =>
                    have hdC400 : decide ((C.size : Int) ≤ 40) = false := decide_eq_false (by omega)
                    have hdC401 : decide (C.size ≤ 40) = false := decide_eq_false (by omega)
                    go_wp2
                    go_ret
                    exact ⟨by rw [HONE.out]; simp [*], HB.out⟩
                  case pos =>
                    have hdC400 : decide ((C.size : Int) ≤ 40) = true := decide_eq_true (by omega)
                    have hdC401 : decide (C.size ≤ 40) = true := decide_eq_true (by omega)
                    cases hqN : (N == 0)
                    case false =>
                      go_wp2
                      go_ret
                      exact ⟨by rw [HONE.out]; simp [*], HB.out⟩
                    case true =>
                      cases hqM : (M == 0)
                      case false =>
                        go_wp2
                        go_ret
                        exact ⟨by rw [HONE.out]; simp [*], HB.out⟩
                      case true =>
                        go_wp2
                        go_ret
                        exact ⟨by rw [HONE.out]; simp [*], HB.out⟩
          case neg =>
            by_cases ho5 : o = 5
            case pos =>
              subst ho5
              have HONE := Aside0.mk (one_5 A B C N M m)
              rw [HPA.out] at HONE
              cases pa
              case false =>
                go_wp2
                go_ret
                exact ⟨by rw [HONE.out]; simp [*], HB.out⟩
              case true =>
                cases hqB : B.toList.isEmpty
                case false =>
                  go_wp2
                  go_ret
                  exact ⟨by rw [HONE.out]; simp [*], HB.out⟩
                case true =>
                  cases hqC : C.toList.isEmpty
                  case false =>
                    go_wp2
                    go_ret
                    exact ⟨by rw [HONE.out]; simp [*], HB.out⟩
                  case true =>
                    cases hqN : (N == 0)
                    case false =>
                      go_wp2
                      go_ret
                      exact ⟨by rw [HONE.out]; simp [*], HB.out⟩
                    case true =>
                      cases hqM : (M == 0)
                      case false =>
                        go_wp2
                        go_ret
                        exact ⟨by rw [HONE.out]; simp [*], HB.out⟩
                      case true =>
                        go_wp2
                        go_ret
                        exact ⟨by rw [HONE.out]; simp [*], HB.out⟩
            case neg =>
              by_cases ho6 : o = 6
              case pos =>
                subst ho6
                have HONE := Aside0.mk (one_6 A B C N M m)
                rw [HPA.out] at HONE
                rw [HPB.out] at HONE
                cases pa
                case false =>
                  go_wp2
                  go_ret
                  exact ⟨by rw [HONE.out]; simp [*], HB.out⟩
                case true =>
                  cases pb
                  case false =>
                    go_wp2
                    go_ret
                    exact ⟨by rw [HONE.out]; simp [*], HB.out⟩
                  case true =>
                    cases hqC : C.toList.isEmpty
                    case false =>
                      go_wp2
                      go_ret
                      exact ⟨by rw [HONE.out]; simp [*], HB.out⟩
                    case true =>
                      cases hqN : (N == 0)
                      case false =>
                        go_wp2
                        go_ret
                        exact ⟨by rw [HONE.out]; simp [*], HB.out⟩
                      case true =>
                        cases hqM : (M == 0)
                        case false =>
                          go_wp2
                          go_ret
                          exact ⟨by rw [HONE.out]; simp [*], HB.out⟩
                        case true =>
                          go_wp2
                          go_ret
                          exact ⟨by rw [HONE.out]; simp [*], HB.out⟩
              case neg =>
                by_cases ho7 : o = 7
                case pos =>
                  subst ho7
                  have HONE := Aside0.mk (one_7 A B C N M m)
                  rw [HPA.out] at HONE
                  rw [HPB.out] at HONE
                  cases pa
                  case false =>
                    go_wp2
                    go_ret
                    exact ⟨by rw [HONE.out]; simp [*], HB.out⟩
                  case true =>
                    cases pb
                    case false =>
                      go_wp2
                      go_ret
                      exact ⟨by rw [HONE.out]; simp [*], HB.out⟩
                    case true =>
                      cases hqC : C.toList.isEmpty
                      case false =>
                        go_wp2
                        go_ret
                        exact ⟨by rw [HONE.out]; simp [*], HB.out⟩
                      case true =>
                        cases hqN : (N == 0)
                        case false =>
                          go_wp2
                          go_ret
                          exact ⟨by rw [HONE.out]; simp [*], HB.out⟩
                        case true =>
                          cases hqM : (M == 0)
                          case false =>
                            go_wp2
                            go_ret
                            exact ⟨by rw [HONE.out]; simp [*], HB.out⟩
                          case true =>
                            go_wp2
                            go_ret
                            exact ⟨by rw [HONE.out]; simp [*], HB.out⟩
                case neg =>
                  by_cases ho8 : o = 8
                  case pos =>
                    subst ho8
                    have HONE := Aside0.mk (one_8 A B C N M m)
                    rw [HPL.out] at HONE
                    cases hqA : A.toList.isEmpty
                    case false =>
                      go_wp2
                      go_ret
                      exact ⟨by rw [HONE.out]; simp [*], HB.out⟩
                    case true =>
                      cases hqB : B.toList.isEmpty
                      case false =>
                        go_wp2
                        go_ret
                        exact ⟨by rw [HONE.out]; simp [*], HB.out⟩
                      case true =>
                        cases hqC : C.toList.isEmpty
                        case false =>
                          go_wp2
                          go_ret
                          exact ⟨by rw [HONE.out]; simp [*], HB.out⟩
                        case true =>
                          cases pl
                          case false =>
                            go_wp2
                            go_ret
                            exact ⟨by rw [HONE.out]; simp [*], HB.out⟩
                          case true =>
                            cases hqM : (M == 0)
                            case false =>
                              go_wp2
                              go_ret
                              exact ⟨by rw [HONE.out]; simp [*], HB.out⟩
                            case true =>
                              go_wp2
                              go_ret
                              exact ⟨by rw [HONE.out]; simp [*], HB.out⟩
                  case neg =>
                    by_cases ho9 : o = 9
                    case pos =>
                      subst ho9
                      have HONE := Aside0.mk (one_9 A B C N M m)
                      rw [HPL.out] at HONE
                      rw [HPA.out] at HONE
                      cases pa
                      case false =>
                        go_wp2
                        go_ret
                        exact ⟨by rw [HONE.out]; simp [*], HB.out⟩
                      case true =>
                        cases hqB : B.toList.isEmpty
                        case false =>
                          go_wp2
                          go_ret
                          exact ⟨by rw [HONE.out]; simp [*], HB.out⟩
                        case true =>
                          cases hqC : C.toList.isEmpty
                          case false =>
                            go_wp2
                            go_ret
                            exact ⟨by rw [HONE.out]; simp [*], HB.out⟩
                          case true =>
                            cases pl
                            case false =>
                              go_wp2
                              go_ret
                              exact ⟨by rw [HONE.out]; simp [*], HB.out⟩
                            case true =>
                              cases hqM : (M == 0)
                              case false =>
                                go_wp2
                                go_ret
                                exact ⟨by rw [HONE.out]; simp [*], HB.out⟩
                              case true =>
                                go_wp2
                                go_ret
                                exact ⟨by rw [HONE.out]; simp [*], HB.out⟩
                    case neg =>
                      by_cases ho10 : o = 10
                      case pos =>
                        subst ho10
                        have HONE := Aside0.mk (one_10 A B C N M m)
                        rw [HPL.out] at HONE
                        rw [HPA.out] at HONE
                        rw [HPB.out] at HONE
                        cases pa
                        case false =>
                          go_wp2
                          go_ret
                          exact ⟨by rw [HONE.out]; simp [*], HB.out⟩
                        case true =>
                          cases pb
                          case false =>
                            go_wp2
                            go_ret
                            exact ⟨by rw [HONE.out]; simp [*], HB.out⟩
                          case true =>
                            cases hqC : C.toList.isEmpty
                            case false =>
                              go_wp2
                              go_ret
                              exact ⟨by rw [HONE.out]; simp [*], HB.out⟩
                            case true =>
                              cases pl
                              case false =>
                                go_wp2
                                go_ret
                                exact ⟨by rw [HONE.out]; simp [*], HB.out⟩
                              case true =>
                                cases hqM : (M == 0)
                                case false =>
                                  go_wp2
                                  go_ret
                                  exact ⟨by rw [HONE.out]; simp [*], HB.out⟩
                                case true =>
                                  go_wp2
                                  go_ret
                                  exact ⟨by rw [HONE.out]; simp [*], HB.out⟩
                      case neg =>
                          have HV := Aside0.mk (show one (o, A, B, C, N, M) m = false by unfold one; rw [if_pos]; show o < 1 ∨ 11 < o; omega)
                          go_wp2
                          go_ret
                          exact ⟨by rw [HV.out]; rfl, HB.out⟩
end Go.Proofs.YtlojemnmdakfiaaDoor.Prog6
end
section
namespace Go.Proofs.YtlojemnmdakfiaaDoor.Prog6
open Go.RowKit Go.Proofs.YtlojemnmdakfiaaDoorW.PrintWords Go.Proofs.YtlojemnmdakfiaaDoorW.PrintLast Go.Proofs.YtlojemnmdakfiaaDoorW.PrintMore
set_option linter.unusedVariables false
set_option linter.unusedSimpArgs false
theorem rone_callsX (x : Ins) (m : Int) (w : World) (hx : szOk x) :
    Calls Tryd.prog 46 #[.agg #[.int .u8 x.1, .string x.2.1, .string x.2.2.1, .string x.2.2.2.1, .int .i64 x.2.2.2.2.1, .int .i64 x.2.2.2.2.2], .int .i64 m] w fun e w' => e = .returned (.bool (one x m)) ∧ Below w.heap.size w w' := by
  obtain ⟨o, A, B, C, N, M⟩ := x
  exact rone_calls o A B C N M m w hx.1 hx.2.1 hx.2.2
theorem rmay_calls (A : Option Addr) (c : Nat) (xs : List Ins) (w : World) (hr : KP.C w A xs.length xs) (hc : xs.length ≤ c) (hx : ∀ x ∈ xs, szOk x) :
    Calls Tryd.prog 28 #[.slice A xs.length c] w fun e w' => e = .returned (.bool (mayP xs)) ∧ Below w.heap.size w w' := by
  have HR := Aside0.mk hr
  have HSZ := Aside0.mk hx
  have hl63 : xs.length ≤ 9223372036854775807 := hr.2.1
  clear hr hx
  by_cases h30 : xs.length > 30
  · have e1 : decide ((xs.length : Int) > 30) = true := decide_eq_true (by omega)
    have e1' : decide (xs.length > 30) = true := decide_eq_true h30
    have HV := Aside0.mk (show mayP xs = false by unfold mayP; rw [decide_eq_false (by omega)]; rfl)
    clear h30
    go_enter Tryd.func28, Tryd.ntmps28
    go_wp2
    go_ret
    exact ⟨by rw [HV.out]; rfl, Below.refl _ _⟩
  have e1 : decide ((xs.length : Int) > 30) = false := decide_eq_false (by omega)
  have e1' : decide (xs.length > 30) = false := decide_eq_false h30
  have HV := Aside0.mk (show mayP xs = allOne xs xs.length by unfold mayP; rw [decide_eq_true (by omega)]; rfl)
  clear h30
  go_enter Tryd.func28, Tryd.ntmps28
  go_wp2
  go_loopw [3] (fun i wr => ∃ k : Nat, k ≤ xs.length ∧ i = .int .i64 k ∧ Aside0 (Below w.heap.size w wr) ∧ Aside0 (allOne (xs.take k) xs.length = true)) (fun i _ => xs.length - (intOf i).toNat)
  case atStart => exact ⟨0, Nat.zero_le _, rfl, ⟨Below.refl _ _⟩, ⟨rfl⟩⟩
  case round =>
    obtain ⟨k, hk, rfl, HB, HA⟩ := hrel
    clear e1 e1'
    by_cases hlt : k < xs.length
    · obtain ⟨ad, rfl, x0, x1, x2, x3, x4, x5⟩ := row_cp (Kd.C_below HR.out HB.out) k hlt xs[k] (List.getElem?_eq_getElem hlt)
      have HU := Aside0.mk (HSZ.out xs[k] (List.getElem_mem hlt))
      have HMEM := Aside0.mk (List.getElem_mem hlt)
      have HTK := Aside0.mk (List.take_succ_eq_append_getElem hlt)
      generalize xs[k] = x at x0 x1 x2 x3 x4 x5 HU HMEM HTK
      go_wp2_with fail
      refine (rone_callsX x xs.length _ HU.out).mono ?_
      rintro e w1 ⟨rfl, hb⟩
      have HB1 := Aside0.mk (below_step HB.out hb)
      clear hb x0 x1 x2 x3 x4 x5 HB
      cases ho : one x xs.length with
      | true =>
        have HA1 := Aside0.mk (show allOne (xs.take (k + 1)) xs.length = true by rw [HTK.out]; have h := HA.out; unfold allOne at h ⊢; rw [List.all_append, h]; simp [ho])
        clear ho
        go_wp2
        go_roundw
        case rel => exact ⟨k + 1, by omega, by go_num, HB1, HA1⟩
        case measure => simp [intOf]; omega
      | false =>
        have HF := Aside0.mk (show allOne xs xs.length = false by unfold allOne; rw [List.all_eq_false]; exact ⟨x, HMEM.out, by simp [ho]⟩)
        clear ho
        go_wp2
        go_ret
        exact ⟨by rw [HV.out, HF.out]; rfl, HB1.out⟩
    · obtain rfl : k = xs.length := by omega
      have HF := Aside0.mk (show allOne xs xs.length = true by have h := HA.out; rwa [List.take_length] at h)
      clear hlt hk
      go_wp2
      go_ret
      exact ⟨by rw [HV.out, HF.out]; rfl, HB.out⟩
end Go.Proofs.YtlojemnmdakfiaaDoor.Prog6
end
section
namespace Go.Proofs.YtlojemnmdakfiaaDoor.Hand
open Go.RowKit Go.Proofs.YtlojemnmdakfiaaDoorW.PrintWords Go.Proofs.YtlojemnmdakfiaaDoorW.PrintLast Go.Proofs.YtlojemnmdakfiaaDoorW.PrintMore
set_option linter.unusedVariables false
set_option linter.unusedSimpArgs false
theorem grown_b {w w' : World} (h : w.grownBy w' none) : Below w.heap.size w w' := ⟨h.os, h.tape, h.output, h.size, fun k hk => h.block k hk (by simp)⟩
set_option maxHeartbeats 1600000 in
set_option maxRecDepth 100000 in
theorem rform_calls (n : Nat) (w : World) (hn : n < 18446744073709551616) :
    Calls Tryd.prog 32 #[.int .u64 n] w fun e w' => ∃ v, e = .returned v ∧ Kd.R B 5 w' w.heap.size (fun _ => True) v (formL n) ∧ Below w.heap.size w w' := by
  have HA0 := Aside0.mk (At.start n hn)
  clear hn
  go_enter Tryd.func32, Tryd.ntmps32
  go_wp2
  go_loopw [0, 3] (fun v0 v3 wr => ∃ (m : Nat) (acc : List Int), v0 = .int .u64 (m : Int) ∧ m < 18446744073709551616 ∧ Aside0 (At n m acc) ∧ Aside0 (Kd.R B 5 wr w.heap.size (fun _ => True) v3 acc) ∧ Aside0 (Below w.heap.size w wr)) (fun v0 _ _ => (intOf v0).toNat)
  case atStart => exact ⟨n, [], rfl, by have := HA0.out.2.1; simpa using this, HA0, ⟨Kd.R_nil _ _ _ _ _⟩, ⟨Below.refl _ _⟩⟩
  case round =>
    clear HA0
    obtain ⟨m, acc, rfl, hm64, HA, HO, HB⟩ := hrel
    by_cases h0 : m = 0
    · subst h0
      have hd := HA.out.done
      subst hd
      have HL8 := Aside0.mk HA.out.1
      obtain ⟨A3, c3, rfl, hc3, hr3⟩ := Kd.R_reads HO.out
      have HR3 := Aside0.mk hr3
      have hw8 : IntKind.u8.wrap ((digs n).length : Int) = ((digs n).length : Int) := by rw [IntKind.wrap_u8]; have := HL8.out; omega
      have HFL := Aside0.mk (show [((digs n).length : Int)] ++ digs n = formL n from rfl)
      clear hr3 HA HO
      generalize digs n = D at *
      rw [show ((0 : Nat) : Int) = 0 from rfl]
      go_wp2_with (first | ((with_reducible refine gate_dst (N := 17) rfl ?_); refine Kd.R_lit B (w0 := w) w.heap.size 5 ?hg (N := 17) ?hd (xs := [(D.length : Int)]) (inner := [.int .u8 (D.length : Int)]) (ok := fun _ => True) (okp := fun _ => True) ?hr ?hp (fun _ hk => hk) trivial HB.out HB.out.size (by simp) ?_; (case hd => rfl); (case hg => rfl); (case hr => first | (go_simp; done) | (go_simp; rfl)); (case hp => exact Reps.one rfl (Reps.none _ _)); intro v1 w2 ho hb1 hg hnew; have HO := Aside0.mk ho; have HB1 := Aside0.mk hb1; have HR4 := Aside0.mk (Kd.C_below HR3.out (grown_b hg)); clear ho hb1 hg hnew) | ((with_reducible refine gate_builtin (b := .append) (xs := #[.tmp 17, .tmp 18]) rfl ?_); at_builtin; refine Kd.R_append_rows B (w0 := w) w.heap.size rfl (.tmp 17) (.tmp 18) 30 5 (.int .u8 0) 1 rfl Tryd.underlying30 info5 rfl (by decide) (by omega) _ ([(D.length : Int)]) (D) _ _ _ (fun _ => True) (fun _ => False) rfl rfl HO.out (HR4.out) (fun _ _ h => h) (fun _ h => h.elim) (fun _ _ => trivial) HB1.out HB1.out.size ?aL ?_; (case aL => have := HL8.out; simp; omega); intro v2 w6 ho hb2 hg hat; rw [HFL.out] at ho; have HO2 := Aside0.mk ho; have HB2 := Aside0.mk hb2; clear ho hb2 hg hat))
      go_ret
      exact ⟨_, rfl, HO2.out, HB2.out⟩
    · have hmp : (m : Int) > 0 := by omega
      obtain ⟨hl7, hA2⟩ := HA.out.step (by omega)
      have HA2 := Aside0.mk hA2
      have HL7 := Aside0.mk hl7
      obtain ⟨A3, c3, rfl, hc3, hr3⟩ := Kd.R_reads HO.out
      have HR3 := Aside0.mk hr3
      have hm2 : (m : Int) % 256 = ((m % 256 : Nat) : Int) := by omega
      have hw8 : IntKind.u8.wrap ((m % 256 : Nat) : Int) = ((m % 256 : Nat) : Int) := by rw [IntKind.wrap_u8]; omega
      have hmd : m / 256 < 18446744073709551616 := by omega
      have HMD := Aside0.mk (show m / 256 < 18446744073709551616 ∧ m / 256 < m by omega)
      have hm3 : (m : Int) / 256 = ((m / 256 : Nat) : Int) := by omega
      have hwq : IntKind.u64.wrap ((m / 256 : Nat) : Int) = ((m / 256 : Nat) : Int) := by simp [IntKind.wrap, IntKind.bits, IntKind.signed]; omega
      obtain ⟨x, hx⟩ : ∃ x : Nat, x = m % 256 := ⟨_, rfl⟩
      rw [← hx] at hm2 hw8 hA2 HA2
      have HFL := Aside0.mk (show [(x : Int)] ++ acc = (x : Int) :: acc from rfl)
      obtain ⟨q, hq⟩ : ∃ q : Nat, q = m / 256 := ⟨_, rfl⟩
      rw [← hq] at hm3 hwq hA2 HA2 HMD
      clear hr3 HA HO hx hA2 hl7 hmd hq hm64
      go_wp2_with (first | ((with_reducible refine gate_dst (N := 9) rfl ?_); refine Kd.R_lit B (w0 := w) w.heap.size 5 ?hg (N := 9) ?hd (xs := [(x : Int)]) (inner := [.int .u8 (x : Int)]) (ok := fun _ => True) (okp := fun _ => True) ?hr ?hp (fun _ hk => hk) trivial HB.out HB.out.size (by simp) ?_; (case hd => rfl); (case hg => rfl); (case hr => first | (go_simp; done) | (go_simp; rfl)); (case hp => exact Reps.one rfl (Reps.none _ _)); intro v1 w2 ho hb1 hg hnew; have HO := Aside0.mk ho; have HB1 := Aside0.mk hb1; have HR4 := Aside0.mk (Kd.C_below HR3.out (grown_b hg)); clear ho hb1 hg hnew) | ((with_reducible refine gate_builtin (b := .append) (xs := #[.tmp 9, .tmp 10]) rfl ?_); at_builtin; refine Kd.R_append_rows B (w0 := w) w.heap.size rfl (.tmp 9) (.tmp 10) 30 5 (.int .u8 0) 1 rfl Tryd.underlying30 info5 rfl (by decide) (by omega) _ ([(x : Int)]) (acc) _ _ _ (fun _ => True) (fun _ => False) rfl rfl HO.out (HR4.out) (fun _ _ h => h) (fun _ h => h.elim) (fun _ _ => trivial) HB1.out HB1.out.size ?aL ?_; (case aL => have := HL7.out; simp; omega); intro v2 w6 ho hb2 hg hat; rw [HFL.out] at ho; have HO2 := Aside0.mk ho; have HB2 := Aside0.mk hb2; clear ho hb2 hg hat))
      go_roundw
      case rel => exact ⟨q, (x : Int) :: acc, rfl, HMD.out.1, HA2, HO2, HB2⟩
      case measure => have := HMD.out.2; simp [intOf]; omega
end Go.Proofs.YtlojemnmdakfiaaDoor.Hand
end
section
namespace Go.Proofs.YtlojemnmdakfiaaDoor.Prog6
open Go.RowKit Go.Proofs.YtlojemnmdakfiaaDoorW.PrintWords Go.Proofs.YtlojemnmdakfiaaDoorW.PrintLast Go.Proofs.YtlojemnmdakfiaaDoorW.PrintMore
set_option linter.unusedVariables false
set_option linter.unusedSimpArgs false
open Go.Proofs.YtlojemnmdakfiaaDoor.Hand (formL rowL formL_len rform_calls)
section
variable {P : Program} {ops : Array Oper} {rest : List Oper} {o : Oper} {a : Act} {Q : Exit → Act → World → Prop}
theorem R_append_str {w0 W : World} (base : Nat) (hgd : o.guard = none) (s x : Operand) (t u e : TypeId)
    (ho : o.op = .call { callee := .builtin .append, args := #[s, x], argTypes := #[t, u] })
    (ht : P.underlying t = some (.slice e)) (hu : P.underlying u = some .string) (hinfo : (P.info? e).map (fun i => (i.zero, i.size, i.bytes)) = some (some (.int .u8 0), 1, 1))
    (v : Value) (xs : List Int) (y : ByteArray) (hs : a.eval s = v) (hx : a.eval x = .string y)
    (HO : Kd.R RBy e W base (fun _ => True) v xs) (HB : Below base w0 W) (hbase : base ≤ W.heap.size) (hl : xs.length + y.size ≤ 140737488355328)
    (h : ∀ v1 w1, Kd.R RBy e w1 base (fun _ => True) v1 (xs ++ bytesOf y) → Below base w0 w1 → W.grownBy w1 v.ownBlock → wpList P ops Q rest (a.put o.dst v1) w1) :
    wpList P ops Q (o :: rest) a W := by
  refine print_append_str (w0 := w0) base hgd s x t u e ho ht hu hinfo v xs y hs hx (Kd.own_of_R HO) HB hbase hl ?_
  intro v1 w1 hown hb hg
  exact h v1 w1 (Kd.R_of_own hown (fun _ _ => trivial)) hb hg
end
theorem keep_over {w w1 : World} {base q : Nat} {ok : Nat → Prop} {v : Value} {xs : List Int} {t : TypeId} {cells : Array Value} (h : Kd.R RBy 5 w base ok v xs) (hb : w.heap[q]? = some (.cells cells t (0, 0))) (ht : 5 ≠ t) (hg : w.grownBy w1 v.ownBlock) : w1.heap[q]? = some (.cells cells t (0, 0)) := by
  rw [hg.block q (Array.getElem?_eq_some_iff.1 hb).1 (Kd.R_ne h hb ht)]
  exact hb
set_option maxHeartbeats 3200000 in
set_option maxRecDepth 100000 in
theorem rpbytes_calls (A : Option Addr) (c : Nat) (p : List Ins) (w : World) (hr : KP.C w A p.length p) (hc : p.length ≤ c) (hm : mayP p = true) :
    Calls Tryd.prog 31 #[.slice A p.length c] w fun e w' => ∃ v, e = .returned v ∧ Kd.R RBy 5 w' w.heap.size (fun _ => True) v (progB p) ∧ Below w.heap.size w w' := by
  have HR := Aside0.mk hr
  have hl63 : p.length ≤ 9223372036854775807 := hr.2.1
  obtain ⟨h30, hok⟩ := may_ok hm
  have HOK := Aside0.mk hok
  have hwl : IntKind.u64.wrap (p.length : Int) = (p.length : Int) := by simp [IntKind.wrap, IntKind.bits, IntKind.signed]; omega
  clear hr hm hok
  go_enter Tryd.func31, Tryd.ntmps31
  go_wp2_with fail
  refine (rform_calls p.length _ (by omega)).mono ?_
  rintro e w2 ⟨v2, rfl, ho, hb⟩
  have HO2 := Aside0.mk ho
  have HB2 := Aside0.mk hb
  clear ho hb hwl
  go_wp2
  go_loopw [3, 4] (fun v i wr => ∃ k : Nat, k ≤ p.length ∧ i = .int .i64 (k : Int) ∧ Aside0 (Kd.R RBy 5 wr w.heap.size (fun _ => True) v (formL p.length ++ ((p.take k).map insB).flatten)) ∧ Aside0 (Below w.heap.size w wr)) (fun _ i _ => p.length - (intOf i).toNat)
  case atStart => exact ⟨0, Nat.zero_le _, rfl, by simpa using HO2, HB2⟩
  case round =>
    clear HO2 HB2
    obtain ⟨k, hk, rfl, HO, HB⟩ := hrel
    by_cases hlt : k < p.length
    · have HLK := Aside0.mk (show (formL p.length ++ ((p.take k).map insB).flatten).length ≤ 6000 by
        have h1 := formL_len p.length (by omega)
        have h2 := len_flat (p := p.take k) (fun x hx => HOK.out x (List.mem_of_mem_take hx))
        rw [List.length_take] at h2
        simp only [List.length_append]
        omega)
      have HTK := Aside0.mk (show formL p.length ++ ((p.take (k + 1)).map insB).flatten = (formL p.length ++ ((p.take k).map insB).flatten) ++ insB p[k] by rw [List.take_succ_eq_append_getElem hlt]; simp only [List.map_append, List.map_cons, List.map_nil, List.flatten_append, List.flatten_cons, List.flatten_nil, List.append_nil, List.append_assoc])
      have HOX := Aside0.mk (HOK.out _ (List.getElem_mem hlt))
      obtain ⟨ad, rfl, x0, x1, x2, x3, x4, x5⟩ := row_cp (Kd.C_below HR.out HB.out) k hlt p[k] (List.getElem?_eq_getElem hlt)
      generalize p[k] = x at x0 x1 x2 x3 x4 x5 HTK HOX
      generalize formL p.length ++ ((p.take k).map insB).flatten = L at HO HTK HLK
      go_upto_region 6 with (fail)
      have HBA := Aside0.mk ((Below.refl wr.heap.size wr).alloc (Nat.le_refl _) (.cells (cI x) 68 (0, 0)))
      have HX := Aside0.mk (show BoxI (wr.alloc (.cells (cI x) 68 (0, 0))) wr.heap.size x from heap_new _ _)
      replace HO := Aside0.mk (Kd.R_below HO.out HBA.out)
      replace HB := Aside0.mk (below_step HB.out HBA.out)
      clear HBA
      generalize wr.alloc _ = wa at HX HB HO ⊢
      generalize wr.heap.size = b at HX ⊢
      obtain ⟨op, tA, tB, tC, N, M⟩ := x
      have hoI := HOX.out
      obtain ⟨op, rfl⟩ := Int.eq_ofNat_of_zero_le (show 0 ≤ op by have := hoI.1.1; simp only at this; omega)
      obtain ⟨N, rfl⟩ := Int.eq_ofNat_of_zero_le hoI.2.2.2.2.1.1
      obtain ⟨M, rfl⟩ := Int.eq_ofNat_of_zero_le hoI.2.2.2.2.2.1
      have HNM := Aside0.mk (show op ≤ 11 ∧ N ≤ 2000 ∧ M ≤ 2000 by have h1 := hoI.1.2; have h2 := hoI.2.2.2.2.1.2; have h3 := hoI.2.2.2.2.2.2; simp only at h1 h2 h3; omega)
      have HS40 := Aside0.mk (show tA.size ≤ 40 ∧ tB.size ≤ 40 ∧ tC.size ≤ 40 from ⟨hoI.2.1, hoI.2.2.1, hoI.2.2.2.1⟩)
      have hwo : IntKind.u64.wrap (op : Int) = (op : Int) := by have := HNM.out.1; simp [IntKind.wrap, IntKind.bits, IntKind.signed]; omega
      obtain ⟨b0, b1, b2, b3, b4, b5⟩ := HX.out.cu
      simp only [] at b0 b1 b2 b3 b4 b5
      clear hoI x0 x1 x2 x3 x4 x5 HOX
      go_wp2_with fail
      refine (rform_calls op _ (by have := HNM.out; omega)).mono ?_
      rintro e w3 ⟨v3, rfl, ho, hb⟩
      obtain ⟨A3, c3, rfl, hc3, hr3⟩ := Kd.R_reads ho
      have HC3 := Aside0.mk hr3
      have HF3 := Aside0.mk (formL_len op (by have := HNM.out; omega))
      replace HO := Aside0.mk (Kd.R_below HO.out hb)
      replace HB := Aside0.mk (below_step HB.out hb)
      replace HX := Aside0.mk (HX.out.below hb)
      clear ho hb b0 b1 b2 b3 b4 b5 hwo hr3
      go_upto_region 7 with ((with_reducible refine gate_builtin (b := .append) (xs := #[.tmp 22, .tmp 26]) rfl ?_); at_builtin; refine Kd.R_append_rows RBy (w0 := w) w.heap.size rfl (.tmp 22) (.tmp 26) 30 5 (.int .u8 0) 1 rfl Tryd.underlying30 Hand.info5 rfl (by decide) (by omega) _ L (formL op) _ _ _ (fun _ => True) (fun _ => False) rfl rfl HO.out HC3.out (fun _ _ h => h) (fun _ h => h.elim) (fun _ _ => trivial) HB.out HB.out.size ?aL ?_; (case aL => have := HLK.out; have := HF3.out; omega); intro v4 w4 ho hb2 hg hat; have HO4 := Aside0.mk ho; have HB4 := Aside0.mk hb2; have HX4 := Aside0.mk (show BoxI w4 b _ from keep_over HO.out HX.out (by decide) hg); clear ho hb2 hg hat)
      clear HO HX HB HC3
      obtain ⟨b0, b1, b2, b3, b4, b5⟩ := HX4.out.cu
      simp only [] at b0 b1 b2 b3 b4 b5
      have HLK3 := Aside0.mk (show (L ++ formL op).length ≤ 6010 by have := HLK.out; have := HF3.out; simp only [List.length_append]; omega)
      have HTL := Aside0.mk (show (L ++ formL op) ++ ([rowL (bytesOf tA), rowL (bytesOf tB), rowL (bytesOf tC)].take 3).flatten ++ (formL N ++ formL M) = L ++ insB ((op : Int), tA, tB, tC, (N : Int), (M : Int)) by simp [insB])
      generalize L ++ formL op = L3 at HO4 HLK3 HTL
      go_wp2
      obtain ⟨w5, hw5⟩ : ∃ w5, w5 = w4.alloc (.cells #[.string tA, .string tB, .string tC] 9 (0, 0)) := ⟨_, rfl⟩
      rw [← hw5]
      have HBA := Aside0.mk (show Below w4.heap.size w4 w5 by rw [hw5]; exact (Below.refl w4.heap.size w4).alloc (Nat.le_refl _) _)
      have HSB := Aside0.mk (show w5.heap[w4.heap.size]? = some (.cells #[.string tA, .string tB, .string tC] 9 (0, 0)) by rw [hw5]; exact heap_new _ _)
      replace HO4 := Aside0.mk (Kd.R_below HO4.out HBA.out)
      replace HB4 := Aside0.mk (below_step HB4.out HBA.out)
      replace HX4 := Aside0.mk (HX4.out.below HBA.out)
      clear HBA hw5 b0 b1 b2 b3 b4 b5
      generalize w4.heap.size = sb at HSB ⊢
      obtain ⟨wo, hwo⟩ : ∃ wo, wo = wr := ⟨_, rfl⟩
      subst hwo
      go_loopw [3, 7] (fun v i wr => ∃ j : Nat, j ≤ 3 ∧ i = .int .i64 (j : Int) ∧ Aside0 (Kd.R RBy 5 wr w.heap.size (fun _ => True) v (L3 ++ ([rowL (bytesOf tA), rowL (bytesOf tB), rowL (bytesOf tC)].take j).flatten)) ∧ Aside0 (BoxI wr b ((op : Int), tA, tB, tC, (N : Int), (M : Int))) ∧ Aside0 (wr.heap[sb]? = some (.cells #[.string tA, .string tB, .string tC] 9 (0, 0))) ∧ Aside0 (Below w.heap.size w wr)) (fun _ i _ => 3 - (intOf i).toNat)
      case atStart => exact ⟨0, Nat.zero_le _, rfl, by simpa using HO4, HX4, HSB, HB4⟩
      case round =>
        clear HO4 HX4 HB4 HSB HF3 hc3
        obtain ⟨j, hj, rfl, HO, HX, HSB, HB⟩ := hrel
        by_cases hj3 : j < 3
        · obtain ⟨s, hs, hs40, hsl⟩ : ∃ s : ByteArray, (#[.string tA, .string tB, .string tC] : Array Value)[j]? = some (.string s) ∧ s.size ≤ 40 ∧ [rowL (bytesOf tA), rowL (bytesOf tB), rowL (bytesOf tC)].take (j + 1) = [rowL (bytesOf tA), rowL (bytesOf tB), rowL (bytesOf tC)].take j ++ [rowL (bytesOf s)] := by
            have h := HS40.out
            rcases j with _ | _ | _ | j
            · exact ⟨tA, rfl, h.1, rfl⟩
            · exact ⟨tB, rfl, h.2.1, rfl⟩
            · exact ⟨tC, rfl, h.2.2, rfl⟩
            · omega
          have HSL := Aside0.mk (show L3 ++ ([rowL (bytesOf tA), rowL (bytesOf tB), rowL (bytesOf tC)].take (j + 1)).flatten = ((L3 ++ ([rowL (bytesOf tA), rowL (bytesOf tB), rowL (bytesOf tC)].take j).flatten) ++ formL s.size) ++ bytesOf s by rw [hsl]; simp [rowL, bytesOf_length])
          have HLJ := Aside0.mk (show (L3 ++ ([rowL (bytesOf tA), rowL (bytesOf tB), rowL (bytesOf tC)].take j).flatten).length ≤ 7000 by
            have h1 := HLK3.out
            have h := HS40.out
            have f := fun s : ByteArray => fun h : s.size ≤ 40 => (show (rowL (bytesOf s)).length ≤ 49 by have := formL_len s.size (by omega); have e := bytesOf_length s; simp only [rowL, List.length_append, e]; omega)
            have fA := f tA h.1
            have fB := f tB h.2.1
            have fC := f tC h.2.2
            rcases j with _ | _ | _ | j
            · simp only [List.take_zero, List.flatten_nil, List.append_nil]; omega
            · simp only [List.take_succ_cons, List.take_zero, List.flatten_cons, List.flatten_nil, List.append_nil, List.length_append]; omega
            · simp only [List.take_succ_cons, List.take_zero, List.flatten_cons, List.flatten_nil, List.append_nil, List.length_append]; omega
            · omega)
          clear hsl
          generalize L3 ++ ([rowL (bytesOf tA), rowL (bytesOf tB), rowL (bytesOf tC)].take j).flatten = LJ at HO HSL HLJ
          have HS4 := Aside0.mk hs40
          have HSJ := Aside0.mk hs
          have hsc := (cell_of HSB.out (j := j)).2 hs
          have hji : decide ((j : Int) < 3) = true := decide_eq_true (by omega)
          have hjd : decide (j < 3) = true := decide_eq_true hj3
          have hws : IntKind.u64.wrap (s.size : Int) = (s.size : Int) := by simp [IntKind.wrap, IntKind.bits, IntKind.signed]; omega
          clear hs40 hs
          go_wp2_with fail
          refine (rform_calls s.size _ (by have := HS4.out; omega)).mono ?_
          rintro e w6 ⟨v6, rfl, ho, hb⟩
          obtain ⟨A6, c6, rfl, hc6, hr6⟩ := Kd.R_reads ho
          have HC6 := Aside0.mk hr6
          have HF6 := Aside0.mk (formL_len s.size (by have := HS4.out; omega))
          replace HO := Aside0.mk (Kd.R_below HO.out hb)
          replace HB := Aside0.mk (below_step HB.out hb)
          replace HX := Aside0.mk (HX.out.below hb)
          replace HSB := Aside0.mk (heap_keep HSB.out hb)
          clear ho hb hws hr6 hsc
          go_upto_region 12 with (((with_reducible refine gate_builtin (b := .append) (xs := #[.tmp 39, .tmp 46]) rfl ?_); at_builtin; refine Kd.R_append_rows RBy (w0 := w) w.heap.size rfl (.tmp 39) (.tmp 46) 30 5 (.int .u8 0) 1 rfl Tryd.underlying30 Hand.info5 rfl (by decide) (by omega) _ (LJ) (formL s.size) _ _ _ (fun _ => True) (fun _ => False) rfl rfl HO.out HC6.out (fun _ _ h => h) (fun _ h => h.elim) (fun _ _ => trivial) HB.out HB.out.size ?aL ?_; (case aL => have := HLJ.out; have := HF6.out; omega); intro v7 w7 ho hb2 hg hat; have HO7 := Aside0.mk ho; have HB7 := Aside0.mk hb2; have HX7 := Aside0.mk (show BoxI w7 b _ from keep_over HO.out HX.out (by decide) hg); have HSB7 := Aside0.mk (keep_over HO.out HSB.out (by decide) hg); have hsc := (cell_of HSB7.out (j := j)).2 HSJ.out; clear ho hb2 hg hat))
          clear HO HX HB HSB HC6
          have HL7 := Aside0.mk (show (LJ ++ formL s.size).length + s.size ≤ 7100 by have := HLJ.out; have := HF6.out; have := HS4.out; simp only [List.length_append]; omega)
          generalize LJ ++ formL s.size = L7 at HO7 HSL HL7
          go_wp2_with ((with_reducible refine gate_builtin (b := .append) (xs := #[.tmp 48, .tmp 52]) rfl ?_); at_builtin; refine R_append_str (w0 := w) w.heap.size rfl (.tmp 48) (.tmp 52) 30 9 5 rfl Tryd.underlying30 Tryd.underlying9 Hand.info5 _ L7 s rfl rfl HO7.out HB7.out HB7.out.size ?aL ?_; (case aL => have := HL7.out; omega); intro v8 w8 ho hb2 hg; have HO8 := Aside0.mk ho; have HB8 := Aside0.mk hb2; have HX8 := Aside0.mk (show BoxI w8 b _ from keep_over HO7.out HX7.out (by decide) hg); have HSB8 := Aside0.mk (keep_over HO7.out HSB7.out (by decide) hg); clear ho hb2 hg)
          go_roundw
          case rel => exact ⟨j + 1, by omega, by go_num, by rw [HSL.out]; exact HO8, HX8, HSB8, HB8⟩
          case measure => simp [intOf]; omega
        · obtain rfl : j = 3 := by omega
          clear hj hj3 HSB
          have HL4 := Aside0.mk (show (L3 ++ ([rowL (bytesOf tA), rowL (bytesOf tB), rowL (bytesOf tC)].take 3).flatten).length ≤ 7000 by
            have h1 := HLK3.out
            have h := HS40.out
            have f := fun s : ByteArray => fun h : s.size ≤ 40 => (show (rowL (bytesOf s)).length ≤ 49 by have := formL_len s.size (by omega); have e := bytesOf_length s; simp only [rowL, List.length_append, e]; omega)
            have fA := f tA h.1
            have fB := f tB h.2.1
            have fC := f tC h.2.2
            simp only [List.take_succ_cons, List.take_zero, List.flatten_cons, List.flatten_nil, List.append_nil, List.length_append]; omega)
          generalize L3 ++ ([rowL (bytesOf tA), rowL (bytesOf tB), rowL (bytesOf tC)].take 3).flatten = L4 at HO HL4 HTL
          have hwN : IntKind.u64.wrap (N : Int) = (N : Int) := by have := HNM.out; simp [IntKind.wrap, IntKind.bits, IntKind.signed]; omega
          have hwM : IntKind.u64.wrap (M : Int) = (M : Int) := by have := HNM.out; simp [IntKind.wrap, IntKind.bits, IntKind.signed]; omega
          obtain ⟨b0, b1, b2, b3, b4, b5⟩ := HX.out.cu
          simp only [] at b0 b1 b2 b3 b4 b5
          go_wp2_with fail
          refine (rform_calls N _ (by have := HNM.out; omega)).mono ?_
          rintro e w6 ⟨v6, rfl, ho, hb⟩
          obtain ⟨A6, c6, rfl, hc6, hr6⟩ := Kd.R_reads ho
          have HC6 := Aside0.mk hr6
          have HF6 := Aside0.mk (formL_len N (by have := HNM.out; omega))
          replace HO := Aside0.mk (Kd.R_below HO.out hb)
          replace HB := Aside0.mk (below_step HB.out hb)
          replace HX := Aside0.mk (HX.out.below hb)
          clear ho hb hwN hr6 b0 b1 b2 b3 b4 b5
          go_upto_region 14 with (((with_reducible refine gate_builtin (b := .append) (xs := #[.tmp 54, .tmp 58]) rfl ?_); at_builtin; refine Kd.R_append_rows RBy (w0 := w) w.heap.size rfl (.tmp 54) (.tmp 58) 30 5 (.int .u8 0) 1 rfl Tryd.underlying30 Hand.info5 rfl (by decide) (by omega) _ (L4) (formL N) _ _ _ (fun _ => True) (fun _ => False) rfl rfl HO.out HC6.out (fun _ _ h => h) (fun _ h => h.elim) (fun _ _ => trivial) HB.out HB.out.size ?aL ?_; (case aL => have := HL4.out; have := HF6.out; omega); intro v7 w7 ho hb2 hg hat; have HO7 := Aside0.mk ho; have HB7 := Aside0.mk hb2; have HX7 := Aside0.mk (show BoxI w7 b _ from keep_over HO.out HX.out (by decide) hg); obtain ⟨b0, b1, b2, b3, b4, b5⟩ := HX7.out.cu; simp only [] at b0 b1 b2 b3 b4 b5; clear ho hb2 hg hat))
          clear HO HX HB HC6
          have HL7 := Aside0.mk (show (L4 ++ formL N).length ≤ 7100 by have := HL4.out; have := HF6.out; simp only [List.length_append]; omega)
          have HEQ := Aside0.mk (show formL p.length ++ ((p.take (k + 1)).map insB).flatten = (L4 ++ formL N) ++ formL M by rw [HTK.out, ← HTL.out, List.append_assoc])
          generalize L4 ++ formL N = L7 at HO7 HL7 HEQ
          go_wp2_with fail
          refine (rform_calls M _ (by have := HNM.out; omega)).mono ?_
          rintro e w8 ⟨v8, rfl, ho, hb⟩
          obtain ⟨A8, c8, rfl, hc8, hr8⟩ := Kd.R_reads ho
          have HC8 := Aside0.mk hr8
          have HF8 := Aside0.mk (formL_len M (by have := HNM.out; omega))
          replace HO7 := Aside0.mk (Kd.R_below HO7.out hb)
          replace HB7 := Aside0.mk (below_step HB7.out hb)
          clear ho hb hwM hr8 b0 b1 b2 b3 b4 b5 HX7
          go_wp2_with (((with_reducible refine gate_builtin (b := .append) (xs := #[.tmp 60, .tmp 64]) rfl ?_); at_builtin; refine Kd.R_append_rows RBy (w0 := w) w.heap.size rfl (.tmp 60) (.tmp 64) 30 5 (.int .u8 0) 1 rfl Tryd.underlying30 Hand.info5 rfl (by decide) (by omega) _ (L7) (formL M) _ _ _ (fun _ => True) (fun _ => False) rfl rfl HO7.out HC8.out (fun _ _ h => h) (fun _ h => h.elim) (fun _ _ => trivial) HB7.out HB7.out.size ?aL ?_; (case aL => have := HL7.out; have := HF8.out; omega); intro v9 w9 ho hb2 hg hat; have HO9 := Aside0.mk ho; have HB9 := Aside0.mk hb2; clear ho hb2 hg hat))
          go_roundw
          case rel => exact ⟨k + 1, by omega, by go_num, by rw [HEQ.out]; exact HO9, HB9⟩
          case measure => simp [intOf]; omega
    · obtain rfl : k = p.length := by omega
      have HV := Aside0.mk (show formL p.length ++ ((p.take p.length).map insB).flatten = progB p by rw [List.take_length]; rfl)
      rw [HV.out] at HO
      clear hlt hk
      go_wp2
      go_ret
      exact ⟨_, rfl, HO.out, HB.out⟩
end Go.Proofs.YtlojemnmdakfiaaDoor.Prog6
end
section
namespace Go.Proofs.YtlojemnmdakfiaaDoor.Tr
open Go.RowKit Go.Proofs.YtlojemnmdakfiaaDoorW.PrintWords Go.Proofs.YtlojemnmdakfiaaDoorW.PrintLast Go.Proofs.YtlojemnmdakfiaaDoorW.PrintMore
set_option linter.unusedVariables false
set_option linter.unusedSimpArgs false
open Go.Proofs.YtlojemnmdakfiaaDoor.Hand
open Go.Proofs.YtlojemnmdakfiaaDoor.Prog6 (keep_over)
theorem cell_below {w w' : World} {a : Addr} {v : Value} (h : w.cell? a = some v) (hb : Below w.heap.size w w') : w'.cell? a = some v :=
  (hb.cell (World.block_lt_of_cell? w _ h)).trans h
set_option maxHeartbeats 6400000 in
set_option maxRecDepth 100000 in
theorem rtbytes_calls (A : Option Addr) (c : Nat) (xs : List Fl) (w : World) (hr : KF.C w A xs.length xs) (hc : xs.length ≤ c) (h16 : xs.length ≤ 16) (hx : ∀ x ∈ xs, x.1.size ≤ 40 ∧ x.2.length ≤ 2000) :
    Calls Tryd.prog 18 #[.slice A xs.length c] w fun e w' => ∃ v, e = .returned v ∧ Kd.R B 5 w' w.heap.size (fun _ => True) v (treeB xs) ∧ Below w.heap.size w w' := by
  have HR := Aside0.mk hr
  have HOK := Aside0.mk hx
  have hl63 : xs.length ≤ 9223372036854775807 := hr.2.1
  have hwl : IntKind.u64.wrap (xs.length : Int) = (xs.length : Int) := by simp [IntKind.wrap, IntKind.bits, IntKind.signed]; omega
  clear hr hx
  go_enter Tryd.func18, Tryd.ntmps18
  go_wp2_with fail
  refine (rform_calls xs.length _ (by omega)).mono ?_
  rintro e w2 ⟨v2, rfl, ho, hb⟩
  have HO2 := Aside0.mk ho
  have HB2 := Aside0.mk hb
  clear ho hb hwl
  go_wp2
  go_loopw [3, 4] (fun v i wr => ∃ k : Nat, k ≤ xs.length ∧ i = .int .i64 (k : Int) ∧ Aside0 (Kd.R B 5 wr w.heap.size (fun _ => True) v (formL xs.length ++ ((xs.take k).map fileB).flatten)) ∧ Aside0 (Below w.heap.size w wr)) (fun _ i _ => xs.length - (intOf i).toNat)
  case atStart => exact ⟨0, Nat.zero_le _, rfl, by simpa using HO2, HB2⟩
  case round =>
    clear HO2 HB2
    obtain ⟨k, hk, rfl, HO, HB⟩ := hrel
    by_cases hlt : k < xs.length
    · have HLJ := Aside0.mk (show (formL xs.length ++ ((xs.take k).map fileB).flatten).length ≤ 40000 by
        have h1 := formL_len xs.length (by omega)
        have h2 := len_files (xs.take k) (fun x hx => HOK.out x (List.mem_of_mem_take hx))
        rw [List.length_take] at h2
        simp only [List.length_append]
        omega)
      have HTK := Aside0.mk (show formL xs.length ++ ((xs.take (k + 1)).map fileB).flatten = ((((formL xs.length ++ ((xs.take k).map fileB).flatten) ++ formL xs[k].1.size) ++ bytesOf xs[k].1) ++ formL xs[k].2.length) ++ xs[k].2 by rw [List.take_succ_eq_append_getElem hlt]; simp only [List.map_append, List.map_cons, List.map_nil, List.flatten_append, List.flatten_cons, List.flatten_nil, List.append_nil, fileB, rowL, bytesOf_length, List.append_assoc])
      obtain ⟨ad, A0, c0, rfl, x0, x1, hc0, hC0⟩ := row_cf HR.out k hlt xs[k] (List.getElem?_eq_getElem hlt)
      have HOX := Aside0.mk (HOK.out xs[k] (List.getElem_mem hlt))
      generalize xs[k] = x at x0 x1 hc0 hC0 HOX HTK
      generalize formL xs.length ++ ((xs.take k).map fileB).flatten = LJ at HO HLJ HTK
      have HX0 := Aside0.mk x0
      have HX1 := Aside0.mk x1
      have HC0 := Aside0.mk hC0
      have hws : IntKind.u64.wrap (x.1.size : Int) = (x.1.size : Int) := by have := HOX.out.1; simp [IntKind.wrap, IntKind.bits, IntKind.signed]; omega
      clear hC0 x0 x1
      have x0 := cell_below HX0.out HB.out
      go_wp2_with fail
      refine (rform_calls x.1.size _ (by have := HOX.out.1; omega)).mono ?_
      rintro e w6 ⟨v6, rfl, ho, hb⟩
      obtain ⟨A6, c6, rfl, hc6, hr6⟩ := Kd.R_reads ho
      have HC6 := Aside0.mk hr6
      have HF6 := Aside0.mk (formL_len x.1.size (by have := HOX.out.1; omega))
      replace HO := Aside0.mk (Kd.R_below HO.out hb)
      have HBG := Aside0.mk (hb.mono (Nat.le_refl _))
      replace HB := Aside0.mk (below_step HB.out hb)
      clear ho hb hws hr6 x0
      go_upto_region 6 with (((with_reducible refine gate_builtin (b := .append) (xs := #[.tmp 15, .tmp 23]) rfl ?_); at_builtin; refine Kd.R_append_rows B (w0 := w) w.heap.size rfl (.tmp 15) (.tmp 23) 30 5 (.int .u8 0) 1 rfl Tryd.underlying30 info5 rfl (by decide) (by omega) _ LJ (formL x.1.size) _ _ _ (fun _ => True) (fun _ => False) rfl rfl HO.out HC6.out (fun _ _ h => h) (fun _ h => h.elim) (fun _ _ => trivial) HB.out HB.out.size ?aL ?_; (case aL => have := HLJ.out; have := HF6.out; omega); intro v7 w7 ho hb2 hg hat; have HO7 := Aside0.mk ho; have HB7 := Aside0.mk hb2; clear ho hb2 hg hat))
      have HL7 := Aside0.mk (show (LJ ++ formL x.1.size).length ≤ 40009 by have := HLJ.out; have := HF6.out; simp only [List.length_append]; omega)
      clear HO HB HC6 HF6 HLJ HBG hc6
      generalize LJ ++ formL x.1.size = L7 at HO7 HL7 HTK
      have x0 := cell_below HX0.out HB7.out
      have kb := print_bytes (P := Tryd.prog) 9 30 5 Tryd.underlying9 Tryd.underlying30 Tryd.underlying5 x.1 w7
      have hbb := bytes_below (Below.refl w7.heap.size w7) (Nat.le_refl _) 5 x.1
      have HOB := Aside0.mk (Kd.R_below HO7.out hbb)
      have HBB := Aside0.mk (below_step HB7.out hbb)
      have HCB := Aside0.mk (show B.C (Lib.bytesWorld w7 5 x.1) (some ⟨w7.heap.size, 0, none⟩) x.1.size (bytesOf x.1) from Kd.C_of_reads (h1 := fun _ => rfl) (bytes_reads w7 5 x.1 (by have := HOX.out.1; omega)))
      clear hbb HO7 HB7
      go_upto_region 7 with (((with_reducible refine gate_builtin (b := .append) (xs := #[.tmp 25, .tmp 31]) rfl ?_); at_builtin; refine Kd.R_append_rows B (w0 := w) w.heap.size rfl (.tmp 25) (.tmp 31) 30 5 (.int .u8 0) 1 rfl Tryd.underlying30 info5 rfl (by decide) (by omega) _ L7 (bytesOf x.1) _ _ _ (fun _ => True) (fun _ => False) rfl rfl HOB.out HCB.out (fun _ _ h => h) (fun _ h => h.elim) (fun _ _ => trivial) HBB.out HBB.out.size ?aL ?_; (case aL => have := HL7.out; have := HOX.out.1; omega); intro v8 w8 ho hb2 hg hat; have HO8 := Aside0.mk ho; have HB8 := Aside0.mk hb2; clear ho hb2 hg hat))
      have HL8 := Aside0.mk (show (L7 ++ bytesOf x.1).length ≤ 40049 by have := HL7.out; have := HOX.out.1; simp only [List.length_append, bytesOf_length]; omega)
      clear kb x0 HOB HBB HCB
      generalize L7 ++ bytesOf x.1 = L8 at HO8 HL8 HTK
      have x1 := cell_below HX1.out HB8.out
      have hws : IntKind.u64.wrap (x.2.length : Int) = (x.2.length : Int) := by have := HOX.out.2; simp [IntKind.wrap, IntKind.bits, IntKind.signed]; omega
      generalize hn : x.2.length = n at hws x1
      go_wp2_with fail
      subst hn
      refine (rform_calls x.2.length _ (by have := HOX.out.2; omega)).mono ?_
      rintro e w9 ⟨v9, rfl, ho, hb⟩
      obtain ⟨A9, c9, rfl, hc9, hr9⟩ := Kd.R_reads ho
      have HC9 := Aside0.mk hr9
      have HF9 := Aside0.mk (formL_len x.2.length (by have := HOX.out.2; omega))
      replace HO8 := Aside0.mk (Kd.R_below HO8.out hb)
      replace HB8 := Aside0.mk (below_step HB8.out hb)
      clear ho hb hws hr9 x1
      go_upto_region 8 with (((with_reducible refine gate_builtin (b := .append) (xs := #[.tmp 33, .tmp 41]) rfl ?_); at_builtin; refine Kd.R_append_rows B (w0 := w) w.heap.size rfl (.tmp 33) (.tmp 41) 30 5 (.int .u8 0) 1 rfl Tryd.underlying30 info5 rfl (by decide) (by omega) _ L8 (formL x.2.length) _ _ _ (fun _ => True) (fun _ => False) rfl rfl HO8.out HC9.out (fun _ _ h => h) (fun _ h => h.elim) (fun _ _ => trivial) HB8.out HB8.out.size ?aL ?_; (case aL => have := HL8.out; have := HF9.out; omega); intro v10 w10 ho hb2 hg hat; have HO10 := Aside0.mk ho; have HB10 := Aside0.mk hb2; clear ho hb2 hg hat))
      have HL10 := Aside0.mk (show (L8 ++ formL x.2.length).length ≤ 40100 by have := HL8.out; have := HF9.out; simp only [List.length_append]; omega)
      clear HO8 HB8 HC9 HF9 hc9 HL8
      generalize L8 ++ formL x.2.length = L10 at HO10 HL10 HTK
      have x1 := cell_below HX1.out HB10.out
      have HCX := Aside0.mk (Kd.C_below HC0.out HB10.out)
      go_wp2_with (((with_reducible refine gate_builtin (b := .append) (xs := #[.tmp 43, .tmp 48]) rfl ?_); at_builtin; refine Kd.R_append_rows B (w0 := w) w.heap.size rfl (.tmp 43) (.tmp 48) 30 5 (.int .u8 0) 1 rfl Tryd.underlying30 info5 rfl (by decide) (by omega) _ L10 x.2 _ _ _ (fun _ => True) (fun _ => False) rfl rfl HO10.out HCX.out (fun _ _ h => h) (fun _ h => h.elim) (fun _ _ => trivial) HB10.out HB10.out.size ?aL ?_; (case aL => have := HL10.out; have := HOX.out.2; omega); intro v11 w11 ho hb2 hg hat; have HO11 := Aside0.mk ho; have HB11 := Aside0.mk hb2; clear ho hb2 hg hat))
      go_roundw
      case rel => exact ⟨k + 1, by omega, by go_num, by rw [HTK.out]; exact HO11, HB11⟩
      case measure => simp [intOf]; omega
    · obtain rfl : k = xs.length := by omega
      have HV := Aside0.mk (show formL xs.length ++ ((xs.take xs.length).map fileB).flatten = treeB xs by rw [List.take_length]; rfl)
      rw [HV.out] at HO
      clear hlt hk
      go_wp2
      go_ret
      exact ⟨_, rfl, HO.out, HB.out⟩
end Go.Proofs.YtlojemnmdakfiaaDoor.Tr
end
section
namespace Go.Proofs.YtlojemnmdakfiaaDoor.Tr
open Go.RowKit Go.Proofs.YtlojemnmdakfiaaDoorW.PrintWords Go.Proofs.YtlojemnmdakfiaaDoorW.PrintLast Go.Proofs.YtlojemnmdakfiaaDoorW.PrintMore
set_option linter.unusedVariables false
set_option linter.unusedSimpArgs false
open Go.Proofs.YtlojemnmdakfiaaDoor.Hand
open Go.Proofs.YtlojemnmdakfiaaDoor.Prog6 (isPath risPath_calls)
theorem risPath_at {b : Bool} (s : ByteArray) (w : World) (hs63 : s.size ≤ 9223372036854775807) (hb : isPath s = b) :
    Calls Tryd.prog 47 #[.string s] w fun e w' => e = .returned (.bool b) ∧ Below w.heap.size w w' := by
  subst hb
  refine (risPath_calls s w hs63).mono ?_
  rintro e w' ⟨rfl, hw⟩
  subst hw
  exact ⟨rfl, Below.refl _ _⟩
set_option maxHeartbeats 6400000 in
set_option maxRecDepth 100000 in
theorem rtmay_calls (A : Option Addr) (c : Nat) (xs : List Fl) (w : World) (hr : KF.C w A xs.length xs) (hc : xs.length ≤ c) (hx : ∀ x ∈ xs, x.1.size ≤ 9223372036854775807) :
    Calls Tryd.prog 29 #[.slice A xs.length c] w fun e w' => e = .returned (.bool (mayT xs)) ∧ Below w.heap.size w w' := by
  have HR := Aside0.mk hr
  have HSX := Aside0.mk hx
  have hl63 : xs.length ≤ 9223372036854775807 := hr.2.1
  clear hr hx
  by_cases hlen : xs.length ≤ 16
  rotate_left
  · have e1 : decide ((xs.length : Int) > 16) = true := decide_eq_true (by omega)
    have e2 : decide (xs.length > 16) = true := decide_eq_true (by omega)
    have HM := Aside0.mk (show mayT xs = false by unfold mayT; rw [decide_eq_false hlen, Bool.false_and, Bool.false_and])
    rw [HM.out]
    clear hlen HM
    go_enter Tryd.func29, Tryd.ntmps29
    go_wp2
    go_ret
    exact ⟨rfl, Below.refl _ _⟩
  have e1 : decide ((xs.length : Int) > 16) = false := decide_eq_false (by omega)
  have e2 : decide (xs.length > 16) = false := decide_eq_false (by omega)
  generalize hMT : mayT xs = MT
  replace hMT := Aside0.mk hMT
  go_enter Tryd.func29, Tryd.ntmps29
  go_wp2
  clear e1 e2
  go_loopw [3, 4] (fun v3 v wr => ∃ k : Nat, k ≤ xs.length ∧ v = .int .i64 (k : Int) ∧ v3 = .int .i64 (sumF xs k : Nat) ∧ sumF xs k ≤ 2000 * k ∧ Aside0 (okFs xs k = true) ∧ Aside0 (Below w.heap.size w wr)) (fun _ v _ => xs.length - (intOf v).toNat)
  case atStart => exact ⟨0, Nat.zero_le _, rfl, rfl, Nat.le_refl _, ⟨rfl⟩, ⟨Below.refl _ _⟩⟩
  case round =>
    obtain ⟨k, hk, rfl, rfl, hsum, HOK, HB⟩ := hrel
    by_cases hlt : k < xs.length
    · obtain ⟨ad, A0, c0, rfl, x0, x1, hc0, hC0⟩ := row_cf HR.out k hlt xs[k] (List.getElem?_eq_getElem hlt)
      have HSZ := Aside0.mk (HSX.out xs[k] (List.getElem_mem hlt))
      have HGD := Aside0.mk (show xs.getD k fl0 = xs[k] by rw [List.getD_eq_getElem?_getD, List.getElem?_eq_getElem hlt]; rfl)
      generalize xs[k] = x at x0 x1 hc0 hC0 HSZ HGD
      have HX0 := Aside0.mk x0
      have HX1 := Aside0.mk x1
      have hxl : x.2.length ≤ 9223372036854775807 := hC0.2.1
      obtain ⟨n2, hn2⟩ : ∃ n, x.2.length = n := ⟨_, rfl⟩
      rw [hn2] at HX1 hxl
      replace hn2 := Aside0.mk hn2
      clear hc0 hC0 x0 x1
      obtain ⟨bp, hbp⟩ : ∃ b, isPath x.1 = b := ⟨_, rfl⟩
      have HIP := Aside0.mk hbp
      clear hbp
      have x0 := cell_below HX0.out HB.out
      go_wp2_with fail
      refine (risPath_at x.1 _ HSZ.out HIP.out).mono ?_
      rintro e w3 ⟨rfl, hb⟩
      have HB3 := Aside0.mk (below_step HB.out hb)
      clear hb x0
      have x1 := cell_below HX1.out HB3.out
      have x0 := cell_below HX0.out HB3.out
      cases bp with
      | false =>
        have HF := Aside0.mk (mayT_bad hlt x HGD.out (by unfold okF; rw [HIP.out, Bool.false_and, Bool.false_and]))
        go_wp2
        go_ret
        exact ⟨by rw [← hMT.out, HF.out]; rfl, HB3.out⟩
      | true =>
      by_cases h2 : n2 ≤ 2000
      rotate_left
      · have HF := Aside0.mk (mayT_bad hlt x HGD.out (by unfold okF; rw [hn2.out, decide_eq_false h2, Bool.and_false, Bool.false_and]))
        have f1 : decide ((n2 : Int) > 2000) = true := decide_eq_true (by omega)
        have f2 : decide (n2 > 2000) = true := decide_eq_true (by omega)
        go_wp2
        go_ret
        exact ⟨by rw [← hMT.out, HF.out]; rfl, HB3.out⟩
      have f1 : decide ((n2 : Int) > 2000) = false := decide_eq_false (by omega)
      have f2 : decide (n2 > 2000) = false := decide_eq_false (by omega)
      go_upto_region 9 with (fail)
      have HS1 : Aside0 (sumF xs (k + 1) = sumF xs k + n2) := ⟨by show sumF xs k + (xs.getD k fl0).2.length = _; rw [HGD.out, hn2.out]⟩
      by_cases hk0 : k = 0
      · have HO1 := Aside0.mk (show okFs xs (k + 1) = true by show (okFs xs k && okF xs k (xs.getD k fl0)) = true; rw [HGD.out, HOK.out]; unfold okF; rw [HIP.out, hn2.out, decide_eq_true h2, hk0]; rfl)
        have g1 : decide ((k : Int) > 0) = false := decide_eq_false (by omega)
        have g2 : decide (k > 0) = false := decide_eq_false (by omega)
        replace hk0 := Aside0.mk hk0
        go_quiet (fail)
        have HBN := Aside0.mk (pw_below_drewN HB3.out nq)
        replace x1 := cell_below HX1.out HBN.out
        clear x0 g1 g2
        generalize sumF xs k = sm at hsum HS1 ⊢
        go_wp2
        go_roundw
        case rel => exact ⟨k + 1, by omega, by first | rfl | go_num, by first | (rw [HS1.out]; done) | (rw [HS1.out]; go_num), by rw [HS1.out]; omega, HO1, HBN⟩
        case measure => simp [intOf]; omega
      obtain ⟨j, hkj⟩ : ∃ j, k = j + 1 := ⟨k - 1, by omega⟩
      clear hk0
      · obtain ⟨y, hy⟩ : ∃ y, xs.getD j fl0 = y := ⟨_, rfl⟩
        subst hkj
        have hyg : xs[j]? = some y := by rw [← hy, List.getD_eq_getElem?_getD, List.getElem?_eq_getElem (by omega)]; rfl
        obtain ⟨ad', A1, c1, hA', y0, y1, hc1, hC1⟩ := row_cf (Kd.C_below HR.out HB3.out) j (by omega) y hyg
        cases hA'
        replace hyg := Aside0.mk hyg
        clear y1 hc1 hC1
        have g1 : decide (((j + 1 : Nat) : Int) > 0) = true := decide_eq_true (by omega)
        have g2 : decide ((j : Int) + 1 > 0) = true := decide_eq_true (by omega)
        have g3 : Go.RowKit.wrap64 (((j + 1 : Nat) : Int) - 1) = (j : Int) := by unfold Go.RowKit.wrap64; omega
        have g4 : Go.RowKit.wrap64 ((j : Int) + 1 - 1) = (j : Int) := by unfold Go.RowKit.wrap64; omega
        have g5 : decide ((j : Int) < (xs.length : Int)) = true := decide_eq_true (by omega)
        have g6 : Go.RowKit.wrap64 (j : Int) = (j : Int) := by unfold Go.RowKit.wrap64; omega
        have g7 : j < xs.length := by omega
        cases hlt2 : Op.bytesLess y.1.toList x.1.toList with
        | false =>
          have HF := Aside0.mk (mayT_bad hlt x HGD.out (by unfold okF ltS; rw [show j + 1 - 1 = j from rfl, hy, hlt2]; simp))
          go_quiet (fail)
          have HBN := Aside0.mk (pw_below_drewN HB3.out nq)
          go_wp2
          go_ret
          exact ⟨by rw [← hMT.out, HF.out]; rfl, HBN.out⟩
        | true =>
          have HO1 := Aside0.mk (show okFs xs (j + 1 + 1) = true by show (okFs xs (j + 1) && okF xs (j + 1) (xs.getD (j + 1) fl0)) = true; rw [HGD.out, HOK.out]; unfold okF ltS; rw [HIP.out, hn2.out, decide_eq_true h2, show j + 1 - 1 = j from rfl, hy, hlt2]; rfl)
          clear hy
          go_quiet (fail)
          have HBN := Aside0.mk (pw_below_drewN HB3.out nq)
          replace x1 := cell_below HX1.out HBN.out
          clear x0 y0 g1 g2 g3 g4 g5 hlt2
          generalize sumF xs (j + 1) = sm at hsum HS1 ⊢
          go_wp2
          go_roundw
          case rel => exact ⟨j + 1 + 1, by omega, by first | rfl | go_num, by first | (rw [HS1.out]; done) | (rw [HS1.out]; go_num), by rw [HS1.out]; omega, HO1, HBN⟩
          case measure => simp [intOf]; omega
    · obtain rfl : k = xs.length := by omega
      have HV := Aside0.mk (show decide (((sumF xs xs.length : Nat) : Int) ≤ 4000) = MT by
        rw [← hMT.out]
        unfold mayT
        rw [decide_eq_true hlen, HOK.out, Bool.true_and, Bool.true_and]
        exact decide_eq_decide.2 (by omega))
      generalize sumF xs xs.length = sm at HV hsum ⊢
      have hv := HV.out
      have hv2 : decide (sm ≤ 4000) = MT := by rw [← hv]; exact decide_eq_decide.2 (by omega)
      go_wp2
      go_ret
      exact ⟨rfl, HB.out⟩
end Go.Proofs.YtlojemnmdakfiaaDoor.Tr
end
section
namespace Go.Proofs.YtlojemnmdakfiaaDoor.Tr
open Go.RowKit Go.Proofs.YtlojemnmdakfiaaDoorW.PrintWords Go.Proofs.YtlojemnmdakfiaaDoorW.PrintLast Go.Proofs.YtlojemnmdakfiaaDoorW.PrintMore
set_option linter.unusedVariables false
set_option linter.unusedSimpArgs false
open Go.Proofs.YtlojemnmdakfiaaDoor.Hand
theorem file_eq {x y : Fl} (hx : Sha.bytes x.2) (hy : Sha.bytes y.2) : ((x.1.toList == y.1.toList) && ((strOfNums x.2).toList == (strOfNums y.2).toList)) = decide (x = y) := by
  rw [Sha.str_eqB hx hy, Bool.eq_iff_iff, Bool.and_eq_true, beq_iff_eq, decide_eq_true_eq, decide_eq_true_eq]
  refine ⟨fun h => Prod.ext (Prog6.toList_eq h.1) h.2, fun h => by rw [h]; exact ⟨rfl, rfl⟩⟩
set_option maxHeartbeats 6400000 in
set_option maxRecDepth 100000 in
theorem rtsame_calls (A A2 : Option Addr) (c c2 : Nat) (xs ys : List Fl) (w : World) (hr : KF.C w A xs.length xs) (hr2 : KF.C w A2 ys.length ys) (hc : xs.length ≤ c) (hc2 : ys.length ≤ c2) (hx : ∀ x ∈ xs, Sha.bytes x.2) (hy : ∀ x ∈ ys, Sha.bytes x.2) :
    Calls Tryd.prog 13 #[.slice A xs.length c, .slice A2 ys.length c2] w fun e w' => e = .returned (.bool (decide (xs = ys))) ∧ Below w.heap.size w w' := by
  have HR := Aside0.mk hr
  have HS := Aside0.mk hr2
  have HX := Aside0.mk hx
  have HY := Aside0.mk hy
  have hl63 : xs.length ≤ 9223372036854775807 := hr.2.1
  have hm63 : ys.length ≤ 9223372036854775807 := hr2.2.1
  clear hr hr2 hx hy
  by_cases hl : xs.length = ys.length
  rotate_left
  · have e1 : ((xs.length : Int) == (ys.length : Int)) = false := by rw [beq_eq_false_iff_ne]; omega
    have e2 : (xs.length == ys.length) = false := by rw [beq_eq_false_iff_ne]; exact hl
    rw [decide_eq_false (fun h => hl (congrArg List.length h))]
    go_enter Tryd.func13, Tryd.ntmps13
    go_wp2
    go_ret
    exact ⟨rfl, Below.refl _ _⟩
  generalize hD : decide (xs = ys) = d
  replace hD := Aside0.mk hD
  have HL := Aside0.mk hl
  rw [← hl] at hm63 ⊢
  clear hm63 hl
  go_enter Tryd.func13, Tryd.ntmps13
  go_wp2
  go_loopw [5] (fun v wr => ∃ k : Nat, k ≤ xs.length ∧ v = .int .i64 (k : Int) ∧ Aside0 (xs.take k = ys.take k) ∧ Aside0 (Below w.heap.size w wr)) (fun v _ => xs.length - (intOf v).toNat)
  case atStart => exact ⟨0, Nat.zero_le _, rfl, ⟨rfl⟩, ⟨Below.refl _ _⟩⟩
  case round =>
    obtain ⟨k, hk, rfl, HE, HB⟩ := hrel
    by_cases hlt : k < xs.length
    · have hlt2 : k < ys.length := by rw [← HL.out]; exact hlt
      obtain ⟨ad, A0, c0, rfl, x0, x1, hc0, hC0⟩ := row_cf (Kd.C_below HR.out HB.out) k hlt xs[k] (List.getElem?_eq_getElem hlt)
      obtain ⟨ad2, A1, c1, rfl, y0, y1, hc1, hC1⟩ := row_cf (Kd.C_below HS.out HB.out) k hlt2 ys[k] (List.getElem?_eq_getElem hlt2)
      have HFE := Aside0.mk (file_eq (HX.out xs[k] (List.getElem_mem hlt)) (HY.out ys[k] (List.getElem_mem hlt2)))
      have HN : Aside0 (decide (xs[k] = ys[k]) = false → d = false) := ⟨fun h => by
        rw [← hD.out]
        refine decide_eq_false (fun e => ?_)
        have := of_decide_eq_false h
        subst e
        exact this rfl⟩
      have HT : Aside0 (decide (xs[k] = ys[k]) = true → xs.take (k + 1) = ys.take (k + 1)) := ⟨fun h => by
        rw [List.take_succ_eq_append_getElem hlt, List.take_succ_eq_append_getElem hlt2, HE.out, of_decide_eq_true h]⟩
      generalize xs[k] = x at x0 x1 hc0 hC0 HFE HN HT
      generalize ys[k] = y at y0 y1 hc1 hC1 HFE HN HT
      have cx : ∀ n, (convert 30 9 (.slice A0 x.2.length c0)).run Tryd.prog (wr.drewN n) = .ok (.string (strOfNums x.2)) (wr.drewN n) := fun n => Kd.C_string Tryd.underlying30 Tryd.underlying5 Tryd.underlying9 (Kd.C_drewN hC0 n)
      have cy : ∀ n, (convert 30 9 (.slice A1 y.2.length c1)).run Tryd.prog (wr.drewN n) = .ok (.string (strOfNums y.2)) (wr.drewN n) := fun n => Kd.C_string Tryd.underlying30 Tryd.underlying5 Tryd.underlying9 (Kd.C_drewN hC1 n)
      clear hC0 hC1 hc0 hc1
      obtain ⟨b1, hb1⟩ : ∃ b, (x.1.toList == y.1.toList) = b := ⟨_, rfl⟩
      obtain ⟨b2, hb2⟩ : ∃ b, ((strOfNums x.2).toList == (strOfNums y.2).toList) = b := ⟨_, rfl⟩
      rw [hb1, hb2] at HFE
      obtain ⟨n1, hn1⟩ : ∃ n, x.2.length = n := ⟨_, rfl⟩
      obtain ⟨n2, hn2⟩ : ∃ n, y.2.length = n := ⟨_, rfl⟩
      rw [hn1] at x1 cx
      rw [hn2] at y1 cy
      clear hn1 hn2
      go_upto_region 6 with (fail)
      rcases b1 with _ | _
      · go_quiet (fail)
        have HBN := Aside0.mk (pw_below_drewN HB.out nq)
        have hdd := HN.out HFE.out.symm
        go_wp2
        go_ret
        exact ⟨by rw [hdd]; rfl, HBN.out⟩
      rcases b2 with _ | _
      · go_quiet (fail)
        have HBN := Aside0.mk (pw_below_drewN HB.out nq)
        have hdd := HN.out HFE.out.symm
        go_wp2
        go_ret
        exact ⟨by rw [hdd]; rfl, HBN.out⟩
      · go_quiet (fail)
        have HBN := Aside0.mk (pw_below_drewN HB.out nq)
        replace HT := Aside0.mk (HT.out HFE.out.symm)
        go_wp2
        go_roundw
        case rel => exact ⟨k + 1, by omega, by first | rfl | go_num, HT, HBN⟩
        case measure => simp [intOf]; omega
    · obtain rfl : k = xs.length := by omega
      have hdd : d = true := by
        rw [← hD.out]
        refine decide_eq_true ?_
        have h := HE.out
        rw [List.take_length, HL.out, List.take_length] at h
        exact h
      go_wp2
      go_ret
      exact ⟨by rw [hdd]; rfl, HB.out⟩
end Go.Proofs.YtlojemnmdakfiaaDoor.Tr
end
