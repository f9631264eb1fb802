/- What calls of Go functions of this seat come to, as the rows need it: under the conditions that each theorem names. -/
import Derived.Test.YtebjibkgefgalaaDoorJKnown
import Derived.Test.YtebjibkgefgalaaDoorJRR
import Derived.Test.YtebjibkgefgalaaDoorJOpen
namespace Go.Proofs.YtebjibkgefgalaaDoor.Jr
open Go.RowKit Go.Proofs.YtebjibkgefgalaaDoorW.PrintWords Go.Proofs.YtebjibkgefgalaaDoorW.PrintLast Go.Proofs.YtebjibkgefgalaaDoorW.PrintMore
set_option linter.unusedVariables false
set_option linter.unusedSimpArgs false
open Go.Proofs.YtebjibkgefgalaaDoor.Hand (B info5 rowD row_at)
open Go.Proofs.YtebjibkgefgalaaDoor.Sha (Tab heap_new heap_keep cell_of)
open Go.Proofs.YtebjibkgefgalaaDoor.Ref (hk new_calls)
/-- The records that are told: their heads' block; the rows from the i-th on as they were told, the i-th from byte k on. -/
structure JL (W : World) (G : Nat) (g cc : Nat → Nat) (xs : List (List Int)) (i k : Nat) : Prop where
  hd : ∃ cur : Array Value, W.heap[G]? = some (.cells cur 22 (0, 0)) ∧ ∀ (j : Nat) (x : List Int), xs[j]? = some x → cur[j]? = some (.slice (some ⟨g j, 0, none⟩) x.length (cc j))
  row : ∀ (x : List Int), xs[i]? = some x → Bk W (g i) k x
  rows : ∀ (j : Nat) (x : List Int), i < j → xs[j]? = some x → Bk W (g j) 0 x
theorem JL.below {W W' : World} {G : Nat} {g cc : Nat → Nat} {xs : List (List Int)} {i k : Nat} (h : JL W G g cc xs i k) (hb : Below W.heap.size W W') : JL W' G g cc xs i k := by
  obtain ⟨cur, h1, h2⟩ := h.hd
  exact ⟨⟨cur, heap_keep h1 hb, h2⟩, fun x hx => (h.row x hx).below hb, fun j x hj hx => (h.rows j x hj hx).below hb⟩
theorem JL.next {W : World} {G : Nat} {g cc : Nat → Nat} {xs : List (List Int)} {i k : Nat} (h : JL W G g cc xs i k) : JL W G g cc xs (i + 1) 0 :=
  ⟨h.hd, fun x hx => h.rows _ x (Nat.lt_succ_self i) hx, fun j x hj hx => h.rows j x (by omega) hx⟩
theorem JL.head {W : World} {G : Nat} {g cc : Nat → Nat} {xs : List (List Int)} {i k : Nat} (h : JL W G g cc xs i k) (j : Nat) (x : List Int) (hx : xs[j]? = some x) : W.cell? ⟨G, j, none⟩ = some (.slice (some ⟨g j, 0, none⟩) x.length (cc j)) := by
  obtain ⟨cur, h1, h2⟩ := h.hd
  exact (cell_of h1).2 (h2 j x hx)
theorem JL.set {W : World} {G : Nat} {g cc : Nat → Nat} {xs : List (List Int)} {i k : Nat} {x : List Int} (h : JL W G g cc xs i k) (hx : xs[i]? = some x) (hinc : ∀ (j : Nat) (y : List Int), i < j → xs[j]? = some y → g i < g j) (y : Int) : JL (W.setCell ⟨g i, k, none⟩ (.int .u8 y)) G g cc xs i (k + 1) := by
  obtain ⟨cur, h1, h2⟩ := h.hd
  obtain ⟨c5, h5, _⟩ := h.row x hx
  refine ⟨⟨cur, (Below.heap_setCell _ ⟨g i, k, none⟩ _ G (fun e => ?_)).trans h1, h2⟩, fun z hz => (h.row z hz).set y, fun j z hj hz => (h.rows j z hj hz).keep (fun cells hk => (Below.heap_setCell _ ⟨g i, k, none⟩ _ (g j) (fun e => ?_)).trans hk)⟩
  · rw [e] at h1
    rw [show (⟨g i, k, none⟩ : Addr).block = g i from rfl, h5] at h1
    cases h1
  · have := hinc j z hj hz
    have e2 : g j = g i := e
    omega
theorem cell_below {w w' : World} {a : Addr} {v : Value} (h : w.cell? a = some v) (hb : Below w.heap.size w w') : w'.cell? a = some v :=
  (hb.cell (World.block_lt_of_cell? w _ h)).trans h
def jlr_T11 : Bool × List (List Nat × List Nat) := (true, [([], []), ([], []), ([0, 1], [0, 1]), ([2], [2]), ([3], [3]), ([], []), ([], []), ([5, 6], [5, 6]), ([7], [7]), ([8], [8]), ([4, 9], [4, 9])])
def jlr_B11 : List Nat := [0, 0, 3, 7, 15, 0, 0, 96, 224, 480, 1023]
theorem jlr_tab11 : rtab .any (opsOf Tryd.f4 11) = jlr_T11 := by kernel_rfl
theorem jlr_bits11 : waitsOk jlr_T11.2 jlr_B11 = true := by kernel_rfl
set_option maxHeartbeats 3200000 in
set_option maxRecDepth 100000 in
theorem reads_calls (A : Option Addr) (c : Nat) (l : List Int) (w : World) (hr : B.C w A l.length l) (hc : l.length ≤ c) (hb : bys l) (hT : Tab w) :
    Calls Tryd.prog 4 #[.slice A l.length c] w fun e w' => e = .returned (.bool true) ∧ Below w.heap.size w w' := by
  have HR := Aside0.mk hr
  have HY := Aside0.mk hb
  have HTAB := Aside0.mk hT
  have hl63 : l.length ≤ 9223372036854775807 := hr.2.1
  clear hr hT hb
  by_cases hbig : 20000 < l.length
  · have e1 : decide ((l.length : Int) > 20000) = true := decide_eq_true (by omega)
    have e2 : decide (l.length > 20000) = true := decide_eq_true (by omega)
    clear hbig
    go_enter Tryd.func4, Tryd.ntmps4
    go_wp2_with fail
    refine (known_calls _ HTAB.out).mono ?_
    rintro e w1 ⟨rfl, hb⟩
    go_wp2
    go_ret
    exact ⟨rfl, hb⟩
  have hl4 : l.length ≤ 20000 := by omega
  clear hbig
  have e1 : decide ((l.length : Int) > 20000) = false := decide_eq_false (by omega)
  have e2 : decide (l.length > 20000) = false := decide_eq_false (by omega)
  go_enter Tryd.func4, Tryd.ntmps4
  have HLE := Aside0.mk hl4
  clear hl4
  go_upto_region 4 with (first | ((with_reducible refine gate_dst (N := 14) rfl ?_); refine Kd.R_lit B (w0 := w) w.heap.size 5 ?hg (N := 14) ?hd (xs := ([] : List Int)) (inner := []) (ok := fun _ => True) (okp := fun _ => True) ?hr ?hp (fun _ hk => hk) trivial (Below.refl _ _) (Nat.le_refl _) (by simp) ?_; (case hd => rfl); (case hg => rfl); (case hr => first | (go_simp; done) | (go_simp; rfl)); (case hp => exact Reps.none _ _); intro v1 w2 ho hb1 hg hnew; have HO := Aside0.mk ho; have HB := Aside0.mk hb1; clear ho hb1 hg hnew) | ((with_reducible refine gate_builtin (b := .append) (xs := #[.tmp 14, .tmp 15]) rfl ?_); at_builtin; refine Kd.R_append_rows B (w0 := w) w.heap.size rfl (.tmp 14) (.tmp 15) 22 5 (.int .u8 0) 1 rfl Tryd.underlying22 info5 rfl (by decide) (by omega) _ ([]) (l) _ _ _ (fun _ => True) (fun _ => False) rfl rfl HO.out (Kd.C_below HR.out HB.out) (fun _ _ h => h) (fun _ h => h.elim) (fun _ _ => trivial) HB.out HB.out.size ?aL ?_; (case aL => simp; have := HLE.out; omega); intro v2 w3 ho hb2 hg hat; rw [List.nil_append] at ho; obtain ⟨A2, c2, rfl, hc2, hr2⟩ := Kd.R_reads ho; have HC2 := Aside0.mk hr2; clear hr2; have HB2 := Aside0.mk hb2; clear ho hb2 hg hat))
  clear HO HB e1 e2
  go_wp2_with fail
  refine (read_calls A2 c2 l _ HC2.out hc2 HY.out (by have := HLE.out; omega) (HTAB.out.below HB2.out)).mono ?_
  rintro e w4 ⟨v4, rfl, hrs, hb⟩
  have HB34 := Aside0.mk hb
  have HRS := Aside0.mk hrs
  clear hb hrs
  go_wp2_with fail
  refine (new_calls _).mono ?_
  rintro e w5 ⟨gh, rfl, hgh, hgk, hb⟩
  have HGK := Aside0.mk hgk
  have HB45 := Aside0.mk hb
  clear hgh hgk hb
  go_wp2_with fail
  refine (rread_calls gh A c l _ HGK.out (Kd.C_below HR.out (below_step (below_step HB2.out HB34.out) HB45.out)) hc HY.out (by have := HLE.out; omega)).mono ?_
  rintro e w6 ⟨v6, rfl, ho, hb⟩
  have HB56 := Aside0.mk hb
  have HMR := Aside0.mk (show Kd.R KB 22 w6 w5.heap.size (fun k => w5.heap.size ≤ k) v6 (readJ l).1 from Kd.R_mono (Kd.R_bound ho) (fun k hk => hk.2.1))
  clear ho hb
  have HXS := Aside0.mk (show ∀ x ∈ (readJ l).1, okR x ∧ bys x from (recs_inv l HY.out (by have := HLE.out; omega) (l.length + 1) 0).1)
  have HXN := Aside0.mk (show (readJ l).1.length ≤ 20000 by
    have h1 := (recs_inv l HY.out (by have := HLE.out; omega) (l.length + 1) 0)
    have h2 : (joinJ (readJ l).1).length ≤ l.length := by
      have h3 := congrArg List.length h1.2.1
      simp only [List.length_append, List.drop_zero] at h3
      show (joinJ (recs l (l.length + 1) 0).1).length ≤ _
      omega
    have h4 : ∀ ys : List (List Int), ys.length ≤ (joinJ ys).length := by
      intro ys
      induction ys with
      | nil => simp
      | cons y ys ih =>
        have := jform_len y
        rw [joinJ_cons]
        simp only [List.length_cons, List.length_append]
        omega
    have := h4 (readJ l).1
    have := HLE.out
    omega)
  generalize (readJ l).1 = xs at HRS HMR HXS HXN ⊢
  generalize (readJ l).2 = at_ at *
  have HB36 := Aside0.mk ((HB34.out.trans (HB45.out.mono HB34.out.size)).trans (HB56.out.mono (Nat.le_trans HB34.out.size HB45.out.size)))
  have hn63 : xs.length ≤ 9223372036854775807 := by have := HXN.out; omega
  obtain ⟨AL, cL, hvL, hcL, _⟩ := Recs.C HRS.out (fun x hx => by have := (HXS.out x hx).1.2; omega) hn63
  subst hvL
  obtain ⟨AM, cM, rfl, hcM, _⟩ := Kd.R_reads HMR.out
  have HGG := Aside0.mk (show ∃ (G : Nat) (g cc : Nat → Nat), (∀ (i j : Nat) (y : List Int), i < j → xs[j]? = some y → g i < g j) ∧ (∀ (j : Nat) (y : List Int), xs[j]? = some y → w3.heap.size ≤ g j ∧ g j < w5.heap.size) ∧ (0 < xs.length → AL = some ⟨G, 0, none⟩ ∧ JL w6 G g cc xs 0 0) by
    obtain ⟨hs, g, cc, ho, hln, hit⟩ := HRS.out
    have hlt : ∀ j y, xs[j]? = some y → w3.heap.size ≤ g j ∧ g j < w5.heap.size := fun j y hy => ⟨(hit j y hy).2.2.1, Nat.lt_of_lt_of_le (hit j y hy).2.2.2.1.lt HB45.out.size⟩
    rcases ho.2 with ⟨e0, h0⟩ | ⟨G, cap, cur, e0, _, hgb, hle, _, hsz, hcur⟩
    · exact ⟨0, g, cc, fun i j y hi hy => (hit j y hy).2.2.2.2 i hi, hlt, fun h => absurd h (by omega)⟩
    · injection e0 with e0 _ _
      refine ⟨G, g, cc, fun i j y hi hy => (hit j y hy).2.2.2.2 i hi, hlt, fun _ => ⟨e0, JL.below (W := w5) (JL.below (W := w4) ⟨⟨cur, hgb, fun j x hj => ?_⟩, fun x hx => (hit 0 x hx).2.2.2.1, fun j x _ hx => (hit j x hx).2.2.2.1⟩ HB45.out) HB56.out⟩⟩
      have hj2 : j < xs.length := (List.getElem?_eq_some_iff.1 hj).1
      rw [← (hit j x hj).1, ← hcur, List.getElem?_take_of_lt (by omega), Array.getElem?_toList])
  obtain ⟨G, g, cc, hinc, hglt, hJL⟩ := HGG.out
  have HINC := Aside0.mk hinc
  have HGLT := Aside0.mk hglt
  have HAL := Aside0.mk (fun h => (hJL h).1)
  have HJL0 := Aside0.mk (fun h => (hJL h).2)
  clear HGG hinc hglt hJL HRS HGK HB34 HB45 HB56
  have en : ((xs.length : Int) != (xs.length : Int)) = false := by simp
  go_wp2
  go_loopw [40] (fun v wr => ∃ i : Nat, i ≤ xs.length ∧ v = .int .i64 (i : Int) ∧ Aside0 (0 < xs.length → JL wr G g cc xs i 0) ∧ Aside0 (Kd.R KB 22 wr w5.heap.size (fun k => w5.heap.size ≤ k) (.slice AM xs.length cM) xs) ∧ Aside0 (Below w3.heap.size w3 wr)) (fun i _ => xs.length - (intOf i).toNat)
  case atStart => exact ⟨0, Nat.zero_le _, rfl, HJL0, HMR, HB36⟩
  case round =>
    clear HJL0 HMR HB36 en
    obtain ⟨i, hi, rfl, HJL, HM, HB⟩ := hrel
    by_cases hlt : i < xs.length
    · have e1 : decide ((i : Int) < (xs.length : Int)) = true := decide_eq_true (by omega)
      have e1b : decide (i < xs.length) = true := decide_eq_true hlt
      obtain rfl := HAL.out (by omega)
      have HMC := Aside0.mk (show Kd.C KB wr AM xs.length xs from by
        obtain ⟨A', c', e, _, hC⟩ := Kd.R_reads HM.out
        injection e with e1
        subst e1
        exact hC)
      have HRD := Aside0.mk (show rowD xs i = xs[i] by unfold rowD; rw [List.getD_eq_getElem?_getD, List.getElem?_eq_getElem hlt]; rfl)
      have HXI := Aside0.mk (show xs[i]? = some xs[i] from List.getElem?_eq_getElem hlt)
      have HXL := Aside0.mk (show (xs[i]).length ≤ 8000 from (HXS.out _ (List.getElem_mem hlt)).1.2)
      generalize xs[i] = x at HRD HXI HXL
      obtain ⟨ad, AY, cY, rfl, hy0, hyc, hyC⟩ := row_at HMC.out i hlt
      rw [HRD.out] at hy0 hyc hyC
      have HY0 := Aside0.mk hy0
      have HYC := Aside0.mk hyC
      clear hy0 hyC
      have hx63 : x.length ≤ 9223372036854775807 := by have := HXL.out; omega
      go_upto_region 11 with (fail)
      have hS0 : Below wr.heap.size wr wr.drew := below_drew1 (Below.refl _ _)
      refine start_ (n := 11) (S := fun w' => Below wr.heap.size wr w') (ds := []) #[false, false, false, false, false, false, false, false, false, false, false] (by kernel_rfl) rfl rfl (by exact hS0) (fun hHeld => ?_)
      refine with_tabW jlr_tab11 jlr_bits11 (fun HT_ HW_ => ?_)
      generalize wr.drew = W0 at hHeld hS0 ⊢
      refine pure_ (i := 0) (N := some 43) (v := ?_) (a' := ?_) #[true, false, false, false, false, false, false, false, false, false, false] rfl rfl (any_of HT_.out (by kernel_rfl)) (fun _ _ _ h => h) (Or.inl ⟨by rfl, ?_⟩) ?_ ?_
      rotate_left
      · intro w'
        go_simp
        with_reducible rfl
      rotate_left
      · simp only [Act.put, List.setIfInBounds_toArray, List.set_cons_zero, List.set_cons_succ, i64_w, i32_w]
        rfl
      refine pure_ (i := 1) (N := some 44) (v := ?_) (a' := ?_) #[true, true, false, false, false, false, false, false, false, false, false] rfl rfl (any_of HT_.out (by kernel_rfl)) (fun _ _ _ h => h) (Or.inl ⟨by rfl, ?_⟩) ?_ ?_
      rotate_left
      · intro w'
        go_simp
        with_reducible rfl
      rotate_left
      · simp only [Act.put, List.setIfInBounds_toArray, List.set_cons_zero, List.set_cons_succ, i64_w, i32_w]
        rfl
      refine pure_ (i := 2) (N := some 45) (v := ?_) (a' := ?_) #[true, true, true, false, false, false, false, false, false, false, false] rfl rfl (any_of HT_.out (by kernel_rfl)) (fun _ _ _ h => h) (Or.inl ⟨by rfl, ?_⟩) ?_ ?_
      rotate_left
      · intro w'
        go_simp
        with_reducible rfl
      rotate_left
      · simp only [Act.put, List.setIfInBounds_toArray, List.set_cons_zero, List.set_cons_succ, i64_w, i32_w]
        rfl
      refine pure_ (i := 5) (N := some 48) (v := ?_) (a' := ?_) #[true, true, true, false, false, true, false, false, false, false, false] rfl rfl (any_of HT_.out (by kernel_rfl)) (fun _ _ _ h => h) (Or.inl ⟨by rfl, ?_⟩) ?_ ?_
      rotate_left
      · intro w'
        go_simp
        with_reducible rfl
      rotate_left
      · simp only [Act.put, List.setIfInBounds_toArray, List.set_cons_zero, List.set_cons_succ, i64_w, i32_w]
        rfl
      refine pure_ (i := 6) (N := some 49) (v := ?_) (a' := ?_) #[true, true, true, false, false, true, true, false, false, false, false] rfl rfl (any_of HT_.out (by kernel_rfl)) (fun _ _ _ h => h) (Or.inl ⟨by rfl, ?_⟩) ?_ ?_
      rotate_left
      · intro w'
        go_simp
        with_reducible rfl
      rotate_left
      · simp only [Act.put, List.setIfInBounds_toArray, List.set_cons_zero, List.set_cons_succ, i64_w, i32_w]
        rfl
      refine pure_ (i := 7) (N := some 50) (v := ?_) (a' := ?_) #[true, true, true, false, false, true, true, true, false, false, false] rfl rfl (any_of HT_.out (by kernel_rfl)) (fun _ _ _ h => h) (Or.inl ⟨by rfl, ?_⟩) ?_ ?_
      rotate_left
      · intro w'
        go_simp
        with_reducible rfl
      rotate_left
      · simp only [Act.put, List.setIfInBounds_toArray, List.set_cons_zero, List.set_cons_succ, i64_w, i32_w]
        rfl
      refine take_ (i := 3) (N := some 46) (v := ?_) (a' := ?_) #[true, true, true, true, false, true, true, true, false, false, false] rfl rfl (take_ofW HT_.out HW_.out (by kernel_rfl)) (fun _ _ _ h => h) (Or.inl ⟨by rfl, ?_⟩) hHeld ?_ ?_
      rotate_left
      · intro w' hSt
        have hx0 := (HJL.out (by omega)).below hSt |>.head i x HXI.out
        go_simp
        with_reducible rfl
      rotate_left
      · simp only [Act.put, List.setIfInBounds_toArray, List.set_cons_zero, List.set_cons_succ, i64_w, i32_w]
        rfl
      refine take_ (i := 4) (N := some 47) (v := ?_) (a' := ?_) #[true, true, true, true, true, true, true, true, false, false, false] rfl rfl (take_ofW HT_.out HW_.out (by kernel_rfl)) (fun _ _ _ h => h) (Or.inl ⟨by rfl, ?_⟩) hHeld ?_ ?_
      rotate_left
      · intro w' hSt
        have hcv : (convert 22 9 (.slice (some ⟨g i, 0, none⟩) x.length (cc i))).run Tryd.prog w' = .ok (.string (strOfNums x)) w' := Kd.C_string Tryd.underlying22 Tryd.underlying5 Tryd.underlying9 ((((HJL.out (by omega)).below hSt).row x HXI.out).C (by have := HXL.out; omega))
        go_simp
        with_reducible rfl
      rotate_left
      · simp only [Act.put, List.setIfInBounds_toArray, List.set_cons_zero, List.set_cons_succ, i64_w, i32_w]
        rfl
      refine take_ (i := 8) (N := some 51) (v := ?_) (a' := ?_) #[true, true, true, true, true, true, true, true, true, false, false] rfl rfl (take_ofW HT_.out HW_.out (by kernel_rfl)) (fun _ _ _ h => h) (Or.inl ⟨by rfl, ?_⟩) hHeld ?_ ?_
      rotate_left
      · intro w' hSt
        have hy0 := cell_below HY0.out hSt
        go_simp
        with_reducible rfl
      rotate_left
      · simp only [Act.put, List.setIfInBounds_toArray, List.set_cons_zero, List.set_cons_succ, i64_w, i32_w]
        rfl
      refine take_ (i := 9) (N := some 52) (v := ?_) (a' := ?_) #[true, true, true, true, true, true, true, true, true, true, false] rfl rfl (take_ofW HT_.out HW_.out (by kernel_rfl)) (fun _ _ _ h => h) (Or.inl ⟨by rfl, ?_⟩) hHeld ?_ ?_
      rotate_left
      · intro w' hSt
        have hcv : (convert 22 9 (.slice AY x.length cY)).run Tryd.prog w' = .ok (.string (strOfNums x)) w' := Kd.C_string Tryd.underlying22 Tryd.underlying5 Tryd.underlying9 (Kd.C_below HYC.out hSt)
        go_simp
        with_reducible rfl
      rotate_left
      · simp only [Act.put, List.setIfInBounds_toArray, List.set_cons_zero, List.set_cons_succ, i64_w, i32_w]
        rfl
      refine pure_ (i := 10) (N := some 53) (v := ?_) (a' := ?_) #[true, true, true, true, true, true, true, true, true, true, true] rfl rfl (any_of HT_.out (by kernel_rfl)) (fun _ _ _ h => h) (Or.inl ⟨by rfl, ?_⟩) ?_ ?_
      rotate_left
      · intro w'
        go_simp
        with_reducible rfl
      rotate_left
      · simp only [Act.put, List.setIfInBounds_toArray, List.set_cons_zero, List.set_cons_succ, i64_w, i32_w]
        rfl
      refine done_ (done_of HT_.out (by kernel_rfl)) ?_
      have HJ9 := Aside0.mk ((HJL.out (by omega)).below hHeld)
      have HM9 := Aside0.mk (Kd.R_below HM.out hHeld)
      have HB9 := Aside0.mk (HB.out.trans (hHeld.mono HB.out.size))
      have hx0 := HJ9.out.head i x HXI.out
      clear hS0 hHeld HT_ HW_ HB HJL HM HMC HY0 HYC hyc
      go_wp2
      clear hx0
      go_loopw [59] (fun v wr => ∃ k : Nat, k ≤ x.length ∧ v = .int .i64 (k : Int) ∧ Aside0 (JL wr G g cc xs i k) ∧ Aside0 (Kd.R KB 22 wr w5.heap.size (fun k => w5.heap.size ≤ k) (.slice (some ad) xs.length cM) xs) ∧ Aside0 (Below w3.heap.size w3 wr)) (fun k _ => x.length - (intOf k).toNat)
      case atStart => exact ⟨0, Nat.zero_le _, rfl, HJ9, HM9, HB9⟩
      case round =>
        clear HJ9 HM9 HB9
        obtain ⟨k, hk, rfl, HJ, HM, HB⟩ := hrel
        by_cases hlk : k < x.length
        · have e2 : decide ((k : Int) < (x.length : Int)) = true := decide_eq_true (by omega)
          have e2b : decide (k < x.length) = true := decide_eq_true hlk
          have hx0 := HJ.out.head i x HXI.out
          have hbk := HJ.out.row x HXI.out
          obtain ⟨hy0, hy1⟩ := hbk.cell x[k] (List.getElem?_eq_getElem hlk)
          generalize x[k] = y at hy0
          clear hbk
          have HST := Aside0.mk (show ∀ z : Int, JL (wr.setCell ⟨g i, k, none⟩ (.int .u8 z)) G g cc xs i (k + 1) ∧ Kd.R KB 22 (wr.setCell ⟨g i, k, none⟩ (.int .u8 z)) w5.heap.size (fun k => w5.heap.size ≤ k) (.slice (some ad) xs.length cM) xs ∧ Below w3.heap.size w3 (wr.setCell ⟨g i, k, none⟩ (.int .u8 z)) from fun z =>
            ⟨HJ.out.set HXI.out (fun j y hj hy => HINC.out i j y hj hy) z, Kd.R_far (p := ⟨g i, k, none⟩) HM.out (fun q hq e => by
              have h1 := (HGLT.out i x HXI.out).2
              have e2 : q = g i := e
              omega) _, HB.out.setCell (p := ⟨g i, k, none⟩) (HGLT.out i x HXI.out).1 _⟩)
          go_wp2
          go_roundw
          case rel => exact ⟨k + 1, by omega, by go_num, ⟨(HST.out _).1⟩, ⟨(HST.out _).2.1⟩, ⟨(HST.out _).2.2⟩⟩
          case measure => simp [intOf]; omega
        · obtain rfl : k = x.length := by omega
          have HN := Aside0.mk HJ.out.next
          clear hlk hk
          go_wp2
          go_roundw
          case rel => exact ⟨i + 1, by omega, by go_num, ⟨fun _ => HN.out⟩, HM, HB⟩
          case measure => simp [intOf]; omega
    · obtain rfl : i = xs.length := by omega
      clear hlt hi
      have h2 : (convert 22 9 (.slice A2 l.length c2)).run Tryd.prog wr = .ok (.string (strOfNums l)) wr := Kd.C_string Tryd.underlying22 Tryd.underlying5 Tryd.underlying9 (Kd.C_below HC2.out HB.out)
      have h3 : (convert 22 9 (.slice A l.length c)).run Tryd.prog wr = .ok (.string (strOfNums l)) wr := Kd.C_string Tryd.underlying22 Tryd.underlying5 Tryd.underlying9 (Kd.C_below HR.out (below_step HB2.out HB.out))
      have HBF := Aside0.mk (below_step HB2.out HB.out)
      go_wp2_with fail
      refine (known_calls _ (HTAB.out.below HBF.out)).mono ?_
      rintro e w8 ⟨rfl, hb⟩
      go_wp2
      go_ret
      exact ⟨rfl, below_step HBF.out hb⟩
theorem reads_walk (a0 : Option Addr) (c0 : Nat) (x0 : List Int) (w : World) (hT : Tab w) (C0 : B.C w a0 x0.length x0) (l0 : x0.length ≤ c0) (k0 : ∀ x ∈ x0, (Lit.int .u8 x).wf = true) :
    Calls Tryd.prog 4 #[.slice a0 x0.length c0] w fun e w' => e = .returned (.bool true) ∧ Below w.heap.size w w' :=
  reads_calls a0 c0 x0 w C0 l0 (fun x hx => (by have := k0 x hx; simp [Lit.wf, IntKind.min, IntKind.max, IntKind.signed, IntKind.bits] at this; omega)) hT
end Go.Proofs.YtebjibkgefgalaaDoor.Jr
