/- What calls of Go functions of this seat come to, as the rows need it: under the conditions that each theorem names. -/
import Derived.Test.YtebjibkgefgalaaDoorJReads
import Derived.Test.YtebjibkgefgalaaDoorJSize
namespace Go.Proofs.YtebjibkgefgalaaDoor.Jr
open Go.RowKit Go.Proofs.YtebjibkgefgalaaDoorW.PrintWords Go.Proofs.YtebjibkgefgalaaDoorW.PrintLast Go.Proofs.YtebjibkgefgalaaDoorW.PrintMore
set_option linter.unusedVariables false
set_option linter.unusedSimpArgs false
open Go.Proofs.YtebjibkgefgalaaDoor.Hand (B info5 rowD row_at)
open Go.Proofs.YtebjibkgefgalaaDoor.Sha (Tab heap_new heap_keep cell_of)
theorem rowD_get {xs : List (List Int)} {k : Nat} (h : k < xs.length) : rowD xs k = xs[k] := by unfold rowD; rw [List.getD_eq_getElem?_getD, List.getElem?_eq_getElem h]; rfl
theorem join_take {xs : List (List Int)} {k : Nat} (h : k < xs.length) : joinJ (xs.take (k + 1)) = joinJ (xs.take k) ++ jform xs[k] := by rw [List.take_succ_eq_append_getElem h, joinJ_append]; simp [joinJ]
theorem okL_take {xs : List (List Int)} {k : Nat} (h : k < xs.length) (h1 : okL (xs.take k)) (h2 : okR xs[k]) (h3 : bys xs[k]) : okL (xs.take (k + 1)) := by
  rw [List.take_succ_eq_append_getElem h]
  intro y hy
  rcases List.mem_append.1 hy with h4 | h4
  · exact h1 y h4
  · obtain rfl := List.mem_singleton.1 h4
    exact ⟨h2, h3⟩
theorem join_len {l : List (List Int)} (h : okL l) : (joinJ l).length ≤ 8017 * l.length := by
  induction l with
  | nil => simp [joinJ]
  | cons x l ih =>
    have h1 := ih (fun y hy => h y (by simp [hy]))
    have h2 := jform_len x
    have h4 := (h x (by simp)).1.2
    have h3 := (rowL_len x (by omega)).2
    rw [joinJ_cons]
    simp only [List.length_append, List.length_cons]
    omega
def jmr_T23 : Bool × List (List Nat × List Nat) := (true, [([], []), ([], []), ([0, 1], [0, 1]), ([2], [2]), ([3], [3]), ([], []), ([], []), ([5, 6], [5, 6]), ([7], [7]), ([8], [8]), ([4, 9], [4, 9])])
def jmr_B23 : List Nat := [0, 0, 3, 7, 15, 0, 0, 96, 224, 480, 1023]
theorem jmr_tab23 : rtab .any (opsOf Tryd.f6 23) = jmr_T23 := by kernel_rfl
theorem jmr_bits23 : waitsOk jmr_T23.2 jmr_B23 = true := by kernel_rfl
set_option maxHeartbeats 3200000 in
set_option maxRecDepth 100000 in
theorem more_calls (A M : Option Addr) (c d : Nat) (xs : List (List Int)) (m : List Int) (w : World) (hr : Kd.C KB w A xs.length xs) (hm : B.C w M m.length m) (hc : xs.length ≤ c) (hd : m.length ≤ d) (hb : ∀ x ∈ xs, bys x) (hbm : bys m) (hT : Tab w) :
    Calls Tryd.prog 6 #[.slice A xs.length c, .slice M m.length d] w fun e w' => e = .returned (.bool true) ∧ Below w.heap.size w w' := by
  have HR := Aside0.mk hr
  have HM := Aside0.mk hm
  have HY := Aside0.mk hb
  have HYM := Aside0.mk hbm
  have HTAB := Aside0.mk hT
  have hl63 : xs.length ≤ 9223372036854775807 := hr.2.1
  have hm63 : m.length ≤ 9223372036854775807 := hm.2.1
  clear hr hm hT hb hbm
  by_cases hbig : 20 < xs.length
  · have e1 : decide ((xs.length : Int) > 20) = true := decide_eq_true (by omega)
    have e2 : decide (xs.length > 20) = true := decide_eq_true (by omega)
    clear hbig
    go_enter Tryd.func6, Tryd.ntmps6
    go_wp2_with fail
    refine (known_calls _ HTAB.out).mono ?_
    rintro e w1 ⟨rfl, hb⟩
    go_wp2
    go_ret
    exact ⟨rfl, hb⟩
  have e1 : decide ((xs.length : Int) > 20) = false := decide_eq_false (by omega)
  have e2 : decide (xs.length > 20) = false := decide_eq_false (by omega)
  have HN := Aside0.mk (show xs.length ≤ 20 by omega)
  clear hbig
  go_enter Tryd.func6, Tryd.ntmps6
  go_wp2_with fail
  refine (size_calls A c xs _ HR.out hc).mono ?_
  rintro e w1 ⟨z, rfl, -, hw⟩
  replace hw := hw.symm
  subst hw
  by_cases hz : z > 20000
  · have e3 : decide (z > 20000) = true := decide_eq_true hz
    clear hz
    go_wp2_with fail
    refine (known_calls _ HTAB.out).mono ?_
    rintro e w1 ⟨rfl, hb⟩
    go_wp2
    go_ret
    exact ⟨rfl, hb⟩
  have e3 : decide (z > 20000) = false := decide_eq_false hz
  clear hz
  by_cases hmb : 5000 < m.length
  · have e4 : decide ((m.length : Int) > 5000) = true := decide_eq_true (by omega)
    have e5 : decide (m.length > 5000) = true := decide_eq_true hmb
    clear hmb
    go_wp2_with fail
    refine (known_calls _ HTAB.out).mono ?_
    rintro e w1 ⟨rfl, hb⟩
    go_wp2
    go_ret
    exact ⟨rfl, hb⟩
  have e4 : decide ((m.length : Int) > 5000) = false := decide_eq_false (by omega)
  have e5 : decide (m.length > 5000) = false := decide_eq_false (by omega)
  have HMN := Aside0.mk (show m.length ≤ 5000 by omega)
  clear hmb
  go_wp2
  clear e1 e2 e3 e4 e5
  go_loopw [5, 32] (fun v u wr => ∃ k : Nat, k ≤ xs.length ∧ u = .int .i64 (k : Int) ∧ Aside0 (okL (xs.take k)) ∧ Aside0 (Kd.R B 5 wr w.heap.size (fun _ => True) v (joinJ (xs.take k))) ∧ Aside0 (Below w.heap.size w wr)) (fun _ u _ => xs.length - (intOf u).toNat)
  case atStart => exact ⟨0, Nat.zero_le _, rfl, ⟨fun x hx => by simp at hx⟩, ⟨by simpa [joinJ] using Kd.R_nil _ _ _ _ _⟩, ⟨Below.refl _ _⟩⟩
  case round =>
    obtain ⟨k, hk, rfl, HOKL, HO, HB⟩ := hrel
    by_cases hlt : k < xs.length
    · obtain ⟨ad, A0, c0, rfl, hcell, hc0, hC0⟩ := row_at (Kd.C_below HR.out HB.out) k hlt
      rw [rowD_get hlt] at hcell hc0 hC0
      have HJT := Aside0.mk (join_take hlt)
      have HOT := Aside0.mk (fun h => okL_take hlt HOKL.out h (HY.out _ (List.getElem_mem hlt)))
      have HYX := Aside0.mk (HY.out _ (List.getElem_mem hlt))
      have HC0 := Aside0.mk hC0
      have HJL := Aside0.mk (show (joinJ (xs.take k)).length ≤ 200000 by have h1 := join_len HOKL.out; rw [List.length_take] at h1; have := HN.out; omega)
      have hx63 : (xs[k]).length ≤ 9223372036854775807 := hC0.2.1
      clear hC0
      generalize xs[k] = x at hcell hc0 HC0 HJT HOT HYX hx63
      go_wp2_with fail
      refine (jform_calls A0 c0 x _ HC0.out hc0 HYX.out (HTAB.out.below HB.out)).mono ?_
      rintro e w2 ⟨v2, er, rfl, hn, hs, hb⟩
      have HB2 := Aside0.mk (below_step HB.out hb)
      by_cases hok : okR x
      case neg =>
        obtain ⟨rfl, rfl⟩ := hn hok
        clear hn hs hok hb
        go_wp2_with fail
        refine (known_calls _ (HTAB.out.below HB2.out)).mono ?_
        rintro e w3 ⟨rfl, hb⟩
        go_wp2
        go_ret
        exact ⟨rfl, below_step HB2.out hb⟩
      obtain ⟨rfl, ho2⟩ := hs hok
      obtain ⟨A4, c4, rfl, hc4, hr4⟩ := Kd.R_reads ho2
      have HC4 := Aside0.mk hr4
      have HO2 := Aside0.mk (Kd.R_below HO.out hb)
      have HOK2 := Aside0.mk (HOT.out hok)
      have HJX := Aside0.mk (show (jform x).length ≤ 8017 by have h1 := jform_len x; have h2 := (rowL_len x (by have := hok.2; omega)).2; have := hok.2; omega)
      generalize joinJ (xs.take k) = J at HO2 HJT HJL
      clear hn hs hok hb ho2 hr4 HO HOKL HOT hcell HB
      go_wp2_with ((with_reducible refine gate_builtin (b := .append) (xs := #[.tmp 46, .tmp 47]) rfl ?_); at_builtin; refine Kd.R_append_rows B (w0 := w) w.heap.size rfl (.tmp 46) (.tmp 47) 22 5 (.int .u8 0) 1 rfl Tryd.underlying22 info5 rfl (by decide) (by omega) _ J (jform x) _ _ _ (fun _ => True) (fun _ => False) rfl rfl HO2.out HC4.out (fun _ _ h => h) (fun _ h => h.elim) (fun _ _ => trivial) HB2.out HB2.out.size ?aL ?_; (case aL => have := HJL.out; have := HJX.out; omega); intro v5 w5 ho hb2 hg hat; have HO5 := Aside0.mk ho; have HB5 := Aside0.mk hb2; clear ho hb2 hg hat)
      go_roundw
      case rel => exact ⟨k + 1, by omega, by go_num, HOK2, by rw [HJT.out]; exact HO5, HB5⟩
      case measure => simp [intOf]; omega
    · obtain rfl : k = xs.length := by omega
      rw [List.take_length] at HOKL HO
      have HJL := Aside0.mk (show (joinJ xs).length ≤ 200000 by have h1 := join_len HOKL.out; have := HN.out; omega)
      have HJB := Aside0.mk (bys_join HOKL.out)
      have HRJ := Aside0.mk (readJ_join xs m HOKL.out HYM.out (by simp only [List.length_append]; have := HJL.out; have := HMN.out; omega))
      generalize joinJ xs = J at HO HJL HJB HRJ
      obtain ⟨A5, c5, rfl, hc5, hr5⟩ := Kd.R_reads HO.out
      have HC5 := Aside0.mk hr5
      clear hlt hk hr5 HO
      have hj63 : J.length ≤ 9223372036854775807 := by have := HJL.out; omega
      go_wp2_with fail
      refine (read_calls M d m _ (Kd.C_below HM.out HB.out) hd HYM.out (by have := HMN.out; omega) (HTAB.out.below HB.out)).mono ?_
      rintro e w2 ⟨v2, rfl, hrs, hb⟩
      have hri := recs_inv m HYM.out (by have := HMN.out; omega) (m.length + 1) 0
      have HRI := Aside0.mk (show ∀ x ∈ (readJ m).1, okR x ∧ bys x from hri.1)
      have HRK := Aside0.mk (show (readJ m).2 ≤ m.length from hri.2.2.2 (Nat.zero_le _))
      have HRN := Aside0.mk (show (readJ m).1.length ≤ m.length by
        have h1 : (readJ m).2 = 0 + (joinJ (readJ m).1).length := hri.2.2.1
        have h2 : ∀ ys : List (List Int), ys.length ≤ (joinJ ys).length := by
          intro ys
          induction ys with
          | nil => simp
          | cons y ys ih =>
            have := jform_len y
            rw [joinJ_cons]
            simp only [List.length_cons, List.length_append]
            omega
        have := h2 (readJ m).1
        have := HRK.out
        omega)
      have HRS2 := Aside0.mk hrs
      have HB2 := Aside0.mk (below_step HB.out hb)
      replace HC5 := Aside0.mk (Kd.C_below HC5.out hb)
      clear hrs hb hri
      generalize (readJ m).1 = rest at HRI HRN HRS2 HRJ ⊢
      generalize (readJ m).2 = kk at HRK HRJ ⊢
      obtain ⟨AR, cR, hvR, hcR, hCR⟩ := Recs.C HRS2.out (fun x hx => by have := (HRI.out x hx).1.2; omega) (by have := HRN.out; omega)
      subst hvR
      have HCR := Aside0.mk hCR
      clear hCR HRS2
      have hr63 : rest.length ≤ 9223372036854775807 := by have := HRN.out; omega
      obtain ⟨Z, hZ⟩ : ∃ Z, Z = J ++ m := ⟨_, rfl⟩
      have HZE := Aside0.mk hZ
      rw [← hZ] at HRJ
      clear hZ
      go_wp2_with (first | ((with_reducible refine gate_dst (N := 56) rfl ?_); refine Kd.R_lit B (w0 := w2) w2.heap.size 5 ?hg (N := 56) ?hd (xs := ([] : List Int)) (inner := []) (ok := fun _ => True) (okp := fun _ => True) ?hr ?hp (fun _ hk => hk) trivial (Below.refl _ _) (Nat.le_refl _) (by simp) ?_; (case hd => rfl); (case hg => rfl); (case hr => first | (go_simp; done) | (go_simp; rfl)); (case hp => exact Reps.none _ _); intro v1 w6 ho hb1 hg hnew; have HO := Aside0.mk ho; have HB6 := Aside0.mk hb1; clear ho hb1 hg hnew) | ((with_reducible refine gate_builtin (b := .append) (xs := #[.tmp 56, .tmp 57]) rfl ?_); at_builtin; refine Kd.R_append_rows B (w0 := w2) w2.heap.size rfl (.tmp 56) (.tmp 57) 22 5 (.int .u8 0) 1 rfl Tryd.underlying22 info5 rfl (by decide) (by omega) _ ([]) (J) _ _ _ (fun _ => True) (fun _ => False) rfl rfl HO.out (Kd.C_below HC5.out HB6.out) (fun _ _ h => h) (fun _ h => h.elim) (fun _ _ => trivial) HB6.out HB6.out.size ?aL ?_; (case aL => simp; have := HJL.out; omega); intro v2 w7 ho hb2 hg hat; rw [List.nil_append] at ho; have HO2 := Aside0.mk ho; have HB7 := Aside0.mk hb2; clear ho hb2 hg hat) | ((with_reducible refine gate_builtin (b := .append) (xs := #[.tmp 58, .tmp 59]) rfl ?_); at_builtin; refine Kd.R_append_rows B (w0 := w2) w2.heap.size rfl (.tmp 58) (.tmp 59) 22 5 (.int .u8 0) 1 rfl Tryd.underlying22 info5 rfl (by decide) (by omega) _ (J) (m) _ _ _ (fun _ => True) (fun _ => False) rfl rfl HO2.out (Kd.C_below HM.out (below_step HB2.out HB7.out)) (fun _ _ h => h) (fun _ h => h.elim) (fun _ _ => trivial) HB7.out HB7.out.size ?aL ?_; (case aL => have := HJL.out; have := HMN.out; omega); intro v3 w8 ho hb2 hg hat; rw [← HZE.out] at ho; obtain ⟨A10, c10, rfl, hc10, hr10⟩ := Kd.R_reads ho; have HC10 := Aside0.mk hr10; have HB8 := Aside0.mk hb2; clear ho hb2 hg hat hr10))
      have HBX := Aside0.mk (below_step HB2.out HB8.out)
      have HZL := Aside0.mk (show Z.length = J.length + m.length by rw [HZE.out]; simp)
      have hZB : bys Z := by rw [HZE.out]; exact Hand.bytes_append HJB.out HYM.out
      refine (read_calls A10 c10 Z _ HC10.out hc10 hZB (by have := HZL.out; have := HJL.out; have := HMN.out; omega) (HTAB.out.below HBX.out)).mono ?_
      rintro e w9 ⟨v9, rfl, hrs, hb⟩
      rw [HRJ.out] at hrs ⊢
      replace hrs : Recs w9 w8.heap.size v9 (xs ++ rest) := hrs
      have HB9 := Aside0.mk (below_step HBX.out hb)
      have HCR9 := Aside0.mk (Kd.C_below (Kd.C_below HCR.out HB8.out) hb)
      obtain ⟨AG, cG, hvG, hcG, hCG⟩ := Recs.C hrs (fun x hx => by
        rcases List.mem_append.1 hx with h | h
        · have := (HOKL.out x h).1.2; omega
        · have := (HRI.out x h).1.2; omega) (by simp only [List.length_append]; have := HRN.out; have := HMN.out; have := HN.out; omega)
      subst hvG
      obtain ⟨ys, hys⟩ : ∃ ys, ys = xs ++ rest := ⟨_, rfl⟩
      have HYS := Aside0.mk hys
      have HYN := Aside0.mk (show ys.length = xs.length + rest.length by rw [hys]; simp)
      rw [← hys] at hCG hcG ⊢
      have HCG := Aside0.mk hCG
      clear hrs hb hys hCG HO HO2 HB6 HB7 HB8 HBX HCR hZB HC10
      have h1 := HRN.out
      have h2 := HMN.out
      have h3 := HN.out
      have h4 := HRK.out
      have h5 := HJL.out
      have hy63 : ys.length ≤ 9223372036854775807 := by have := HYN.out; omega
      have w1e : Go.RowKit.wrap64 ((xs.length : Int) + (rest.length : Int)) = (xs.length : Int) + (rest.length : Int) := by unfold Go.RowKit.wrap64; omega
      have w2e : Go.RowKit.wrap64 ((J.length : Int) + (kk : Int)) = (J.length : Int) + (kk : Int) := by unfold Go.RowKit.wrap64; omega
      have n1 : ((ys.length : Int) != (xs.length : Int) + (rest.length : Int)) = false := by rw [bne_eq_false_iff_eq, HYN.out]; omega
      clear h1 h2 h3 h4 h5
      go_wp2
      obtain ⟨wo, hwo⟩ : ∃ wo, wo = wr := ⟨_, rfl⟩
      subst hwo
      clear w1e w2e n1
      go_loopw [82] (fun v wr => ∃ i : Nat, i ≤ ys.length ∧ v = .int .i64 (i : Int) ∧ Aside0 (Below w9.heap.size w9 wr)) (fun i _ => ys.length - (intOf i).toNat)
      case atStart => exact ⟨0, Nat.zero_le _, rfl, ⟨Below.refl _ _⟩⟩
      case round =>
        obtain ⟨i, hi, rfl, HB⟩ := hrel
        by_cases hly : i < ys.length
        · have e1 : decide ((i : Int) < (ys.length : Int)) = true := decide_eq_true (by omega)
          have e1b : decide (i < ys.length) = true := decide_eq_true hly
          obtain ⟨adG, AX, cX, rfl, hx0, hcX, hxC⟩ := row_at (Kd.C_below HCG.out HB.out) i hly
          rw [rowD_get hly] at hx0 hcX hxC
          have HX0 := Aside0.mk hx0
          have HXC := Aside0.mk hxC
          have hx63 : (ys[i]).length ≤ 9223372036854775807 := hxC.2.1
          have HYI := Aside0.mk (show ys[i]? = some ys[i] from List.getElem?_eq_getElem hly)
          clear hx0 hxC
          generalize ys[i] = x at HX0 HXC HYI hcX hx63
          rw [HYS.out] at HYI
          by_cases hix : i < xs.length
          · have e3 : decide ((i : Int) ≥ (xs.length : Int)) = false := decide_eq_false (by omega)
            have e4 : decide ((xs.length : Int) ≤ (i : Int)) = false := decide_eq_false (by omega)
            have e5 : decide (xs.length ≤ i) = false := decide_eq_false (by omega)
            have HXI := Aside0.mk (show xs[i]? = some x by have h := HYI.out; rwa [List.getElem?_append_left hix] at h)
            obtain ⟨adU, AU, cU, hAU, hu0, hcU, huC⟩ := row_at (Kd.C_below HR.out (below_step HB9.out HB.out)) i hix
            rw [rowD_get hix, show xs[i] = x from Option.some.inj ((List.getElem?_eq_getElem hix).symm.trans HXI.out)] at hu0 hcU huC
            subst hAU
            have HU0 := Aside0.mk hu0
            have HUC := Aside0.mk huC
            clear hu0 huC
            go_upto_region 23 with (fail)
            have hS0 : Below wr.heap.size wr wr.drew := below_drew1 (Below.refl _ _)
            refine start_ (n := 11) (S := fun w' => Below wr.heap.size wr w') (ds := []) #[false, false, false, false, false, false, false, false, false, false, false] (by kernel_rfl) rfl rfl (by exact hS0) (fun hHeld => ?_)
            refine with_tabW jmr_tab23 jmr_bits23 (fun HT_ HW_ => ?_)
            refine pure_ (i := 0) (N := some 96) (v := ?_) (a' := ?_) #[true, false, false, false, false, false, false, false, false, false, false] rfl rfl (any_of HT_.out (by kernel_rfl)) (fun _ _ _ h => h) (Or.inl ⟨by rfl, ?_⟩) ?_ ?_
            rotate_left
            · intro w'
              go_simp
              with_reducible rfl
            rotate_left
            · simp only [Act.put, List.setIfInBounds_toArray, List.set_cons_zero, List.set_cons_succ, i64_w, i32_w]
              rfl
            refine pure_ (i := 1) (N := some 97) (v := ?_) (a' := ?_) #[true, true, false, false, false, false, false, false, false, false, false] rfl rfl (any_of HT_.out (by kernel_rfl)) (fun _ _ _ h => h) (Or.inl ⟨by rfl, ?_⟩) ?_ ?_
            rotate_left
            · intro w'
              go_simp
              with_reducible rfl
            rotate_left
            · simp only [Act.put, List.setIfInBounds_toArray, List.set_cons_zero, List.set_cons_succ, i64_w, i32_w]
              rfl
            refine pure_ (i := 2) (N := some 98) (v := ?_) (a' := ?_) #[true, true, true, false, false, false, false, false, false, false, false] rfl rfl (any_of HT_.out (by kernel_rfl)) (fun _ _ _ h => h) (Or.inl ⟨by rfl, ?_⟩) ?_ ?_
            rotate_left
            · intro w'
              go_simp
              with_reducible rfl
            rotate_left
            · simp only [Act.put, List.setIfInBounds_toArray, List.set_cons_zero, List.set_cons_succ, i64_w, i32_w]
              rfl
            refine pure_ (i := 5) (N := some 101) (v := ?_) (a' := ?_) #[true, true, true, false, false, true, false, false, false, false, false] rfl rfl (any_of HT_.out (by kernel_rfl)) (fun _ _ _ h => h) (Or.inl ⟨by rfl, ?_⟩) ?_ ?_
            rotate_left
            · intro w'
              go_simp
              with_reducible rfl
            rotate_left
            · simp only [Act.put, List.setIfInBounds_toArray, List.set_cons_zero, List.set_cons_succ, i64_w, i32_w]
              rfl
            refine pure_ (i := 6) (N := some 102) (v := ?_) (a' := ?_) #[true, true, true, false, false, true, true, false, false, false, false] rfl rfl (any_of HT_.out (by kernel_rfl)) (fun _ _ _ h => h) (Or.inl ⟨by rfl, ?_⟩) ?_ ?_
            rotate_left
            · intro w'
              go_simp
              with_reducible rfl
            rotate_left
            · simp only [Act.put, List.setIfInBounds_toArray, List.set_cons_zero, List.set_cons_succ, i64_w, i32_w]
              rfl
            refine pure_ (i := 7) (N := some 103) (v := ?_) (a' := ?_) #[true, true, true, false, false, true, true, true, false, false, false] rfl rfl (any_of HT_.out (by kernel_rfl)) (fun _ _ _ h => h) (Or.inl ⟨by rfl, ?_⟩) ?_ ?_
            rotate_left
            · intro w'
              go_simp
              with_reducible rfl
            rotate_left
            · simp only [Act.put, List.setIfInBounds_toArray, List.set_cons_zero, List.set_cons_succ, i64_w, i32_w]
              rfl
            refine take_ (i := 3) (N := some 99) (v := ?_) (a' := ?_) #[true, true, true, true, false, true, true, true, false, false, false] rfl rfl (take_ofW HT_.out HW_.out (by kernel_rfl)) (fun _ _ _ h => h) (Or.inl ⟨by rfl, ?_⟩) hHeld ?_ ?_
            rotate_left
            · intro w' hSt
              have hx0 := cell_below HX0.out hSt
              go_simp
              with_reducible rfl
            rotate_left
            · simp only [Act.put, List.setIfInBounds_toArray, List.set_cons_zero, List.set_cons_succ, i64_w, i32_w]
              rfl
            refine take_ (i := 4) (N := some 100) (v := ?_) (a' := ?_) #[true, true, true, true, true, true, true, true, false, false, false] rfl rfl (take_ofW HT_.out HW_.out (by kernel_rfl)) (fun _ _ _ h => h) (Or.inl ⟨by rfl, ?_⟩) hHeld ?_ ?_
            rotate_left
            · intro w' hSt
              have hcv : (convert 22 9 (.slice AX x.length cX)).run Tryd.prog w' = .ok (.string (strOfNums x)) w' := Kd.C_string Tryd.underlying22 Tryd.underlying5 Tryd.underlying9 (Kd.C_below HXC.out hSt)
              go_simp
              with_reducible rfl
            rotate_left
            · simp only [Act.put, List.setIfInBounds_toArray, List.set_cons_zero, List.set_cons_succ, i64_w, i32_w]
              rfl
            refine take_ (i := 8) (N := some 104) (v := ?_) (a' := ?_) #[true, true, true, true, true, true, true, true, true, false, false] rfl rfl (take_ofW HT_.out HW_.out (by kernel_rfl)) (fun _ _ _ h => h) (Or.inl ⟨by rfl, ?_⟩) hHeld ?_ ?_
            rotate_left
            · intro w' hSt
              have hx1 := cell_below HU0.out hSt
              go_simp
              with_reducible rfl
            rotate_left
            · simp only [Act.put, List.setIfInBounds_toArray, List.set_cons_zero, List.set_cons_succ, i64_w, i32_w]
              rfl
            refine take_ (i := 9) (N := some 105) (v := ?_) (a' := ?_) #[true, true, true, true, true, true, true, true, true, true, false] rfl rfl (take_ofW HT_.out HW_.out (by kernel_rfl)) (fun _ _ _ h => h) (Or.inl ⟨by rfl, ?_⟩) hHeld ?_ ?_
            rotate_left
            · intro w' hSt
              have hcv : (convert 22 9 (.slice AU x.length cU)).run Tryd.prog w' = .ok (.string (strOfNums x)) w' := Kd.C_string Tryd.underlying22 Tryd.underlying5 Tryd.underlying9 (Kd.C_below HUC.out hSt)
              go_simp
              with_reducible rfl
            rotate_left
            · simp only [Act.put, List.setIfInBounds_toArray, List.set_cons_zero, List.set_cons_succ, i64_w, i32_w]
              rfl
            refine pure_ (i := 10) (N := some 106) (v := ?_) (a' := ?_) #[true, true, true, true, true, true, true, true, true, true, true] rfl rfl (any_of HT_.out (by kernel_rfl)) (fun _ _ _ h => h) (Or.inl ⟨by rfl, ?_⟩) ?_ ?_
            rotate_left
            · intro w'
              go_simp
              with_reducible rfl
            rotate_left
            · simp only [Act.put, List.setIfInBounds_toArray, List.set_cons_zero, List.set_cons_succ, i64_w, i32_w]
              rfl
            refine done_ (done_of HT_.out (by kernel_rfl)) ?_
            have HBZ := Aside0.mk (HB.out.trans (hHeld.mono HB.out.size))
            clear hS0 hHeld HT_ HW_ HB
            go_wp2
            go_roundw
            case rel => exact ⟨i + 1, by omega, by go_num, HBZ⟩
            case measure => simp [intOf]; omega
          · obtain ⟨q, hq⟩ : ∃ q, q = i - xs.length := ⟨_, rfl⟩
            have e3 : decide ((i : Int) ≥ (xs.length : Int)) = true := decide_eq_true (by omega)
            have e4 : decide ((xs.length : Int) ≤ (i : Int)) = true := decide_eq_true (by omega)
            have e5 : decide (xs.length ≤ i) = true := decide_eq_true (by omega)
            have hwq : Go.RowKit.wrap64 ((i : Int) - (xs.length : Int)) = (q : Int) := by unfold Go.RowKit.wrap64; omega
            have hwq2 : ((i : Int) - (xs.length : Int)) = (q : Int) := by omega
            have hqr : q < rest.length := by have := HYN.out; omega
            have HXI := Aside0.mk (show rest[q]? = some x by have h := HYI.out; rwa [List.getElem?_append_right (by omega), ← hq] at h)
            obtain ⟨adU, AU, cU, hAU, hu0, hcU, huC⟩ := row_at (Kd.C_below HCR9.out HB.out) q hqr
            rw [rowD_get hqr, show rest[q] = x from Option.some.inj ((List.getElem?_eq_getElem hqr).symm.trans HXI.out)] at hu0 hcU huC
            subst hAU
            have HU0 := Aside0.mk hu0
            have HUC := Aside0.mk huC
            clear hu0 huC hq
            go_upto_region 23 with (fail)
            have hS0 : Below wr.heap.size wr wr.drew := below_drew1 (Below.refl _ _)
            refine start_ (n := 11) (S := fun w' => Below wr.heap.size wr w') (ds := []) #[false, false, false, false, false, false, false, false, false, false, false] (by kernel_rfl) rfl rfl (by exact hS0) (fun hHeld => ?_)
            refine with_tabW jmr_tab23 jmr_bits23 (fun HT_ HW_ => ?_)
            refine pure_ (i := 0) (N := some 96) (v := ?_) (a' := ?_) #[true, false, false, false, false, false, false, false, false, false, false] rfl rfl (any_of HT_.out (by kernel_rfl)) (fun _ _ _ h => h) (Or.inl ⟨by rfl, ?_⟩) ?_ ?_
            rotate_left
            · intro w'
              go_simp
              with_reducible rfl
            rotate_left
            · simp only [Act.put, List.setIfInBounds_toArray, List.set_cons_zero, List.set_cons_succ, i64_w, i32_w]
              rfl
            refine pure_ (i := 1) (N := some 97) (v := ?_) (a' := ?_) #[true, true, false, false, false, false, false, false, false, false, false] rfl rfl (any_of HT_.out (by kernel_rfl)) (fun _ _ _ h => h) (Or.inl ⟨by rfl, ?_⟩) ?_ ?_
            rotate_left
            · intro w'
              go_simp
              with_reducible rfl
            rotate_left
            · simp only [Act.put, List.setIfInBounds_toArray, List.set_cons_zero, List.set_cons_succ, i64_w, i32_w]
              rfl
            refine pure_ (i := 2) (N := some 98) (v := ?_) (a' := ?_) #[true, true, true, false, false, false, false, false, false, false, false] rfl rfl (any_of HT_.out (by kernel_rfl)) (fun _ _ _ h => h) (Or.inl ⟨by rfl, ?_⟩) ?_ ?_
            rotate_left
            · intro w'
              go_simp
              with_reducible rfl
            rotate_left
            · simp only [Act.put, List.setIfInBounds_toArray, List.set_cons_zero, List.set_cons_succ, i64_w, i32_w]
              rfl
            refine pure_ (i := 5) (N := some 101) (v := ?_) (a' := ?_) #[true, true, true, false, false, true, false, false, false, false, false] rfl rfl (any_of HT_.out (by kernel_rfl)) (fun _ _ _ h => h) (Or.inl ⟨by rfl, ?_⟩) ?_ ?_
            rotate_left
            · intro w'
              go_simp
              with_reducible rfl
            rotate_left
            · simp only [Act.put, List.setIfInBounds_toArray, List.set_cons_zero, List.set_cons_succ, i64_w, i32_w]
              rfl
            refine pure_ (i := 6) (N := some 102) (v := ?_) (a' := ?_) #[true, true, true, false, false, true, true, false, false, false, false] rfl rfl (any_of HT_.out (by kernel_rfl)) (fun _ _ _ h => h) (Or.inl ⟨by rfl, ?_⟩) ?_ ?_
            rotate_left
            · intro w'
              go_simp
              with_reducible rfl
            rotate_left
            · simp only [Act.put, List.setIfInBounds_toArray, List.set_cons_zero, List.set_cons_succ, i64_w, i32_w]
              rfl
            refine pure_ (i := 7) (N := some 103) (v := ?_) (a' := ?_) #[true, true, true, false, false, true, true, true, false, false, false] rfl rfl (any_of HT_.out (by kernel_rfl)) (fun _ _ _ h => h) (Or.inl ⟨by rfl, ?_⟩) ?_ ?_
            rotate_left
            · intro w'
              go_simp
              with_reducible rfl
            rotate_left
            · simp only [Act.put, List.setIfInBounds_toArray, List.set_cons_zero, List.set_cons_succ, i64_w, i32_w]
              rfl
            refine take_ (i := 3) (N := some 99) (v := ?_) (a' := ?_) #[true, true, true, true, false, true, true, true, false, false, false] rfl rfl (take_ofW HT_.out HW_.out (by kernel_rfl)) (fun _ _ _ h => h) (Or.inl ⟨by rfl, ?_⟩) hHeld ?_ ?_
            rotate_left
            · intro w' hSt
              have hx0 := cell_below HX0.out hSt
              go_simp
              with_reducible rfl
            rotate_left
            · simp only [Act.put, List.setIfInBounds_toArray, List.set_cons_zero, List.set_cons_succ, i64_w, i32_w]
              rfl
            refine take_ (i := 4) (N := some 100) (v := ?_) (a' := ?_) #[true, true, true, true, true, true, true, true, false, false, false] rfl rfl (take_ofW HT_.out HW_.out (by kernel_rfl)) (fun _ _ _ h => h) (Or.inl ⟨by rfl, ?_⟩) hHeld ?_ ?_
            rotate_left
            · intro w' hSt
              have hcv : (convert 22 9 (.slice AX x.length cX)).run Tryd.prog w' = .ok (.string (strOfNums x)) w' := Kd.C_string Tryd.underlying22 Tryd.underlying5 Tryd.underlying9 (Kd.C_below HXC.out hSt)
              go_simp
              with_reducible rfl
            rotate_left
            · simp only [Act.put, List.setIfInBounds_toArray, List.set_cons_zero, List.set_cons_succ, i64_w, i32_w]
              rfl
            refine take_ (i := 8) (N := some 104) (v := ?_) (a' := ?_) #[true, true, true, true, true, true, true, true, true, false, false] rfl rfl (take_ofW HT_.out HW_.out (by kernel_rfl)) (fun _ _ _ h => h) (Or.inl ⟨by rfl, ?_⟩) hHeld ?_ ?_
            rotate_left
            · intro w' hSt
              have hx1 := cell_below HU0.out hSt
              go_simp
              with_reducible rfl
            rotate_left
            · simp only [Act.put, List.setIfInBounds_toArray, List.set_cons_zero, List.set_cons_succ, i64_w, i32_w]
              rfl
            refine take_ (i := 9) (N := some 105) (v := ?_) (a' := ?_) #[true, true, true, true, true, true, true, true, true, true, false] rfl rfl (take_ofW HT_.out HW_.out (by kernel_rfl)) (fun _ _ _ h => h) (Or.inl ⟨by rfl, ?_⟩) hHeld ?_ ?_
            rotate_left
            · intro w' hSt
              have hcv : (convert 22 9 (.slice AU x.length cU)).run Tryd.prog w' = .ok (.string (strOfNums x)) w' := Kd.C_string Tryd.underlying22 Tryd.underlying5 Tryd.underlying9 (Kd.C_below HUC.out hSt)
              go_simp
              with_reducible rfl
            rotate_left
            · simp only [Act.put, List.setIfInBounds_toArray, List.set_cons_zero, List.set_cons_succ, i64_w, i32_w]
              rfl
            refine pure_ (i := 10) (N := some 106) (v := ?_) (a' := ?_) #[true, true, true, true, true, true, true, true, true, true, true] rfl rfl (any_of HT_.out (by kernel_rfl)) (fun _ _ _ h => h) (Or.inl ⟨by rfl, ?_⟩) ?_ ?_
            rotate_left
            · intro w'
              go_simp
              with_reducible rfl
            rotate_left
            · simp only [Act.put, List.setIfInBounds_toArray, List.set_cons_zero, List.set_cons_succ, i64_w, i32_w]
              rfl
            refine done_ (done_of HT_.out (by kernel_rfl)) ?_
            have HBZ := Aside0.mk (HB.out.trans (hHeld.mono HB.out.size))
            clear hS0 hHeld HT_ HW_ HB
            go_wp2
            go_roundw
            case rel => exact ⟨i + 1, by omega, by go_num, HBZ⟩
            case measure => simp [intOf]; omega
        · obtain rfl : i = ys.length := by omega
          have HBF := Aside0.mk (below_step HB9.out HB.out)
          clear hly hi
          go_wp2_with fail
          refine (known_calls _ (HTAB.out.below HBF.out)).mono ?_
          rintro e w8 ⟨rfl, hb⟩
          go_wp2
          go_ret
          exact ⟨rfl, below_step HBF.out hb⟩
theorem wf_bys {x : List Int} (h : ∀ y ∈ x, (Lit.int .u8 y).wf = true) : bys x := fun y hy => (by have := h y hy; simp [Lit.wf, IntKind.min, IntKind.max, IntKind.signed, IntKind.bits] at this; omega)
theorem more_walk (a0 : Option Addr) (c0 : Nat) (x0 : List (List Int)) (a1 : Option Addr) (c1 : Nat) (x1 : List Int) (w : World) (hT : Tab w) (C0 : Kd.C KB w a0 x0.length x0) (l0 : x0.length ≤ c0) (k0 : ∀ l ∈ x0, ∀ x ∈ l, (Lit.int .u8 x).wf = true) (C1 : B.C w a1 x1.length x1) (l1 : x1.length ≤ c1) (k1 : ∀ x ∈ x1, (Lit.int .u8 x).wf = true) :
    Calls Tryd.prog 6 #[.slice a0 x0.length c0, .slice a1 x1.length c1] w fun e w' => e = .returned (.bool true) ∧ Below w.heap.size w w' :=
  more_calls a0 a1 c0 c1 x0 x1 w C0 C1 l0 l1 (fun x hx => wf_bys (k0 x hx)) (wf_bys k1) hT
end Go.Proofs.YtebjibkgefgalaaDoor.Jr
