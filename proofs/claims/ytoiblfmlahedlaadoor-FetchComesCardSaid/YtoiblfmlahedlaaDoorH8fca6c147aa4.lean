/- What calls of Go functions of this seat come to, as the rows need it: under the conditions that each theorem names. -/
import Derived.Test.YtoiblfmlahedlaaDoorH9ea8eb3d9694
import Derived.Test.YtoiblfmlahedlaaDoorH32af5d1ec5a4
section
namespace Go.Proofs.YtoiblfmlahedlaaDoor.Ref
open Go.RowKit Go.Proofs.YtoiblfmlahedlaaDoorW.PrintWords Go.Proofs.YtoiblfmlahedlaaDoorW.PrintLast Go.Proofs.YtoiblfmlahedlaaDoorW.PrintMore
set_option linter.unusedVariables false
set_option linter.unusedSimpArgs false
set_option maxRecDepth 100000
open Go.Proofs.YtoiblfmlahedlaaDoor.Sha
theorem check_any (D : List Int) (n i : Int) (A A' : Option Addr) (c c' : Nat) (l : List Int) (p : List (List Int)) (w : World) (hD : D.length = 32) (hn : n < 9223372036854775808) (hr : B.C w A l.length l) (hc : l.length ≤ c) (hb : Sha.bytes l) (hl : l.length < 10000000)
    (hp : KD.C w A' p.length p) (hc' : p.length ≤ c') (hpr : isRow p) (hpl : p.length < 1000000) (hT : Tab w) :
    Calls Tryd.prog 40 #[vd D, .int .i64 n, .int .i64 i, .slice A l.length c, .slice A' p.length c'] w fun e w' => e = .returned (.bool (checkB D n i l p)) ∧ Below w.heap.size w w' := by
  unfold checkB
  split
  · rename_i h
    obtain ⟨h1, h2, h3, h4⟩ := h
    obtain ⟨m, rfl⟩ := Int.eq_ofNat_of_zero_le h1
    obtain ⟨j, rfl⟩ := Int.eq_ofNat_of_zero_le h2
    rw [Int.toNat_natCast] at h3 h4 ⊢
    rw [Int.toNat_natCast] at h4 ⊢
    exact check_yes D m j A A' c c' l p w hD (by omega) (by omega) h4 hr hc hb hp hc' hpr (by omega) hT
  · rename_i h
    exact check_no D n i A A' c c' l p w hn hl h
end Go.Proofs.YtoiblfmlahedlaaDoor.Ref
end
section
namespace Go.Proofs.YtoiblfmlahedlaaDoor.Ref
open Go.RowKit Go.Proofs.YtoiblfmlahedlaaDoorW.PrintWords Go.Proofs.YtoiblfmlahedlaaDoorW.PrintLast Go.Proofs.YtoiblfmlahedlaaDoorW.PrintMore
set_option linter.unusedVariables false
set_option linter.unusedSimpArgs false
set_option maxRecDepth 100000
open Go.Proofs.YtoiblfmlahedlaaDoor.Sha
def pra_T8 : Bool × List (List Nat × List Nat) := (true, [([], []), ([], []), ([0, 1], [0, 1]), ([2], [2]), ([3], [3]), ([], []), ([], []), ([5, 6], [5, 6]), ([7], [7]), ([8], [8]), ([4, 9], [4, 9])])
def pra_B8 : List Nat := [0, 0, 3, 7, 15, 0, 0, 96, 224, 480, 1023]
theorem pra_tab8 : rtab .any (opsOf Tryd.f46 8) = pra_T8 := by kernel_rfl
theorem pra_bits8 : waitsOk pra_T8.2 pra_B8 = true := by kernel_rfl
def prb_T9 : Bool × List (List Nat × List Nat) := (true, [([], []), ([], []), ([0, 1], [0, 1]), ([2], [2]), ([], []), ([], []), ([4, 5], [4, 5]), ([6], [6]), ([], []), ([], []), ([], []), ([9, 10], [9, 10]), ([11], [11]), ([8, 12], [8, 12]), ([], []), ([], []), ([], []), ([15, 16], [15, 16]), ([17], [17]), ([14, 18, 13], [14, 18]), ([13, 19], [13, 19]), ([3, 19, 0, 1, 2, 3], [3]), ([7, 21, 0, 1, 2, 3, 4, 5, 6, 7, 21], [7]), ([20, 22, 0, 1, 2, 3, 4, 5, 6, 7, 8, 9, 10, 11, 12, 13, 14, 15, 16, 17, 18, 19, 20, 21, 22], [20])])
def prb_B9 : List Nat := [0, 0, 3, 7, 0, 0, 48, 112, 0, 0, 0, 1536, 3584, 7936, 0, 0, 0, 98304, 229376, 524032, 1048320, 1048335, 3145727, 8388607]
theorem prb_tab9 : rtab .any (opsOf Tryd.f46 9) = prb_T9 := by kernel_rfl
theorem prb_bits9 : waitsOk prb_T9.2 prb_B9 = true := by kernel_rfl
theorem pathR_rows : ∀ (n i : Nat) (d : List Int) (p : List (List Int)), isD d → isRow p → ∀ r, pathR n i d p = some r → (∀ x ∈ r.1, Sha.bytes x ∧ x.length ≤ 100) ∧ isD r.2.1 := by
  intro n
  induction n using Nat.strongRecOn with
  | ind n ih =>
    intro i d p hd hp r hr
    by_cases h : n ≤ 1
    · rw [pathR_end _ _ _ h] at hr
      cases hr
      exact ⟨(fun x hx => by cases hx), hd⟩
    · by_cases h2 : n ≤ oth i
      · rw [pathR_alone _ _ h h2] at hr
        exact ih _ (by omega) _ _ _ hd hp r hr
      · cases p with
        | nil => rw [pathR_none _ h h2] at hr; cases hr
        | cons y q =>
          rw [pathR_cons _ _ _ h h2] at hr
          have hy : isD y := hp y (by simp)
          cases h3 : pathR ((n + 1) / 2) (i / 2) (if i % 2 = 0 then pairI d y else pairI y d) q with
          | none => rw [h3] at hr; cases hr
          | some r2 =>
            rw [h3] at hr
            have h4 := ih _ (by omega) _ _ _ (by split <;> (unfold pairI; exact sha_D _)) (fun z hz => hp z (by simp [hz])) r2 h3
            simp only [Option.map_some, Option.some.injEq] at hr
            subst hr
            refine ⟨fun x hx => ?_, h4.2⟩
            rcases List.mem_cons.1 hx with rfl | hx
            · split
              · exact ⟨nodeL_bytes hd.2 hy.2, by simp [hd.1, hy.1]⟩
              · exact ⟨nodeL_bytes hy.2 hd.2, by simp [hd.1, hy.1]⟩
            · exact h4.1 x hx
theorem pathV_rows (n i : Nat) (c : List Int) (p : List (List Int)) (hc : Sha.bytes c) (hl : c.length ≤ 64) (hp : isRow p) : ∀ x ∈ (pathV n i c p).1, Sha.bytes x ∧ x.length ≤ 100 := by
  unfold pathV
  cases h : pathR (countN n) i (leafI i c) p with
  | none => intro x hx; cases hx
  | some r =>
    obtain ⟨h1, h2⟩ := pathR_rows _ _ _ _ (show isD (leafI i c) by unfold leafI; exact sha_D _) hp r h
    intro x hx
    replace hx : x ∈ ([0 :: (be8 i ++ c)] ++ r.1) ++ [2 :: (be8 n ++ r.2.1)] := hx
    rcases List.mem_append.1 hx with hx | hx
    · rcases List.mem_append.1 hx with hx | hx
      · obtain rfl : x = 0 :: (be8 i ++ c) := by simpa using hx
        exact ⟨leafL_bytes i hc, by simp [be8]; omega⟩
      · exact h1 x hx
    · obtain rfl : x = 2 :: (be8 n ++ r.2.1) := by simpa using hx
      refine ⟨fun x hx => ?_, by simp [be8, h2.1]⟩
      rcases List.mem_cons.1 hx with rfl | hx
      · omega
      · exact bytes_app (be8_bytes n) h2.2 x hx
theorem getD_mem {P : List (List Int)} {k : Nat} (h : k < P.length) : P.getD k [] ∈ P := by
  rw [List.getD_eq_getElem?_getD, List.getElem?_eq_getElem h]
  exact List.getElem_mem h
def PairPost (P Q : List (List Int)) (w : World) (e : Ending) (w' : World) : Prop := ∃ (k : Nat) (A1 A2 : Option Addr) (c1 c2 : Nat), k < P.length ∧ P.getD k [] ≠ Q.getD k [] ∧ (∀ j, k < j → j < P.length → P.getD j [] = Q.getD j []) ∧
  e = .returned (.tuple #[.slice A1 (P.getD k []).length c1, .slice A2 (Q.getD k []).length c2, .bool (decide (shaI (P.getD k []) = shaI (Q.getD k [])))]) ∧ (P.getD k []).length ≤ c1 ∧ (Q.getD k []).length ≤ c2 ∧ B.C w' A1 (P.getD k []).length (P.getD k []) ∧ B.C w' A2 (Q.getD k []).length (Q.getD k []) ∧ Below w.heap.size w w'
set_option maxHeartbeats 1600000 in
set_option maxRecDepth 100000 in
theorem rpair_calls (gh i : Nat) (A A' A'' : Option Addr) (c c' c'' : Nat) (l l2 : List Int) (p : List (List Int)) (w : World) (hg : w.heap[gh]? = some (.cells hk 72 (0, 0))) (hr : B.C w A l.length l) (hc : l.length ≤ c) (hb : Sha.bytes l) (hl : l.length < 1000000) (hi : i < countN l.length)
    (hr2 : B.C w A' l2.length l2) (hc' : l2.length ≤ c') (hb2 : Sha.bytes l2) (hl2 : l2.length ≤ 64) (hp : KD.C w A'' p.length p) (hc'' : p.length ≤ c'') (hpr : isRow p) (hpl : p.length < 1000000) (P Q : List (List Int))
    (h1 : pathV l.length i (chunkL l i) (proofOf l i) = (P, true)) (h2 : pathV l.length i l2 p = (Q, true)) (hPQ : P.length = Q.length) (hpos : 0 < P.length) (hne : P.getD 0 [] ≠ Q.getD 0 []) :
    Calls Tryd.prog 46 #[.pointer (some ⟨gh, 0, none⟩), .slice A l.length c, .int .i64 i, .slice A' l2.length c', .slice A'' p.length c''] w (PairPost P Q w) := by
  have HR := Aside0.mk hr
  have HR2 := Aside0.mk hr2
  have HY := Aside0.mk hb
  have HY2 := Aside0.mk hb2
  have HP := Aside0.mk hp
  have HPR := Aside0.mk hpr
  have HG := Aside0.mk hg
  have HI := Aside0.mk hi
  have HL := Aside0.mk hl
  have HL2 := Aside0.mk hl2
  have HPP := Aside0.mk h1
  have HQQ := Aside0.mk h2
  have HPQ := Aside0.mk hPQ
  have HPOS := Aside0.mk hpos
  have HNE := Aside0.mk hne
  have HIN := Aside0.mk (show i < 9223372036854775808 by unfold countN at hi; omega)
  have HCL := Aside0.mk (show (chunkL l i).length ≤ 64 by rw [chunk_len hi]; omega)
  have HCB := Aside0.mk (chunk_bytes hb i)
  have HPFR := Aside0.mk (proof_row l i)
  have HPFL := Aside0.mk (show (proofOf l i).length < 1000000 by have := proofP_le2 (leavesL l) i; rw [leavesL_len] at this; unfold countN at this; unfold proofOf; omega)
  have HPX := Aside0.mk (pathV_rows l.length i (chunkL l i) (proofOf l i) HCB.out HCL.out HPFR.out)
  have HQX := Aside0.mk (pathV_rows l.length i l2 p hb2 hl2 hpr)
  rw [h1] at HPX
  rw [h2] at HQX
  replace HPX := Aside0.mk (show ∀ x ∈ P, Sha.bytes x ∧ x.length ≤ 100 from HPX.out)
  replace HQX := Aside0.mk (show ∀ x ∈ Q, Sha.bytes x ∧ x.length ≤ 100 from HQX.out)
  clear hr hb hr2 hb2 hp hpr hg hi hl hl2 h1 h2 hPQ hpos hne
  go_enter Tryd.func46, Tryd.ntmps46
  go_wp2_with fail
  refine (rchunk_calls A c l i _ HR.out hc (by have := HL.out; omega) HI.out).mono ?_
  rintro e w1 ⟨v, rfl, ho, hb⟩
  have HB1 := Aside0.mk hb
  obtain ⟨A1, c1, rfl, hc1, hr1⟩ := Kd.R_reads ho
  have HC1 := Aside0.mk hr1
  clear ho hb hr1
  go_wp2_with fail
  refine (rproof_calls gh A c l i _ (heap_keep HG.out HB1.out) (Kd.C_below HR.out HB1.out) hc HY.out (by have := HL.out; omega) HI.out).mono ?_
  rintro e w2 ⟨v, rfl, ho, hb⟩
  have HB2 := Aside0.mk (below_step HB1.out hb)
  replace HC1 := Aside0.mk (Kd.C_below HC1.out hb)
  obtain ⟨A2, c2, rfl, hc2, hr2⟩ := Kd.R_reads ho
  have HC2 := Aside0.mk hr2
  clear ho hb hr2 HB1
  generalize chunkL l i = ch at *
  generalize proofOf l i = pf at *
  go_wp2_with fail
  refine (path_calls gh l.length i A1 A2 c1 c2 ch pf _ (heap_keep HG.out HB2.out) (by have := HL.out; omega) HI.out HC1.out hc1 HCB.out (by have := HCL.out; omega) HC2.out hc2 HPFR.out HPFL.out).mono ?_
  rintro e w3 ⟨v, rfl, ho, hb⟩
  rw [HPP.out] at ho ⊢
  have HB3 := Aside0.mk (below_step HB2.out hb)
  have HO3 := Aside0.mk (show Kd.R KS 22 w3 w2.heap.size (fun _ => True) v P from ho)
  clear ho hb HC1 HC2 HB2 hc1 hc2
  obtain ⟨A1, c1, rfl, hc1, hr1⟩ := Kd.R_reads HO3.out
  have HCP := Aside0.mk hr1
  clear hr1 HO3
  go_wp2_with fail
  refine (path_calls gh l.length i A' A'' c' c'' l2 p _ (heap_keep HG.out HB3.out) (by have := HL.out; omega) HI.out (Kd.C_below HR2.out HB3.out) hc' HY2.out (by have := HL2.out; omega) (Kd.C_below HP.out HB3.out) hc'' HPR.out hpl).mono ?_
  rintro e w4 ⟨v, rfl, ho, hb⟩
  rw [HQQ.out] at ho ⊢
  have HB4 := Aside0.mk (below_step HB3.out hb)
  replace HCP := Aside0.mk (Kd.C_below HCP.out hb)
  have HO4 := Aside0.mk (show Kd.R KS 22 w4 w3.heap.size (fun _ => True) v Q from ho)
  clear ho hb HB3
  obtain ⟨A2, c2, rfl, hc2, hr2⟩ := Kd.R_reads HO4.out
  have HCQ := Aside0.mk hr2
  clear hr2 HO4
  have HG4 := Aside0.mk (heap_keep HG.out HB4.out)
  have HP63 := Aside0.mk (HCP.out.2.1)
  have hPQ := HPQ.out
  have hPQ2 : (P.length != Q.length) = false := by rw [hPQ]; simp
  have hPQ3 : ((P.length : Int) != (Q.length : Int)) = false := by rw [hPQ]; simp
  clear hPQ
  obtain ⟨m0, hm0⟩ : ∃ m0, m0 = P.length := ⟨_, rfl⟩
  have HM0 := Aside0.mk hm0
  rw [← hm0] at hPQ2 hPQ3 ⊢
  clear hm0
  have HQL := Aside0.mk (show Q.length = m0 by rw [HM0.out, HPQ.out])
  have hw1 : IntKind.i64.wrap ((m0 : Int) - 1) = (m0 : Int) - 1 := by rw [IntKind.wrap_i64]; have := HP63.out; have := HM0.out; omega
  go_wp2_with fail
  clear hPQ2 hPQ3 hw1
  go_loopw [17] (fun v wr => ∃ m : Nat, m ≤ m0 ∧ v = .int .i64 ((m : Int) - 1) ∧ Aside0 (∀ j, m ≤ j → j < m0 → P.getD j [] = Q.getD j []) ∧ Aside0 (Below w4.heap.size w4 wr)) (fun v _ => (intOf v + 1).toNat)
  case atStart => exact ⟨m0, Nat.le_refl _, rfl, ⟨fun j h1 h2 => by omega⟩, ⟨Below.refl _ _⟩⟩
  case round =>
    obtain ⟨m, hm, rfl, HJ, HB⟩ := hrel
    cases m with
    | zero => exact absurd (HJ.out 0 (Nat.le_refl _) (by rw [HM0.out]; exact HPOS.out)) HNE.out
    | succ k =>
      rw [show ((k + 1 : Nat) : Int) - 1 = (k : Int) by omega]
      have hkm : k < m0 := by omega
      have hkq : k < Q.length := by rw [HQL.out]; exact hkm
      have hkp : k < P.length := by rw [← HM0.out]; exact hkm
      have hk63 : (k : Int) ≤ 9223372036854775807 := by have := HP63.out; have := HM0.out; omega
      have hkw : IntKind.i64.wrap ((k : Int) - 1) = (k : Int) - 1 := by rw [IntKind.wrap_i64]; omega
      clear hk63
      obtain ⟨adp, Ap, cp, rfl, hcp0, hcp, hCp⟩ := row_at HCP.out k (by rw [← HM0.out]; exact hkm)
      obtain ⟨adq, Aq, cq, rfl, hcq0, hcq, hCq⟩ := row_at HCQ.out k (by rw [HQL.out]; exact hkm)
      have hbX := HPX.out (P.getD k []) (getD_mem (by rw [← HM0.out]; exact hkm))
      have hbY := HQX.out (Q.getD k []) (getD_mem (by rw [HQL.out]; exact hkm))
      obtain ⟨X, hX⟩ : ∃ X, P.getD k [] = X := ⟨_, rfl⟩
      obtain ⟨Y, hY⟩ : ∃ Y, Q.getD k [] = Y := ⟨_, rfl⟩
      rw [show rowD P k = X from hX] at hcp0 hcp hCp
      rw [show rowD Q k = Y from hY] at hcq0 hcq hCq
      rw [hX] at hbX
      rw [hY] at hbY
      have HXE := Aside0.mk hX
      have HYE := Aside0.mk hY
      have HXP := Aside0.mk (show ∀ w' : World, Below wr.heap.size wr w' → w'.cell? (adp.add k) = some (.slice Ap X.length cp) from fun w' h => cell_keep (below_step HB.out h) hcp0)
      have HXQ := Aside0.mk (show ∀ w' : World, Below wr.heap.size wr w' → w'.cell? (adq.add k) = some (.slice Aq Y.length cq) from fun w' h => cell_keep (below_step HB.out h) hcq0)
      have HCX := Aside0.mk (Kd.C_below hCp HB.out)
      have HCY := Aside0.mk (Kd.C_below hCq HB.out)
      have HBX := Aside0.mk hbX.1
      have HBY := Aside0.mk hbY.1
      have HLX := Aside0.mk (show X.length < 100000000 by have := hbX.2; omega)
      have HLY := Aside0.mk (show Y.length < 100000000 by have := hbY.2; omega)
      have HGr := Aside0.mk (heap_keep HG4.out HB.out)
      clear hcp0 hcq0 hCp hCq hbX hbY hX hY
      have hS0 : Below wr.heap.size wr wr.drew := below_drew1 (Below.refl _ _)
      by_cases hxy : X = Y
      · have HXY := Aside0.mk hxy
        clear hxy
        have HSE := Aside0.mk (show strOfNums Y = strOfNums X by rw [HXY.out])
        go_upto_region 8 with (fail)
        refine start_ (n := 11) (S := fun w' => Below wr.heap.size wr w') (ds := []) #[false, false, false, false, false, false, false, false, false, false, false] (by kernel_rfl) rfl rfl (by exact hS0) (fun hHeld => ?_)
        refine with_tabW pra_tab8 pra_bits8 (fun HT_ HW_ => ?_)
        refine pure_ (i := 0) (N := some 63) (v := ?_) (a' := ?_) #[true, false, false, false, false, false, false, false, false, false, false] rfl rfl (any_of HT_.out (by kernel_rfl)) (fun _ _ _ h => h) (Or.inl ⟨by rfl, ?_⟩) ?_ ?_
        rotate_left
        · intro w'
          go_simp
          with_reducible rfl
        rotate_left
        · simp only [Act.put, List.setIfInBounds_toArray, List.set_cons_zero, List.set_cons_succ, i64_w, i32_w]
          rfl
        refine pure_ (i := 1) (N := some 64) (v := ?_) (a' := ?_) #[true, true, false, false, false, false, false, false, false, false, false] rfl rfl (any_of HT_.out (by kernel_rfl)) (fun _ _ _ h => h) (Or.inl ⟨by rfl, ?_⟩) ?_ ?_
        rotate_left
        · intro w'
          go_simp
          with_reducible rfl
        rotate_left
        · simp only [Act.put, List.setIfInBounds_toArray, List.set_cons_zero, List.set_cons_succ, i64_w, i32_w]
          rfl
        refine pure_ (i := 2) (N := some 65) (v := ?_) (a' := ?_) #[true, true, true, false, false, false, false, false, false, false, false] rfl rfl (any_of HT_.out (by kernel_rfl)) (fun _ _ _ h => h) (Or.inl ⟨by rfl, ?_⟩) ?_ ?_
        rotate_left
        · intro w'
          go_simp
          with_reducible rfl
        rotate_left
        · simp only [Act.put, List.setIfInBounds_toArray, List.set_cons_zero, List.set_cons_succ, i64_w, i32_w]
          rfl
        refine pure_ (i := 5) (N := some 68) (v := ?_) (a' := ?_) #[true, true, true, false, false, true, false, false, false, false, false] rfl rfl (any_of HT_.out (by kernel_rfl)) (fun _ _ _ h => h) (Or.inl ⟨by rfl, ?_⟩) ?_ ?_
        rotate_left
        · intro w'
          go_simp
          with_reducible rfl
        rotate_left
        · simp only [Act.put, List.setIfInBounds_toArray, List.set_cons_zero, List.set_cons_succ, i64_w, i32_w]
          rfl
        refine pure_ (i := 6) (N := some 69) (v := ?_) (a' := ?_) #[true, true, true, false, false, true, true, false, false, false, false] rfl rfl (any_of HT_.out (by kernel_rfl)) (fun _ _ _ h => h) (Or.inl ⟨by rfl, ?_⟩) ?_ ?_
        rotate_left
        · intro w'
          go_simp
          with_reducible rfl
        rotate_left
        · simp only [Act.put, List.setIfInBounds_toArray, List.set_cons_zero, List.set_cons_succ, i64_w, i32_w]
          rfl
        refine pure_ (i := 7) (N := some 70) (v := ?_) (a' := ?_) #[true, true, true, false, false, true, true, true, false, false, false] rfl rfl (any_of HT_.out (by kernel_rfl)) (fun _ _ _ h => h) (Or.inl ⟨by rfl, ?_⟩) ?_ ?_
        rotate_left
        · intro w'
          go_simp
          with_reducible rfl
        rotate_left
        · simp only [Act.put, List.setIfInBounds_toArray, List.set_cons_zero, List.set_cons_succ, i64_w, i32_w]
          rfl
        refine take_ (i := 3) (N := some 66) (v := ?_) (a' := ?_) #[true, true, true, true, false, true, true, true, false, false, false] rfl rfl (take_ofW HT_.out HW_.out (by kernel_rfl)) (fun _ _ _ h => h) (Or.inl ⟨by rfl, ?_⟩) hHeld ?_ ?_
        rotate_left
        · intro w' hSt
          have hcell := HXP.out w' hSt
          go_simp
          with_reducible rfl
        rotate_left
        · simp only [Act.put, List.setIfInBounds_toArray, List.set_cons_zero, List.set_cons_succ, i64_w, i32_w]
          rfl
        refine take_ (i := 8) (N := some 71) (v := ?_) (a' := ?_) #[true, true, true, true, false, true, true, true, true, false, false] rfl rfl (take_ofW HT_.out HW_.out (by kernel_rfl)) (fun _ _ _ h => h) (Or.inl ⟨by rfl, ?_⟩) hHeld ?_ ?_
        rotate_left
        · intro w' hSt
          have hcell := HXQ.out w' hSt
          go_simp
          with_reducible rfl
        rotate_left
        · simp only [Act.put, List.setIfInBounds_toArray, List.set_cons_zero, List.set_cons_succ, i64_w, i32_w]
          rfl
        refine take_ (i := 4) (N := some 67) (v := ?_) (a' := ?_) #[true, true, true, true, true, true, true, true, true, false, false] rfl rfl (take_ofW HT_.out HW_.out (by kernel_rfl)) (fun _ _ _ h => h) (Or.inl ⟨by rfl, ?_⟩) hHeld ?_ ?_
        rotate_left
        · intro w' hSt
          have h8 : (convert 22 9 (.slice Ap X.length cp)).run Tryd.prog w' = .ok (.string (strOfNums X)) w' := Kd.C_string Tryd.underlying22 Tryd.underlying5 Tryd.underlying9 (Kd.C_below HCX.out hSt)
          go_simp
          with_reducible rfl
        rotate_left
        · simp only [Act.put, List.setIfInBounds_toArray, List.set_cons_zero, List.set_cons_succ, i64_w, i32_w]
          rfl
        refine take_ (i := 9) (N := some 72) (v := ?_) (a' := ?_) #[true, true, true, true, true, true, true, true, true, true, false] rfl rfl (take_ofW HT_.out HW_.out (by kernel_rfl)) (fun _ _ _ h => h) (Or.inl ⟨by rfl, ?_⟩) hHeld ?_ ?_
        rotate_left
        · intro w' hSt
          have h8 : (convert 22 9 (.slice Aq Y.length cq)).run Tryd.prog w' = .ok (.string (strOfNums X)) w' := by
            rw [← HSE.out]
            exact Kd.C_string Tryd.underlying22 Tryd.underlying5 Tryd.underlying9 (Kd.C_below HCY.out hSt)
          go_simp
          with_reducible rfl
        rotate_left
        · simp only [Act.put, List.setIfInBounds_toArray, List.set_cons_zero, List.set_cons_succ, i64_w, i32_w]
          rfl
        refine pure_ (i := 10) (N := some 73) (v := ?_) (a' := ?_) #[true, true, true, true, true, true, true, true, true, true, true] rfl rfl (any_of HT_.out (by kernel_rfl)) (fun _ _ _ h => h) (Or.inl ⟨by rfl, ?_⟩) ?_ ?_
        rotate_left
        · intro w'
          go_simp
          with_reducible rfl
        rotate_left
        · simp only [Act.put, List.setIfInBounds_toArray, List.set_cons_zero, List.set_cons_succ, i64_w, i32_w]
          rfl
        refine done_ (done_of HT_.out (by kernel_rfl)) ?_
        have HBz := Aside0.mk (below_step HB.out hHeld)
        clear hS0 hHeld HT_ HW_
        go_wp2
        go_roundw
        case rel => exact ⟨k, by omega, rfl, ⟨fun j h1 h2 => by
          rcases Nat.lt_or_ge k j with h3 | h3
          · exact HJ.out j h3 h2
          · obtain rfl : j = k := by omega
            rw [HXE.out, HYE.out, HXY.out]⟩, HBz⟩
        case measure => first | (simp [intOf]; done) | (simp [intOf]; omega)
      · have hs1 : ¬ strOfNums X = strOfNums Y := fun h => hxy (str_inj HBX.out HBY.out h)
        have hs2 := str_list_ne hs1
        have HXY := Aside0.mk hxy
        clear hxy
        have HSX := Aside0.mk (show shaI X = shaI X from rfl)
        have HSY := Aside0.mk (show shaI Y = shaI Y from rfl)
        have HDX := Aside0.mk (shaI_len X)
        have HDY := Aside0.mk (shaI_len Y)
        obtain ⟨DX, hDX⟩ : ∃ DX, shaI X = DX := ⟨_, rfl⟩
        obtain ⟨DY, hDY⟩ : ∃ DY, shaI Y = DY := ⟨_, rfl⟩
        rw [hDX] at HDX
        rw [hDY] at HDY
        replace HSX := Aside0.mk hDX
        replace HSY := Aside0.mk hDY
        clear hDX hDY
        go_upto_region 8 with (fail)
        refine start_ (n := 11) (S := fun w' => Below wr.heap.size wr w') (ds := []) #[false, false, false, false, false, false, false, false, false, false, false] (by kernel_rfl) rfl rfl (by exact hS0) (fun hHeld => ?_)
        refine with_tabW pra_tab8 pra_bits8 (fun HT_ HW_ => ?_)
        refine pure_ (i := 0) (N := some 63) (v := ?_) (a' := ?_) #[true, false, false, false, false, false, false, false, false, false, false] rfl rfl (any_of HT_.out (by kernel_rfl)) (fun _ _ _ h => h) (Or.inl ⟨by rfl, ?_⟩) ?_ ?_
        rotate_left
        · intro w'
          go_simp
          with_reducible rfl
        rotate_left
        · simp only [Act.put, List.setIfInBounds_toArray, List.set_cons_zero, List.set_cons_succ, i64_w, i32_w]
          rfl
        refine pure_ (i := 1) (N := some 64) (v := ?_) (a' := ?_) #[true, true, false, false, false, false, false, false, false, false, false] rfl rfl (any_of HT_.out (by kernel_rfl)) (fun _ _ _ h => h) (Or.inl ⟨by rfl, ?_⟩) ?_ ?_
        rotate_left
        · intro w'
          go_simp
          with_reducible rfl
        rotate_left
        · simp only [Act.put, List.setIfInBounds_toArray, List.set_cons_zero, List.set_cons_succ, i64_w, i32_w]
          rfl
        refine pure_ (i := 2) (N := some 65) (v := ?_) (a' := ?_) #[true, true, true, false, false, false, false, false, false, false, false] rfl rfl (any_of HT_.out (by kernel_rfl)) (fun _ _ _ h => h) (Or.inl ⟨by rfl, ?_⟩) ?_ ?_
        rotate_left
        · intro w'
          go_simp
          with_reducible rfl
        rotate_left
        · simp only [Act.put, List.setIfInBounds_toArray, List.set_cons_zero, List.set_cons_succ, i64_w, i32_w]
          rfl
        refine pure_ (i := 5) (N := some 68) (v := ?_) (a' := ?_) #[true, true, true, false, false, true, false, false, false, false, false] rfl rfl (any_of HT_.out (by kernel_rfl)) (fun _ _ _ h => h) (Or.inl ⟨by rfl, ?_⟩) ?_ ?_
        rotate_left
        · intro w'
          go_simp
          with_reducible rfl
        rotate_left
        · simp only [Act.put, List.setIfInBounds_toArray, List.set_cons_zero, List.set_cons_succ, i64_w, i32_w]
          rfl
        refine pure_ (i := 6) (N := some 69) (v := ?_) (a' := ?_) #[true, true, true, false, false, true, true, false, false, false, false] rfl rfl (any_of HT_.out (by kernel_rfl)) (fun _ _ _ h => h) (Or.inl ⟨by rfl, ?_⟩) ?_ ?_
        rotate_left
        · intro w'
          go_simp
          with_reducible rfl
        rotate_left
        · simp only [Act.put, List.setIfInBounds_toArray, List.set_cons_zero, List.set_cons_succ, i64_w, i32_w]
          rfl
        refine pure_ (i := 7) (N := some 70) (v := ?_) (a' := ?_) #[true, true, true, false, false, true, true, true, false, false, false] rfl rfl (any_of HT_.out (by kernel_rfl)) (fun _ _ _ h => h) (Or.inl ⟨by rfl, ?_⟩) ?_ ?_
        rotate_left
        · intro w'
          go_simp
          with_reducible rfl
        rotate_left
        · simp only [Act.put, List.setIfInBounds_toArray, List.set_cons_zero, List.set_cons_succ, i64_w, i32_w]
          rfl
        refine take_ (i := 3) (N := some 66) (v := ?_) (a' := ?_) #[true, true, true, true, false, true, true, true, false, false, false] rfl rfl (take_ofW HT_.out HW_.out (by kernel_rfl)) (fun _ _ _ h => h) (Or.inl ⟨by rfl, ?_⟩) hHeld ?_ ?_
        rotate_left
        · intro w' hSt
          have hcell := HXP.out w' hSt
          go_simp
          with_reducible rfl
        rotate_left
        · simp only [Act.put, List.setIfInBounds_toArray, List.set_cons_zero, List.set_cons_succ, i64_w, i32_w]
          rfl
        refine take_ (i := 8) (N := some 71) (v := ?_) (a' := ?_) #[true, true, true, true, false, true, true, true, true, false, false] rfl rfl (take_ofW HT_.out HW_.out (by kernel_rfl)) (fun _ _ _ h => h) (Or.inl ⟨by rfl, ?_⟩) hHeld ?_ ?_
        rotate_left
        · intro w' hSt
          have hcell := HXQ.out w' hSt
          go_simp
          with_reducible rfl
        rotate_left
        · simp only [Act.put, List.setIfInBounds_toArray, List.set_cons_zero, List.set_cons_succ, i64_w, i32_w]
          rfl
        refine take_ (i := 4) (N := some 67) (v := ?_) (a' := ?_) #[true, true, true, true, true, true, true, true, true, false, false] rfl rfl (take_ofW HT_.out HW_.out (by kernel_rfl)) (fun _ _ _ h => h) (Or.inl ⟨by rfl, ?_⟩) hHeld ?_ ?_
        rotate_left
        · intro w' hSt
          have h8 : (convert 22 9 (.slice Ap X.length cp)).run Tryd.prog w' = .ok (.string (strOfNums X)) w' := Kd.C_string Tryd.underlying22 Tryd.underlying5 Tryd.underlying9 (Kd.C_below HCX.out hSt)
          go_simp
          with_reducible rfl
        rotate_left
        · simp only [Act.put, List.setIfInBounds_toArray, List.set_cons_zero, List.set_cons_succ, i64_w, i32_w]
          rfl
        refine take_ (i := 9) (N := some 72) (v := ?_) (a' := ?_) #[true, true, true, true, true, true, true, true, true, true, false] rfl rfl (take_ofW HT_.out HW_.out (by kernel_rfl)) (fun _ _ _ h => h) (Or.inl ⟨by rfl, ?_⟩) hHeld ?_ ?_
        rotate_left
        · intro w' hSt
          have h8 : (convert 22 9 (.slice Aq Y.length cq)).run Tryd.prog w' = .ok (.string (strOfNums Y)) w' := Kd.C_string Tryd.underlying22 Tryd.underlying5 Tryd.underlying9 (Kd.C_below HCY.out hSt)
          go_simp
          with_reducible rfl
        rotate_left
        · simp only [Act.put, List.setIfInBounds_toArray, List.set_cons_zero, List.set_cons_succ, i64_w, i32_w]
          rfl
        refine pure_ (i := 10) (N := some 73) (v := ?_) (a' := ?_) #[true, true, true, true, true, true, true, true, true, true, true] rfl rfl (any_of HT_.out (by kernel_rfl)) (fun _ _ _ h => h) (Or.inl ⟨by rfl, ?_⟩) ?_ ?_
        rotate_left
        · intro w'
          go_simp
          with_reducible rfl
        rotate_left
        · simp only [Act.put, List.setIfInBounds_toArray, List.set_cons_zero, List.set_cons_succ, i64_w, i32_w]
          rfl
        refine done_ (done_of HT_.out (by kernel_rfl)) ?_
        have HB8 := Aside0.mk hHeld
        clear hS0 hHeld HT_ HW_ hs1 hs2
        have heq : ∀ w : World, (Op.equalIn 10000 31 (vd DX) (vd DY)).run Tryd.prog w = .ok (decide (DX = DY)) w := fun w => eqD HDX.out HDY.out w
        generalize hans : decide (DX = DY) = ans at heq
        have HANS := Aside0.mk hans
        clear hans
        go_upto_region 9 with (fail)
        have hS0 := below_drew1 HB8.out
        refine start_ (n := 24) (S := fun w' => Below wr.heap.size wr w') (ds := []) #[false, false, false, false, false, false, false, false, false, false, false, false, false, false, false, false, false, false, false, false, false, false, false, false] (by kernel_rfl) rfl rfl (by exact hS0) (fun hHeld => ?_)
        refine with_tabW prb_tab9 prb_bits9 (fun HT_ HW_ => ?_)
        refine pure_ (i := 0) (N := some 74) (v := ?_) (a' := ?_) #[true, false, false, false, false, false, false, false, false, false, false, false, false, false, false, false, false, false, false, false, false, false, false, false] rfl rfl (any_of HT_.out (by kernel_rfl)) (fun _ _ _ h => h) (Or.inl ⟨by rfl, ?_⟩) ?_ ?_
        rotate_left
        · intro w'
          go_simp
          with_reducible rfl
        rotate_left
        · simp only [Act.put, List.setIfInBounds_toArray, List.set_cons_zero, List.set_cons_succ, i64_w, i32_w]
          rfl
        refine pure_ (i := 1) (N := some 75) (v := ?_) (a' := ?_) #[true, true, false, false, false, false, false, false, false, false, false, false, false, false, false, false, false, false, false, false, false, false, false, false] rfl rfl (any_of HT_.out (by kernel_rfl)) (fun _ _ _ h => h) (Or.inl ⟨by rfl, ?_⟩) ?_ ?_
        rotate_left
        · intro w'
          go_simp
          with_reducible rfl
        rotate_left
        · simp only [Act.put, List.setIfInBounds_toArray, List.set_cons_zero, List.set_cons_succ, i64_w, i32_w]
          rfl
        refine pure_ (i := 2) (N := some 76) (v := ?_) (a' := ?_) #[true, true, true, false, false, false, false, false, false, false, false, false, false, false, false, false, false, false, false, false, false, false, false, false] rfl rfl (any_of HT_.out (by kernel_rfl)) (fun _ _ _ h => h) (Or.inl ⟨by rfl, ?_⟩) ?_ ?_
        rotate_left
        · intro w'
          go_simp
          with_reducible rfl
        rotate_left
        · simp only [Act.put, List.setIfInBounds_toArray, List.set_cons_zero, List.set_cons_succ, i64_w, i32_w]
          rfl
        refine pure_ (i := 4) (N := some 78) (v := ?_) (a' := ?_) #[true, true, true, false, true, false, false, false, false, false, false, false, false, false, false, false, false, false, false, false, false, false, false, false] rfl rfl (any_of HT_.out (by kernel_rfl)) (fun _ _ _ h => h) (Or.inl ⟨by rfl, ?_⟩) ?_ ?_
        rotate_left
        · intro w'
          go_simp
          with_reducible rfl
        rotate_left
        · simp only [Act.put, List.setIfInBounds_toArray, List.set_cons_zero, List.set_cons_succ, i64_w, i32_w]
          rfl
        refine pure_ (i := 5) (N := some 79) (v := ?_) (a' := ?_) #[true, true, true, false, true, true, false, false, false, false, false, false, false, false, false, false, false, false, false, false, false, false, false, false] rfl rfl (any_of HT_.out (by kernel_rfl)) (fun _ _ _ h => h) (Or.inl ⟨by rfl, ?_⟩) ?_ ?_
        rotate_left
        · intro w'
          go_simp
          with_reducible rfl
        rotate_left
        · simp only [Act.put, List.setIfInBounds_toArray, List.set_cons_zero, List.set_cons_succ, i64_w, i32_w]
          rfl
        refine pure_ (i := 6) (N := some 80) (v := ?_) (a' := ?_) #[true, true, true, false, true, true, true, false, false, false, false, false, false, false, false, false, false, false, false, false, false, false, false, false] rfl rfl (any_of HT_.out (by kernel_rfl)) (fun _ _ _ h => h) (Or.inl ⟨by rfl, ?_⟩) ?_ ?_
        rotate_left
        · intro w'
          go_simp
          with_reducible rfl
        rotate_left
        · simp only [Act.put, List.setIfInBounds_toArray, List.set_cons_zero, List.set_cons_succ, i64_w, i32_w]
          rfl
        refine pure_ (i := 8) (N := some 82) (v := ?_) (a' := ?_) #[true, true, true, false, true, true, true, false, true, false, false, false, false, false, false, false, false, false, false, false, false, false, false, false] rfl rfl (any_of HT_.out (by kernel_rfl)) (fun _ _ _ h => h) (Or.inl ⟨by rfl, ?_⟩) ?_ ?_
        rotate_left
        · intro w'
          go_simp
          with_reducible rfl
        rotate_left
        · simp only [Act.put, List.setIfInBounds_toArray, List.set_cons_zero, List.set_cons_succ, i64_w, i32_w]
          rfl
        refine pure_ (i := 9) (N := some 83) (v := ?_) (a' := ?_) #[true, true, true, false, true, true, true, false, true, true, false, false, false, false, false, false, false, false, false, false, false, false, false, false] rfl rfl (any_of HT_.out (by kernel_rfl)) (fun _ _ _ h => h) (Or.inl ⟨by rfl, ?_⟩) ?_ ?_
        rotate_left
        · intro w'
          go_simp
          with_reducible rfl
        rotate_left
        · simp only [Act.put, List.setIfInBounds_toArray, List.set_cons_zero, List.set_cons_succ, i64_w, i32_w]
          rfl
        refine pure_ (i := 10) (N := some 84) (v := ?_) (a' := ?_) #[true, true, true, false, true, true, true, false, true, true, true, false, false, false, false, false, false, false, false, false, false, false, false, false] rfl rfl (any_of HT_.out (by kernel_rfl)) (fun _ _ _ h => h) (Or.inl ⟨by rfl, ?_⟩) ?_ ?_
        rotate_left
        · intro w'
          go_simp
          with_reducible rfl
        rotate_left
        · simp only [Act.put, List.setIfInBounds_toArray, List.set_cons_zero, List.set_cons_succ, i64_w, i32_w]
          rfl
        refine pure_ (i := 11) (N := some 85) (v := ?_) (a' := ?_) #[true, true, true, false, true, true, true, false, true, true, true, true, false, false, false, false, false, false, false, false, false, false, false, false] rfl rfl (any_of HT_.out (by kernel_rfl)) (fun _ _ _ h => h) (Or.inl ⟨by rfl, ?_⟩) ?_ ?_
        rotate_left
        · intro w'
          go_simp
          with_reducible rfl
        rotate_left
        · simp only [Act.put, List.setIfInBounds_toArray, List.set_cons_zero, List.set_cons_succ, i64_w, i32_w]
          rfl
        refine pure_ (i := 14) (N := some 88) (v := ?_) (a' := ?_) #[true, true, true, false, true, true, true, false, true, true, true, true, false, false, true, false, false, false, false, false, false, false, false, false] rfl rfl (any_of HT_.out (by kernel_rfl)) (fun _ _ _ h => h) (Or.inl ⟨by rfl, ?_⟩) ?_ ?_
        rotate_left
        · intro w'
          go_simp
          with_reducible rfl
        rotate_left
        · simp only [Act.put, List.setIfInBounds_toArray, List.set_cons_zero, List.set_cons_succ, i64_w, i32_w]
          rfl
        refine pure_ (i := 15) (N := some 89) (v := ?_) (a' := ?_) #[true, true, true, false, true, true, true, false, true, true, true, true, false, false, true, true, false, false, false, false, false, false, false, false] rfl rfl (any_of HT_.out (by kernel_rfl)) (fun _ _ _ h => h) (Or.inl ⟨by rfl, ?_⟩) ?_ ?_
        rotate_left
        · intro w'
          go_simp
          with_reducible rfl
        rotate_left
        · simp only [Act.put, List.setIfInBounds_toArray, List.set_cons_zero, List.set_cons_succ, i64_w, i32_w]
          rfl
        refine pure_ (i := 16) (N := some 90) (v := ?_) (a' := ?_) #[true, true, true, false, true, true, true, false, true, true, true, true, false, false, true, true, true, false, false, false, false, false, false, false] rfl rfl (any_of HT_.out (by kernel_rfl)) (fun _ _ _ h => h) (Or.inl ⟨by rfl, ?_⟩) ?_ ?_
        rotate_left
        · intro w'
          go_simp
          with_reducible rfl
        rotate_left
        · simp only [Act.put, List.setIfInBounds_toArray, List.set_cons_zero, List.set_cons_succ, i64_w, i32_w]
          rfl
        refine pure_ (i := 17) (N := some 91) (v := ?_) (a' := ?_) #[true, true, true, false, true, true, true, false, true, true, true, true, false, false, true, true, true, true, false, false, false, false, false, false] rfl rfl (any_of HT_.out (by kernel_rfl)) (fun _ _ _ h => h) (Or.inl ⟨by rfl, ?_⟩) ?_ ?_
        rotate_left
        · intro w'
          go_simp
          with_reducible rfl
        rotate_left
        · simp only [Act.put, List.setIfInBounds_toArray, List.set_cons_zero, List.set_cons_succ, i64_w, i32_w]
          rfl
        refine take_ (i := 3) (N := some 77) (v := ?_) (a' := ?_) #[true, true, true, true, true, true, true, false, true, true, true, true, false, false, true, true, true, true, false, false, false, false, false, false] rfl rfl (take_ofW HT_.out HW_.out (by kernel_rfl)) (fun _ _ _ h => h) (Or.inl ⟨by rfl, ?_⟩) hHeld ?_ ?_
        rotate_left
        · intro w' hSt
          have hcell := HXP.out w' hSt
          go_simp
          with_reducible rfl
        rotate_left
        · simp only [Act.put, List.setIfInBounds_toArray, List.set_cons_zero, List.set_cons_succ, i64_w, i32_w]
          rfl
        refine take_ (i := 7) (N := some 81) (v := ?_) (a' := ?_) #[true, true, true, true, true, true, true, true, true, true, true, true, false, false, true, true, true, true, false, false, false, false, false, false] rfl rfl (take_ofW HT_.out HW_.out (by kernel_rfl)) (fun _ _ _ h => h) (Or.inl ⟨by rfl, ?_⟩) hHeld ?_ ?_
        rotate_left
        · intro w' hSt
          have hcell := HXQ.out w' hSt
          go_simp
          with_reducible rfl
        rotate_left
        · simp only [Act.put, List.setIfInBounds_toArray, List.set_cons_zero, List.set_cons_succ, i64_w, i32_w]
          rfl
        refine take_ (i := 12) (N := some 86) (v := ?_) (a' := ?_) #[true, true, true, true, true, true, true, true, true, true, true, true, true, false, true, true, true, true, false, false, false, false, false, false] rfl rfl (take_ofW HT_.out HW_.out (by kernel_rfl)) (fun _ _ _ h => h) (Or.inl ⟨by rfl, ?_⟩) hHeld ?_ ?_
        rotate_left
        · intro w' hSt
          have hcell := HXP.out w' hSt
          go_simp
          with_reducible rfl
        rotate_left
        · simp only [Act.put, List.setIfInBounds_toArray, List.set_cons_zero, List.set_cons_succ, i64_w, i32_w]
          rfl
        refine take_ (i := 18) (N := some 92) (v := ?_) (a' := ?_) #[true, true, true, true, true, true, true, true, true, true, true, true, true, false, true, true, true, true, true, false, false, false, false, false] rfl rfl (take_ofW HT_.out HW_.out (by kernel_rfl)) (fun _ _ _ h => h) (Or.inl ⟨by rfl, ?_⟩) hHeld ?_ ?_
        rotate_left
        · intro w' hSt
          have hcell := HXQ.out w' hSt
          go_simp
          with_reducible rfl
        rotate_left
        · simp only [Act.put, List.setIfInBounds_toArray, List.set_cons_zero, List.set_cons_succ, i64_w, i32_w]
          rfl
        refine one_ (i := 13) (N := some 87) #[true, true, true, true, true, true, true, true, true, true, true, true, true, true, true, true, true, true, true, false, false, false, false, false] rfl rfl (one_of HT_.out (by kernel_rfl)) (by decide) (fun K hK => ?_)
        refine goes_ Tryd.func28 (by kernel_rfl) rfl #[.pointer (some ⟨gh, 0, none⟩), .slice Ap X.length cp] (by rfl) rfl rfl (by (try simp only [List.map_toArray, List.map_cons, List.map_nil]); first | done | rfl) ?_
        refine (hsum_calls gh Ap cp X _ (heap_keep HGr.out hHeld) (Kd.C_below HCX.out hHeld) hcp HBX.out HLX.out).mono ?_
        rintro e w8 ⟨rfl, hb⟩
        refine ⟨_, rfl, ?_⟩
        rw [HSX.out]
        have hS1 := below_step hHeld hb
        clear hb
        refine hK.out _ _ (by exact hS1) (fun hHeld => ?_)
        clear hK K
        refine norm_ (a' := ?_) ?_ ?_
        rotate_left
        · first
          | (show Act.put _ (some 87) _ = _; simp only [Act.put, List.setIfInBounds_toArray, List.set_cons_zero, List.set_cons_succ, i64_w, i32_w]; rfl)
          | rfl
        refine one_ (i := 19) (N := some 93) #[true, true, true, true, true, true, true, true, true, true, true, true, true, true, true, true, true, true, true, true, false, false, false, false] rfl rfl (one_of HT_.out (by kernel_rfl)) (by decide) (fun K hK => ?_)
        refine goes_ Tryd.func28 (by kernel_rfl) rfl #[.pointer (some ⟨gh, 0, none⟩), .slice Aq Y.length cq] (by rfl) rfl rfl (by (try simp only [List.map_toArray, List.map_cons, List.map_nil]); first | done | rfl) ?_
        refine (hsum_calls gh Aq cq Y _ (heap_keep HGr.out hHeld) (Kd.C_below HCY.out hHeld) hcq HBY.out HLY.out).mono ?_
        rintro e w9 ⟨rfl, hb⟩
        refine ⟨_, rfl, ?_⟩
        rw [HSY.out]
        have hS1 := below_step hHeld hb
        clear hb
        refine hK.out _ _ (by exact hS1) (fun hHeld => ?_)
        clear hK K
        refine norm_ (a' := ?_) ?_ ?_
        rotate_left
        · first
          | (show Act.put _ (some 93) _ = _; simp only [Act.put, List.setIfInBounds_toArray, List.set_cons_zero, List.set_cons_succ, i64_w, i32_w]; rfl)
          | rfl
        refine pure_ (i := 20) (N := some 94) (v := ?_) (a' := ?_) #[true, true, true, true, true, true, true, true, true, true, true, true, true, true, true, true, true, true, true, true, true, false, false, false] rfl rfl (any_of HT_.out (by kernel_rfl)) (fun _ _ _ h => h) (Or.inl ⟨by rfl, ?_⟩) ?_ ?_
        rotate_left
        · intro w'
          go_simp
          with_reducible rfl
        rotate_left
        · simp only [Act.put, List.setIfInBounds_toArray, List.set_cons_zero, List.set_cons_succ, i64_w, i32_w]
          rfl
        refine pure_ (i := 21) (N := some 10) (v := ?_) (a' := ?_) #[true, true, true, true, true, true, true, true, true, true, true, true, true, true, true, true, true, true, true, true, true, true, false, false] rfl rfl (any_of HT_.out (by kernel_rfl)) (fun _ _ _ h => h) (Or.inl ⟨by rfl, ?_⟩) ?_ ?_
        rotate_left
        · intro w'
          go_simp
          with_reducible rfl
        rotate_left
        · simp only [Act.put, List.setIfInBounds_toArray, List.set_cons_zero, List.set_cons_succ, i64_w, i32_w]
          rfl
        refine pure_ (i := 22) (N := some 11) (v := ?_) (a' := ?_) #[true, true, true, true, true, true, true, true, true, true, true, true, true, true, true, true, true, true, true, true, true, true, true, false] rfl rfl (any_of HT_.out (by kernel_rfl)) (fun _ _ _ h => h) (Or.inl ⟨by rfl, ?_⟩) ?_ ?_
        rotate_left
        · intro w'
          go_simp
          with_reducible rfl
        rotate_left
        · simp only [Act.put, List.setIfInBounds_toArray, List.set_cons_zero, List.set_cons_succ, i64_w, i32_w]
          rfl
        refine pure_ (i := 23) (N := some 12) (v := ?_) (a' := ?_) #[true, true, true, true, true, true, true, true, true, true, true, true, true, true, true, true, true, true, true, true, true, true, true, true] rfl rfl (any_of HT_.out (by kernel_rfl)) (fun _ _ _ h => h) (Or.inl ⟨by rfl, ?_⟩) ?_ ?_
        rotate_left
        · intro w'
          go_simp
          with_reducible rfl
        rotate_left
        · simp only [Act.put, List.setIfInBounds_toArray, List.set_cons_zero, List.set_cons_succ, i64_w, i32_w]
          rfl
        refine done_ (done_of HT_.out (by kernel_rfl)) ?_
        have HB9 := Aside0.mk hHeld
        clear hS0 hHeld HT_ HW_
        go_wp2
        go_ret3
        exact ⟨k, Ap, Aq, cp, cq, by rw [← HM0.out]; exact hkm, by rw [HXE.out, HYE.out]; exact HXY.out, fun j h1 h2 => HJ.out j h1 (by rw [HM0.out]; exact h2), by rw [HXE.out, HYE.out, HSX.out, HSY.out, HANS.out]; rfl, by rw [HXE.out]; exact hcp, by rw [HYE.out]; exact hcq, by rw [HXE.out]; exact Kd.C_below HCX.out HB9.out, by rw [HYE.out]; exact Kd.C_below HCY.out HB9.out, below_step HB4.out (below_step HB.out HB9.out)⟩
end Go.Proofs.YtoiblfmlahedlaaDoor.Ref
end
