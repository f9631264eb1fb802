/- What calls of Go functions of this seat come to, as the rows need it: under the conditions that each theorem names. -/
import Derived.Test.YtebjibkgefgalaaDoorJRead
import Derived.Test.YtebjibkgefgalaaDoorJPB
import Derived.Test.YtebjibkgefgalaaDoorRw
import Derived.Lib.SlBytesConst
namespace Go.Proofs.YtebjibkgefgalaaDoor.Jr
open Go.RowKit Go.Proofs.YtebjibkgefgalaaDoorW.PrintWords Go.Proofs.YtebjibkgefgalaaDoorW.PrintLast Go.Proofs.YtebjibkgefgalaaDoorW.PrintMore
set_option linter.unusedVariables false
set_option linter.unusedSimpArgs false
open Go.Proofs.YtebjibkgefgalaaDoor.Hand (B formL rowL formL_len info5 C_block)
open Go.Proofs.YtebjibkgefgalaaDoor.Sha (Tab heap_new heap_keep cell_of)
theorem cells_lit {w : World} (xs : List Int) (t : TypeId) (fr : Nat × Nat) (h : xs.length ≤ 9223372036854775807) : B.C (w.alloc (.cells (xs.map (Value.int .u8)).toArray t fr)) (some ⟨w.heap.size, 0, none⟩) xs.length xs :=
  C_block .u8 (heap_new _ _) xs (fun j x hj => by simp [hj]) h
def z8 : List Int := List.replicate 8001 0
theorem z8_len : z8.length = 8001 := List.length_replicate
theorem z8_bys : bys z8 := fun x hx => by
  have := List.eq_of_mem_replicate hx
  omega
theorem ab_len : (jform [97, 98]).length = 12 := by rw [jform_len]; rfl
theorem c_len : (jform [99]).length = 11 := by rw [jform_len]; rfl
theorem ab_ok : okL [[97, 98], [99]] := by
  intro x hx
  simp only [List.mem_cons, List.not_mem_nil, or_false] at hx
  rcases hx with rfl | rfl
  · exact ⟨⟨by decide, by decide⟩, fun y hy => by simp only [List.mem_cons, List.not_mem_nil, or_false] at hy; omega⟩
  · exact ⟨⟨by decide, by decide⟩, fun y hy => by simp only [List.mem_cons, List.not_mem_nil, or_false] at hy; omega⟩
theorem read7 : readJ [7] = ([], 0) := by
  unfold readJ
  refine recs_none ?_
  unfold stepJ
  rw [if_pos]
  left
  rw [Hand.bytesL_eq]
  decide +kernel
theorem known_plain : readJ ((jform [97, 98] ++ jform [99]) ++ [7]) = ([[97, 98], [99]], (jform [97, 98]).length + (jform [99]).length) := by
  have e : joinJ [[97, 98], [99]] = jform [97, 98] ++ jform [99] := by simp [joinJ]
  have h7 : bys [7] := fun y hy => by simp only [List.mem_cons, List.not_mem_nil, or_false] at hy; omega
  have h := readJ_join [[97, 98], [99]] [7] ab_ok h7 (by rw [e]; simp only [List.length_append, ab_len, c_len]; decide)
  rw [read7, e] at h
  rw [h]
  simp
theorem str_ab : strOfNums [97, 98] = ⟨#[97, 98]⟩ := rfl
/-- The records that are told, read. -/
theorem Recs.C {W : World} {base : Nat} {v : Value} {xs : List (List Int)} (h : Recs W base v xs) (hb : ∀ x ∈ xs, x.length ≤ 9223372036854775807) (hxs : xs.length ≤ 9223372036854775807) : ∃ A c, v = .slice A xs.length c ∧ xs.length ≤ c ∧ Kd.C (Kd.slice 5 B) W A xs.length xs := by
  obtain ⟨hs, g, cc, ho, hl, hit⟩ := h
  rcases ho.2 with ⟨rfl, h0⟩ | ⟨G, cap, cur, rfl, _, hgb, hle, _, hsz, hcur⟩
  · obtain rfl : xs = [] := List.length_eq_zero_iff.1 h0
    exact ⟨none, 0, rfl, Nat.le_refl _, ⟨rfl, by simp, fun h => absurd h (by simp)⟩⟩
  · refine ⟨_, _, rfl, hle, Hand.C_rows_block _ hgb xs (fun j x hj => ?_) hxs⟩
    obtain ⟨h1, h2, h3, h4, h5⟩ := hit j x hj
    have hj2 : j < xs.length := (List.getElem?_eq_some_iff.1 hj).1
    refine ⟨_, _, ?_, h2, h4.C (hb x (List.mem_of_getElem? hj))⟩
    rw [← h1, ← hcur, List.getElem?_take_of_lt (by omega), Array.getElem?_toList]
set_option maxHeartbeats 1600000 in
set_option maxRecDepth 100000 in
theorem known_calls (w : World) (hT : Tab w) : Calls Tryd.prog 8 #[] w fun e w' => e = .returned (.bool true) ∧ Below w.heap.size w w' := by
  have HTAB := Aside0.mk hT
  clear hT
  go_enter Tryd.func8, Tryd.ntmps8
  have kc := Lib.run_convert_bytes_const (P := Tryd.prog) w 22 5 #[.int .u8 97, .int .u8 98] 2 2 Tryd.underlying22 Tryd.underlying5
  go_wp2_with fail
  clear kc
  have HBa := Aside0.mk ((Below.refl w.heap.size w).alloc (Nat.le_refl _) (.cells (([97, 98] : List Int).map (Value.int .u8)).toArray 5 (2, 3)))
  refine (jform_calls (some ⟨w.heap.size, 0, none⟩) 2 [97, 98] _ (cells_lit [97, 98] 5 (2, 3) (by decide)) (by decide) (ab_ok _ (by simp)).2 (HTAB.out.below HBa.out)).mono ?_
  rintro e w1 ⟨v1, er1, rfl, _, hs1, hb⟩
  obtain ⟨rfl, hr1⟩ := hs1 (ab_ok _ (by simp)).1
  have HB1 := Aside0.mk (HBa.out.trans (hb.mono (HBa.out.size)))
  obtain ⟨A1, c1, rfl, hc1, hq1⟩ := Kd.R_reads hr1
  have HF1 := Aside0.mk hq1
  clear hs1 hb hr1 HBa hq1
  have kc := Lib.run_convert_bytes_const (P := Tryd.prog) w1 22 5 #[.int .u8 99] 1 1 Tryd.underlying22 Tryd.underlying5
  go_wp2_with fail
  clear kc
  have HBa := Aside0.mk ((Below.refl w1.heap.size w1).alloc (Nat.le_refl _) (.cells (([99] : List Int).map (Value.int .u8)).toArray 5 (1, 2)))
  refine (jform_calls (some ⟨w1.heap.size, 0, none⟩) 1 [99] _ (cells_lit [99] 5 (1, 2) (by decide)) (by decide) (ab_ok _ (by simp)).2 (HTAB.out.below (below_step HB1.out HBa.out))).mono ?_
  rintro e w2 ⟨v2, er2, rfl, _, hs2, hb⟩
  obtain ⟨rfl, hr2⟩ := hs2 (ab_ok _ (by simp)).1
  have HB12 := Aside0.mk (HBa.out.trans (hb.mono (HBa.out.size)))
  have HB2 := Aside0.mk (below_step HB1.out HB12.out)
  replace HF1 := Aside0.mk (Kd.C_below HF1.out HB12.out)
  obtain ⟨A2, c2, rfl, hc2, hq2⟩ := Kd.R_reads hr2
  have HF2 := Aside0.mk hq2
  clear hs2 hb hr2 HBa hq2 HB1 HB12
  go_wp2_with fail
  refine (jform_calls none 0 [] _ ⟨rfl, by simp, fun h => absurd h (by simp)⟩ (Nat.le_refl _) (fun x hx => by cases hx) (HTAB.out.below HB2.out)).mono ?_
  rintro e w3 ⟨v3, er3, rfl, hn3, _, hb⟩
  obtain ⟨rfl, rfl⟩ := hn3 (fun h => by have := h.1; simp at this)
  have HB3 := Aside0.mk (below_step HB2.out hb)
  replace HF1 := Aside0.mk (Kd.C_below HF1.out hb)
  replace HF2 := Aside0.mk (Kd.C_below HF2.out hb)
  clear hn3 hb HB2
  go_wp2_with (first | ((with_reducible refine gate_dst (N := 28) rfl ?_); refine Kd.R_make B (w0 := w) (ok := fun _ => True) (okp := fun _ => True) w.heap.size 5 rfl (N := 28) rfl 22 (.const (.int .i64 8001)) (.const (.int .i64 8001)) rfl 8001 rfl rfl Tryd.underlying22 (.int .u8 0) 1 info5 rfl (by decide) (by omega) 0 ?hz (fun _ h => h) trivial (by omega) (by decide) HB3.out HB3.out.size ?_; (case hz => exact rfl); intro v4 w4 ho hb2 hg _; obtain ⟨A4, c4, rfl, hc4, hr4⟩ := Kd.R_reads ho; rw [show (List.replicate (8001 : Int).toNat (0 : Int)).length = z8.length from rfl] at hc4 hr4 ⊢; have HR4 := Aside0.mk (show B.C w4 A4 z8.length z8 from hr4); have HB4 := Aside0.mk hb2; have HG4 := Aside0.mk (Hand.grown_b hg); clear ho hb2 hr4 hg))
  replace HF1 := Aside0.mk (Kd.C_below HF1.out HG4.out)
  replace HF2 := Aside0.mk (Kd.C_below HF2.out HG4.out)
  refine (jform_calls A4 c4 z8 _ HR4.out hc4 z8_bys (HTAB.out.below HB4.out)).mono ?_
  rintro e w5 ⟨v5, er5, rfl, hn5, _, hb⟩
  obtain ⟨rfl, rfl⟩ := hn5 (fun h => by have := h.2; rw [z8_len] at this; omega)
  have HB5 := Aside0.mk (below_step HB4.out hb)
  replace HF1 := Aside0.mk (Kd.C_below HF1.out hb)
  replace HF2 := Aside0.mk (Kd.C_below HF2.out hb)
  clear hn5 hb HB4 HB3 HR4 HG4 hc4
  have HFA := Aside0.mk ab_len
  have HFB := Aside0.mk c_len
  have HKP := Aside0.mk known_plain
  have HYA := Aside0.mk (show bys (jform [97, 98]) ∧ bys (jform [99]) from ⟨bys_jform (ab_ok _ (by simp)).2 (by decide), bys_jform (ab_ok _ (by simp)).2 (by decide)⟩)
  have HL12 := Aside0.mk (show (jform [97, 98]).length ≤ 12 ∧ (jform [99]).length ≤ 11 by rw [ab_len, c_len]; omega)
  generalize jform [97, 98] = fa at HF1 hc1 HFA HKP HYA HL12 ⊢
  generalize jform [99] = fb at HF2 hc2 HFB HKP HYA HL12 ⊢
  obtain ⟨Z, hZ⟩ : ∃ Z, Z = (fa ++ fb) ++ [7] := ⟨_, rfl⟩
  have HZE := Aside0.mk hZ
  rw [← hZ] at HKP
  clear hZ
  go_wp2_with (first | ((with_reducible refine gate_dst (N := 33) rfl ?_); refine Kd.R_lit B (w0 := w5) w5.heap.size 5 ?hg (N := 33) ?hd (xs := ([] : List Int)) (inner := []) (ok := fun _ => True) (okp := fun _ => True) ?hr ?hp (fun _ hk => hk) trivial (Below.refl _ _) (Nat.le_refl _) (by simp) ?_; (case hd => rfl); (case hg => rfl); (case hr => first | (go_simp; done) | (go_simp; rfl)); (case hp => exact Reps.none _ _); intro v1 w6 ho hb1 hg hnew; have HO := Aside0.mk ho; have HB6 := Aside0.mk hb1; clear ho hb1 hg hnew) | ((with_reducible refine gate_builtin (b := .append) (xs := #[.tmp 33, .tmp 34]) rfl ?_); at_builtin; refine Kd.R_append_rows B (w0 := w5) w5.heap.size rfl (.tmp 33) (.tmp 34) 22 5 (.int .u8 0) 1 rfl Tryd.underlying22 info5 rfl (by decide) (by omega) _ ([]) (fa) _ _ _ (fun _ => True) (fun _ => False) rfl rfl HO.out (Kd.C_below HF1.out HB6.out) (fun _ _ h => h) (fun _ h => h.elim) (fun _ _ => trivial) HB6.out HB6.out.size ?aL ?_; (case aL => simp; have := HL12.out; omega); intro v2 w7 ho hb2 hg hat; rw [List.nil_append] at ho; have HO2 := Aside0.mk ho; have HB7 := Aside0.mk hb2; clear ho hb2 hg hat) | ((with_reducible refine gate_builtin (b := .append) (xs := #[.tmp 35, .tmp 36]) rfl ?_); at_builtin; refine Kd.R_append_rows B (w0 := w5) w5.heap.size rfl (.tmp 35) (.tmp 36) 22 5 (.int .u8 0) 1 rfl Tryd.underlying22 info5 rfl (by decide) (by omega) _ (fa) (fb) _ _ _ (fun _ => True) (fun _ => False) rfl rfl HO2.out (Kd.C_below HF2.out HB7.out) (fun _ _ h => h) (fun _ h => h.elim) (fun _ _ => trivial) HB7.out HB7.out.size ?aL ?_; (case aL => have := HL12.out; omega); intro v3 w8 ho hb2 hg hat; have HO3 := Aside0.mk ho; have HB8 := Aside0.mk hb2; clear ho hb2 hg hat) | ((with_reducible refine gate_dst (N := 38) rfl ?_); refine Kd.R_lit B (w0 := w5) w5.heap.size 5 ?hg (N := 38) ?hd (xs := [7]) (inner := [.int .u8 7]) (ok := fun _ => True) (okp := fun _ => True) ?hr ?hp (fun _ hk => hk) trivial HB8.out HB8.out.size (by simp) ?_; (case hd => rfl); (case hg => rfl); (case hr => first | (go_simp; done) | (go_simp; rfl)); (case hp => exact Reps.one rfl (Reps.none _ _)); intro v4 w9 ho hb1 hg hnew; obtain ⟨A9, c9, rfl, hc9, hr9⟩ := Kd.R_reads ho; have HC9 := Aside0.mk hr9; have HB9 := Aside0.mk hb1; have HO4 := Aside0.mk (Kd.R_below HO3.out (Hand.grown_b hg)); clear ho hb1 hg hnew hr9) | ((with_reducible refine gate_builtin (b := .append) (xs := #[.tmp 37, .tmp 38]) rfl ?_); at_builtin; refine Kd.R_append_rows B (w0 := w5) w5.heap.size rfl (.tmp 37) (.tmp 38) 22 5 (.int .u8 0) 1 rfl Tryd.underlying22 info5 rfl (by decide) (by omega) _ (fa ++ fb) [7] _ _ _ (fun _ => True) (fun _ => False) rfl rfl HO4.out HC9.out (fun _ _ h => h) (fun _ h => h.elim) (fun _ _ => trivial) HB9.out HB9.out.size ?aL ?_; (case aL => have := HL12.out; simp; omega); intro v5 w10 ho hb2 hg hat; rw [← HZE.out] at ho; obtain ⟨A10, c10, rfl, hc10, hr10⟩ := Kd.R_reads ho; have HC10 := Aside0.mk hr10; have HB10 := Aside0.mk hb2; clear ho hb2 hg hat hr10))
  have HBX := Aside0.mk (below_step HB5.out HB10.out)
  have h7 : bys [7] := fun y hy => by simp only [List.mem_cons, List.not_mem_nil, or_false] at hy; omega
  refine (read_calls A10 c10 Z _ HC10.out hc10 (by rw [HZE.out]; exact Hand.bytes_append (Hand.bytes_append HYA.out.1 HYA.out.2) h7) (by rw [HZE.out]; have := HL12.out; simp only [List.length_append, List.length_cons, List.length_nil]; omega) (HTAB.out.below HBX.out)).mono ?_
  rintro e w11 ⟨v11, rfl, hrs, hb⟩
  rw [HKP.out] at hrs ⊢
  replace hrs : Recs w11 w10.heap.size v11 [[97, 98], [99]] := hrs
  have HBY := Aside0.mk (below_step HBX.out hb)
  obtain ⟨A11, c11, rfl, hc11, hC11⟩ := Recs.C hrs (fun x hx => by simp only [List.mem_cons, List.not_mem_nil, or_false] at hx; rcases hx with rfl | rfl <;> decide) (by decide)
  obtain ⟨ad, A12, c12, rfl, hcell, hc12, hC12⟩ := Hand.row_at hC11 0 (by decide)
  have e12 : ((fa.length : Int) == 12) = true := by rw [HFA.out]; rfl
  have e12b : (fa.length == 12) = true := by rw [HFA.out]; rfl
  have hcv : (convert 22 9 (.slice A12 2 c12)).run Tryd.prog w11 = .ok (.string ⟨#[97, 98]⟩) w11 := Kd.C_string Tryd.underlying22 Tryd.underlying5 Tryd.underlying9 (xs := [97, 98]) hC12
  have hcell0 : w11.cell? ad = some (.slice A12 2 c12) := by
    have h0 : ad.add 0 = ad := Addr.add_zero' ad
    rw [h0] at hcell
    exact hcell
  have hwf : Go.RowKit.wrap64 ((fa.length : Int) + (fb.length : Int)) = (fa.length : Int) + (fb.length : Int) := by have h1 := HFA.out; have h2 := HFB.out; unfold Go.RowKit.wrap64; omega
  clear h7 hrs hb hC11 hC12 hcell hc12 HO HO2 HO3 HO4 HB6 HB7 HB8 HB9 HB10 HC9 HC10 HBX hc9 hc10
  go_wp2
  go_ret
  exact ⟨rfl, HBY.out⟩
end Go.Proofs.YtebjibkgefgalaaDoor.Jr
