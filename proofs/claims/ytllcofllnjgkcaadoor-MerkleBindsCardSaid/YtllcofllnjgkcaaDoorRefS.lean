/- What calls of Go functions of this seat come to, as the rows need it: under the conditions that each theorem names. -/
import Derived.Test.YtllcofllnjgkcaaDoorRefR
namespace Go.Proofs.YtllcofllnjgkcaaDoor.Ref
open Go.RowKit Go.Proofs.YtllcofllnjgkcaaDoorW.PrintWords Go.Proofs.YtllcofllnjgkcaaDoorW.PrintLast Go.Proofs.YtllcofllnjgkcaaDoorW.PrintMore
set_option linter.unusedVariables false
set_option linter.unusedSimpArgs false
open Go.Proofs.YtllcofllnjgkcaaDoor.Sha
set_option maxHeartbeats 3200000 in
set_option maxRecDepth 100000 in
theorem rproof_calls (gh : Nat) (A : Option Addr) (c : Nat) (l : List Int) (i0 : Nat) (w : World) (hg : w.heap[gh]? = some (.cells hk 54 (0, 0))) (hr : B.C w A l.length l) (hc : l.length ≤ c) (hb : Sha.bytes l) (hl : l.length < 10000000) (hi : i0 < countN l.length) :
    Calls Tryd.prog 19 #[.pointer (some ⟨gh, 0, none⟩), .slice A l.length c, .int .i64 (i0 : Int)] w fun e w' => ∃ v, e = .returned v ∧ Kd.R KD 32 w' w.heap.size (fun _ => True) v (proofOf l i0) ∧ Below w.heap.size w w' := by
  have HR := Aside0.mk hr
  have HY := Aside0.mk hb
  have HG := Aside0.mk hg
  have HLN := Aside0.mk (leavesL_len l)
  have HLD := Aside0.mk (leaves_D l)
  have HPR := Aside0.mk (show [] ++ proofP (leavesL l) i0 = proofOf l i0 from rfl)
  have HDR := Aside0.mk (show (rowsL l).drop 0 = leavesL l :: rowsP (leavesL l) from rfl)
  have hcm : countN l.length ≤ 1000000 := by unfold countN; omega
  have hiL : i0 < (leavesL l).length := by rw [HLN.out]; exact hi
  have HL6 := Aside0.mk (show (leavesL l).length ≤ 1000000 by rw [HLN.out]; exact hcm)
  generalize proofOf l i0 = PR at HPR ⊢
  clear hr hb hg HLN
  go_enter Tryd.func19, Tryd.ntmps19
  go_wp2_with fail
  refine (rows_calls gh A c l _ HG.out HR.out hc HY.out hl).mono ?_
  rintro e w2 ⟨v, rfl, ho, hb⟩
  obtain ⟨A3, c3, rfl, hc3, hr3⟩ := Kd.R_reads ho
  have HRC := Aside0.mk hr3
  have HB2 := Aside0.mk hb
  have hRL := hr3.2.1
  clear ho hb hr3
  generalize rowsL l = RL at *
  generalize leavesL l = L at *
  clear hcm hi
  go_wp2
  go_loopw [2, 7, 9] (fun vi v vr wr => ∃ (r i : Nat) (cur acc : List (List Int)), i < cur.length ∧ Aside0 (isRow cur) ∧ Aside0 (RL.drop r = cur :: rowsP cur) ∧ Aside0 (acc ++ proofP cur i = PR) ∧ Aside0 (acc.length + cur.length ≤ 1000002) ∧ vi = .int .i64 (i : Int) ∧ vr = .int .i64 (r : Int) ∧ Aside0 (Kd.R KD 32 wr w2.heap.size (fun _ => True) v acc) ∧ Aside0 (Below w2.heap.size w2 wr)) (fun _ _ vr _ => RL.length - (intOf vr).toNat)
  case atStart => exact ⟨0, i0, L, [], hiL, HLD, HDR, HPR, ⟨by have := HL6.out; simp; omega⟩, rfl, rfl, ⟨Kd.R_nil _ _ _ _ _⟩, ⟨Below.refl _ _⟩⟩
  case round =>
    clear HLD HDR HPR HL6 hiL
    obtain ⟨wo, rfl⟩ : ∃ wo, wo = wr := ⟨_, rfl⟩
    obtain ⟨r, i, cur, acc, hic, HIR, HDU0, HPR, HAL, rfl, rfl, HO, HB⟩ := hrel
    have hlen : RL.length = r + (1 + (rowsP cur).length) := by
      have h := congrArg List.length HDU0.out
      rw [List.length_drop, List.length_cons] at h
      omega
    have hgr : RL.getD r [] = cur := by
      have h := congrArg (fun z => z[0]?) HDU0.out
      simp only [List.getElem?_drop, Nat.add_zero, List.getElem?_cons_zero] at h
      rw [List.getD_eq_getElem?_getD, h]
      rfl
    have hrl : r < RL.length := by omega
    obtain ⟨ad, A0, c0, rfl, hx0, hc0, hr0⟩ := rowR_at (Kd.C_below HRC.out HB.out) r hrl
    rw [hgr] at hx0 hc0 hr0
    have HCC := Aside0.mk hr0
    clear hr0 hgr
    have hi6 : i ≤ 1000002 := by have := HAL.out; omega
    have hcu6 : cur.length ≤ 1000002 := by have := HAL.out; omega
    by_cases h1 : 1 < cur.length
    · have e0 : rowsP cur = _ := rowsP_up (by omega)
      have HUL := upL_len cur
      have hr1 : r + 1 < RL.length := by rw [hlen, e0, List.length_cons]; omega
      have hr1i : (r : Int) + 1 < (RL.length : Int) := by omega
      have HDU := Aside0.mk (show RL.drop (r + 1) = upL cur :: rowsP (upL cur) by rw [← List.drop_drop, HDU0.out, e0]; rfl)
      have HPU := Aside0.mk (proofP_up (rows := cur) i (by omega))
      have HUR := Aside0.mk (upL_row HIR.out)
      clear e0 hlen HDU0
      generalize upL cur = U at *
      have hiU : i / 2 < U.length := by omega
      obtain ⟨m2, hm2e⟩ : ∃ m2, m2 = i % 2 := ⟨_, rfl⟩
      have hm2 : (i : Int) % 2 = (m2 : Int) := by omega
      by_cases he : i % 2 = 0
      · have e1 : ((m2 : Int) == 0) = true := by simp; omega
        obtain ⟨o, hoe⟩ : ∃ o, o = i + 1 := ⟨_, rfl⟩
        have HOI := Aside0.mk (show o = oth i by rw [hoe]; unfold oth; rw [if_pos he])
        have hoi : (i : Int) + 1 = (o : Int) := by omega
        clear hoe hm2e he
        by_cases ho : o < cur.length
        · have HP2 := Aside0.mk (show (acc ++ [cur.getD o []]) ++ proofP U (i / 2) = PR by rw [← HPR.out, HPU.out, if_pos (by rw [← HOI.out]; exact ho), HOI.out, List.append_assoc])
          have HDG := Aside0.mk (isRow_getD HIR.out o ho).1
          obtain ⟨ad0, rfl, _, _⟩ := row_ld HCC.out o ho
          generalize hD : cur.getD o [] = D at HP2 HDG
          have HX := Aside0.mk (row_load' HCC.out (Below.refl _ _) o ho hD)
          clear hD
          go_wp2_with (first | ((with_reducible refine gate_dst (N := 42) rfl ?_); refine wpList_load_at rfl (ty := 32) (x := .tmp 41) (p := .pointer (some (ad0.add (o * 32)))) (v := vd D) rfl rfl HX.out ?_) | ((with_reducible refine gate_dst (N := 43) rfl ?_); refine wpList_lit rfl (.tmp 42) rfl HDG.out rfl ?_) | ((with_reducible refine gate_builtin (b := .append) (xs := #[.tmp 35, .tmp 43]) rfl ?_); at_builtin; refine Kd.R_append KD (w0 := w2) w2.heap.size rfl (.tmp 35) (.tmp 43) 34 32 (.agg #[.int .u8 0, .int .u8 0, .int .u8 0, .int .u8 0, .int .u8 0, .int .u8 0, .int .u8 0, .int .u8 0, .int .u8 0, .int .u8 0, .int .u8 0, .int .u8 0, .int .u8 0, .int .u8 0, .int .u8 0, .int .u8 0, .int .u8 0, .int .u8 0, .int .u8 0, .int .u8 0, .int .u8 0, .int .u8 0, .int .u8 0, .int .u8 0, .int .u8 0, .int .u8 0, .int .u8 0, .int .u8 0, .int .u8 0, .int .u8 0, .int .u8 0, .int .u8 0]) 32 rfl Tryd.underlying34 infoDG rfl (by decide) (by omega) _ (acc) D (D.map (Value.int .u8)) (fun _ => True) (fun _ => False) rfl rfl (KD_of HDG.out) (fun _ h => h.elim) (fun _ _ => trivial) HO.out HB.out HB.out.size ?aL ?_; (case aL => have := HAL.out; omega); intro v2 w6 ho hb2 hg hat; have HO2 := Aside0.mk ho; have HB2 := Aside0.mk hb2; clear ho hb2 hg hat))
          go_roundw
          case rel => exact ⟨r + 1, i / 2, U, acc ++ [D], hiU, HUR, HDU, HP2, ⟨by have := HAL.out; simp; omega⟩, by go_num, by go_num, HO2, HB2⟩
          case measure => simp [intOf]; omega
        · have HP2 := Aside0.mk (show acc ++ proofP U (i / 2) = PR by rw [← HPR.out, HPU.out, if_neg (by rw [← HOI.out]; exact ho)]; rfl)
          go_wp2
          go_roundw
          case rel => exact ⟨r + 1, i / 2, U, acc, hiU, HUR, HDU, HP2, ⟨by have := HAL.out; omega⟩, by go_num, by go_num, HO, HB⟩
          case measure => simp [intOf]; omega
      · have e1 : ((m2 : Int) == 0) = false := by simp; omega
        obtain ⟨o, hoe⟩ : ∃ o, o = i - 1 := ⟨_, rfl⟩
        have HOI := Aside0.mk (show o = oth i by rw [hoe]; unfold oth; rw [if_neg he])
        have hoi : (i : Int) - 1 = (o : Int) := by omega
        clear hoe hm2e he
        by_cases ho : o < cur.length
        · have HP2 := Aside0.mk (show (acc ++ [cur.getD o []]) ++ proofP U (i / 2) = PR by rw [← HPR.out, HPU.out, if_pos (by rw [← HOI.out]; exact ho), HOI.out, List.append_assoc])
          have HDG := Aside0.mk (isRow_getD HIR.out o ho).1
          obtain ⟨ad0, rfl, _, _⟩ := row_ld HCC.out o ho
          generalize hD : cur.getD o [] = D at HP2 HDG
          have HX := Aside0.mk (row_load' HCC.out (Below.refl _ _) o ho hD)
          clear hD
          go_wp2_with (first | ((with_reducible refine gate_dst (N := 42) rfl ?_); refine wpList_load_at rfl (ty := 32) (x := .tmp 41) (p := .pointer (some (ad0.add (o * 32)))) (v := vd D) rfl rfl HX.out ?_) | ((with_reducible refine gate_dst (N := 43) rfl ?_); refine wpList_lit rfl (.tmp 42) rfl HDG.out rfl ?_) | ((with_reducible refine gate_builtin (b := .append) (xs := #[.tmp 35, .tmp 43]) rfl ?_); at_builtin; refine Kd.R_append KD (w0 := w2) w2.heap.size rfl (.tmp 35) (.tmp 43) 34 32 (.agg #[.int .u8 0, .int .u8 0, .int .u8 0, .int .u8 0, .int .u8 0, .int .u8 0, .int .u8 0, .int .u8 0, .int .u8 0, .int .u8 0, .int .u8 0, .int .u8 0, .int .u8 0, .int .u8 0, .int .u8 0, .int .u8 0, .int .u8 0, .int .u8 0, .int .u8 0, .int .u8 0, .int .u8 0, .int .u8 0, .int .u8 0, .int .u8 0, .int .u8 0, .int .u8 0, .int .u8 0, .int .u8 0, .int .u8 0, .int .u8 0, .int .u8 0, .int .u8 0]) 32 rfl Tryd.underlying34 infoDG rfl (by decide) (by omega) _ (acc) D (D.map (Value.int .u8)) (fun _ => True) (fun _ => False) rfl rfl (KD_of HDG.out) (fun _ h => h.elim) (fun _ _ => trivial) HO.out HB.out HB.out.size ?aL ?_; (case aL => have := HAL.out; omega); intro v2 w6 ho hb2 hg hat; have HO2 := Aside0.mk ho; have HB2 := Aside0.mk hb2; clear ho hb2 hg hat))
          go_roundw
          case rel => exact ⟨r + 1, i / 2, U, acc ++ [D], hiU, HUR, HDU, HP2, ⟨by have := HAL.out; simp; omega⟩, by go_num, by go_num, HO2, HB2⟩
          case measure => simp [intOf]; omega
        · have HP2 := Aside0.mk (show acc ++ proofP U (i / 2) = PR by rw [← HPR.out, HPU.out, if_neg (by rw [← HOI.out]; exact ho)]; rfl)
          go_wp2
          go_roundw
          case rel => exact ⟨r + 1, i / 2, U, acc, hiU, HUR, HDU, HP2, ⟨by have := HAL.out; omega⟩, by go_num, by go_num, HO, HB⟩
          case measure => simp [intOf]; omega
    · have e0 : rowsP cur = _ := rowsP_end (by omega)
      have hr1 : ¬ r + 1 < RL.length := by rw [hlen, e0, List.length_nil]; omega
      have hr1i : ¬ (r : Int) + 1 < (RL.length : Int) := by omega
      have HE := Aside0.mk (show acc = PR by rw [← HPR.out, proofP_end _ (by omega), List.append_nil])
      clear e0 hlen
      go_wp2
      go_ret
      exact ⟨_, rfl, by rw [← HE.out]; exact Kd.R_lower HO.out HB2.out.size, below_step HB2.out HB.out⟩
end Go.Proofs.YtllcofllnjgkcaaDoor.Ref
