/- What calls of Go functions of this seat come to, as the rows need it: under the conditions that each theorem names. -/
import Derived.Test.YtllcofllnjgkcaaDoorMkE
namespace Go.Proofs.YtllcofllnjgkcaaDoor.Sha
open Go.RowKit Go.Proofs.YtllcofllnjgkcaaDoorW.PrintWords Go.Proofs.YtllcofllnjgkcaaDoorW.PrintLast Go.Proofs.YtllcofllnjgkcaaDoorW.PrintMore
set_option linter.unusedVariables false
set_option linter.unusedSimpArgs false
def oth (i : Nat) : Nat := if i % 2 = 0 then i + 1 else i - 1
theorem ofInt_i64 (a : Nat) (ha : a < 9223372036854775808) : (BitVec.ofInt 64 (a : Int)).toNat = a := by
  rw [BitVec.ofInt_natCast, BitVec.toNat_ofNat]; exact Nat.mod_eq_of_lt (by omega)
theorem xor_one (i : Nat) : i ^^^ 1 = oth i := by
  have h1 : (i ^^^ 1) / 2 = i / 2 := by rw [Nat.xor_div_two]; simp
  have h2 : (i ^^^ 1) % 2 = 1 ↔ ¬ (i % 2 = 1 ↔ 1 % 2 = 1) := Nat.xor_mod_two_eq_one
  unfold oth
  split <;> omega
theorem xor1 (i : Nat) (h : i < 4611686018427387904) : bits .xor .i64 (i : Int) 1 = ((oth i : Nat) : Int) := by
  have hx : oth i ≤ i + 1 := by unfold oth; split <;> omega
  show IntKind.i64.wrap ((BitVec.ofInt 64 (i : Int) ^^^ BitVec.ofInt 64 ((1 : Nat) : Int)).toNat : Int) = _
  rw [BitVec.toNat_xor, ofInt_i64 i (by omega), ofInt_i64 1 (by omega), xor_one, IntKind.wrap_i64]
  omega
/-- The way of a place up the rows. -/
def proofP (rows : List (List Int)) (i : Nat) : List (List Int) :=
  if h : rows.length ≤ 1 then [] else (if oth i < rows.length then [rows.getD (oth i) []] else []) ++ proofP (upL rows) (i / 2)
termination_by rows.length
decreasing_by rw [upL_len]; omega
theorem proofP_end {rows : List (List Int)} (i : Nat) (h : rows.length ≤ 1) : proofP rows i = [] := by rw [proofP, dif_pos h]
theorem proofP_up {rows : List (List Int)} (i : Nat) (h : ¬ rows.length ≤ 1) : proofP rows i = (if oth i < rows.length then [rows.getD (oth i) []] else []) ++ proofP (upL rows) (i / 2) := by conv => lhs; rw [proofP, dif_neg h]
def proofOf (l : List Int) (i : Nat) : List (List Int) := proofP (leavesL l) i
theorem proof_no (A : Option Addr) (c : Nat) (l : List Int) (i : Int) (w : World) (hc : l.length ≤ 9223372036854775807) (hi : i < 0 ∨ (countN l.length : Int) ≤ i) :
    Calls Tryd.prog 16 #[.slice A l.length c, .int .i64 i] w fun e w' => e = .returned (.tuple #[.slice none 0 0, .int .i64 6]) ∧ w' = w := by
  have HC := Aside0.mk (fun w => count_calls l.length w (by omega))
  by_cases h0 : i < 0
  · have e1 : decide (i < 0) = true := decide_eq_true h0
    clear hi
    go_enter Tryd.func16, Tryd.ntmps16
    go_wp2
    go_ret2
    exact ⟨rfl, rfl⟩
  · have e1 : decide (i < 0) = false := decide_eq_false h0
    have hi2 : (countN l.length : Int) ≤ i := by omega
    have e2 : decide (i ≥ (countN l.length : Int)) = true := decide_eq_true hi2
    have e3 : decide ((countN l.length : Int) ≤ i) = true := decide_eq_true hi2
    generalize countN l.length = N at HC hi2 e2 e3
    clear hi
    go_enter Tryd.func16, Tryd.ntmps16
    go_wp2_with fail
    refine (HC.out _).mono ?_
    rintro e w1 ⟨rfl, rfl⟩
    go_wp2
    go_ret2
    exact ⟨rfl, rfl⟩
set_option maxHeartbeats 1600000 in
set_option maxRecDepth 100000 in
theorem proof_yes (A : Option Addr) (c : Nat) (l : List Int) (i : Nat) (w : World) (hr : B.C w A l.length l) (hc : l.length ≤ c) (hb : bytes l) (hl : l.length < 10000000) (hi : i < countN l.length) (hT : Tab w) :
    Calls Tryd.prog 16 #[.slice A l.length c, .int .i64 (i : Int)] w fun e w' => ∃ v, e = .returned (.tuple #[v, .int .i64 0]) ∧ Kd.R KD 32 w' w.heap.size (fun _ => True) v (proofOf l i) ∧ Below w.heap.size w w' := by
  have HR := Aside0.mk hr
  have HY := Aside0.mk hb
  have HTAB := Aside0.mk hT
  have HC := Aside0.mk (fun w => count_calls l.length w (by omega))
  have e2 : decide ((i : Int) ≥ (countN l.length : Int)) = false := decide_eq_false (by omega)
  have e3 : decide ((countN l.length : Int) ≤ (i : Int)) = false := decide_eq_false (by omega)
  have hcm : countN l.length ≤ 1000000 := by unfold countN; omega
  have hcp := count_pos l.length
  have hll := leavesL_len l
  have HLD := Aside0.mk (leaves_D l)
  have hi6 : i ≤ 1000000 := by omega
  have HPO := Aside0.mk (show proofOf l i = proofP (leavesL l) i from rfl)
  have h01 : 1 ≤ (leavesL l).length := by omega
  have h06 : (leavesL l).length ≤ 1000000 := by omega
  clear hr hb hT hcp hll
  generalize countN l.length = N at *
  go_enter Tryd.func16, Tryd.ntmps16
  go_wp2_with fail
  refine (HC.out _).mono ?_
  rintro e w1 ⟨rfl, hw⟩
  replace hw := hw.symm
  subst hw
  go_wp2_with fail
  refine (leaves_calls A c l _ HR.out hc HY.out hl HTAB.out).mono ?_
  rintro e w2 ⟨v, rfl, ho, hb⟩
  obtain ⟨A3, c3, rfl, hc3, hr3⟩ := Kd.R_reads ho
  have HRW := Aside0.mk (Kd.R_apart_nil ho)
  have HB := Aside0.mk hb
  clear ho hb hr3
  generalize leavesL l = rows0 at *
  have HPN := Aside0.mk (Kd.R_nil KD 32 w2 w.heap.size (fun _ => True))
  go_wp2
  go_loopw [1, 6, 7] (fun vi vp v wr => ∃ (j : Nat) (p rows : List (List Int)) (A3 : Option Addr) (c3 : Nat), vi = .int .i64 (j : Int) ∧ j ≤ 1000000 ∧ v = .slice A3 rows.length c3 ∧ rows.length ≤ c3 ∧ Aside0 (Kd.R KD 32 wr w.heap.size (fun _ => True) vp p) ∧ Aside0 (Kd.R KD 32 wr w.heap.size (fun k => True ∧ some k ≠ vp.ownBlock) (.slice A3 rows.length c3) rows) ∧ Aside0 (isRow rows) ∧ 1 ≤ rows.length ∧ Aside0 (p.length + rows.length ≤ 1000000) ∧ Aside0 (p ++ proofP rows j = proofP rows0 i) ∧ Aside0 (Below w.heap.size w wr)) (fun _ _ v _ => slLen v)
  case atStart => exact ⟨i, [], rows0, A3, c3, rfl, hi6, rfl, hc3, HPN, HRW, ⟨HLD.out⟩, h01, ⟨by simp; omega⟩, ⟨rfl⟩, HB⟩
  case round =>
    clear HPN HRW HB HLD h01 h06 hc3
    obtain ⟨j, p, rows, A3, c3, rfl, hj, rfl, hc3, HP, HRW, HI, h1, HL, HE, HB⟩ := hrel
    have hx1 := xor1 j (by omega)
    by_cases hlt : 1 < rows.length
    · have hul := upL_len rows
      have hu2 : (upL rows).length < rows.length := by omega
      have hu1 : 1 ≤ (upL rows).length := by omega
      have HCU := Aside0.mk (proofP_up (rows := rows) j (by omega))
      have HIU := Aside0.mk (upL_row HI.out)
      have hr6 : rows.length ≤ 1000000 := by have := HL.out; omega
      clear hul
      by_cases hot : oth j < rows.length
      · rw [if_pos hot] at HCU
        have e4 : decide (((oth j : Nat) : Int) < (rows.length : Int)) = true := decide_eq_true (by omega)
        have HRC := Aside0.mk (Kd.R_reads' HRW.out).2.2
        obtain ⟨ad, rfl, _, _⟩ := row_ld HRC.out (oth j) hot
        have HDG := Aside0.mk (isRow_getD HI.out (oth j) hot).1
        generalize hD : rows.getD (oth j) [] = D at HCU HDG
        generalize oth j = q at *
        have HX := Aside0.mk (row_load' HRC.out (Below.refl _ _) q hot hD)
        clear hD
        go_wp2_with (first | ((with_reducible refine gate_dst (N := 35) rfl ?_); refine wpList_load_at rfl (ty := 32) (x := .tmp 34) (p := .pointer (some (ad.add (q * 32)))) (v := vd D) rfl rfl HX.out ?_) | ((with_reducible refine gate_dst (N := 36) rfl ?_); refine wpList_lit rfl (.tmp 35) rfl HDG.out rfl ?_) | ((with_reducible refine gate_builtin (b := .append) (xs := #[.tmp 31, .tmp 36]) rfl ?_); at_builtin; refine Kd.R_append KD (w0 := w) w.heap.size rfl (.tmp 31) (.tmp 36) 34 32 (.agg #[.int .u8 0, .int .u8 0, .int .u8 0, .int .u8 0, .int .u8 0, .int .u8 0, .int .u8 0, .int .u8 0, .int .u8 0, .int .u8 0, .int .u8 0, .int .u8 0, .int .u8 0, .int .u8 0, .int .u8 0, .int .u8 0, .int .u8 0, .int .u8 0, .int .u8 0, .int .u8 0, .int .u8 0, .int .u8 0, .int .u8 0, .int .u8 0, .int .u8 0, .int .u8 0, .int .u8 0, .int .u8 0, .int .u8 0, .int .u8 0, .int .u8 0, .int .u8 0]) 32 rfl Tryd.underlying34 infoDG rfl (by decide) (by omega) _ (p) D (D.map (Value.int .u8)) (fun _ => True) (fun _ => False) rfl rfl (KD_of HDG.out) (fun _ h => h.elim) (fun _ _ => trivial) HP.out HB.out HB.out.size ?aL ?_; (case aL => have := HL.out; omega); intro v2 w6 ho hb2 hg hat; have HP2 := Aside0.mk ho; have HB2 := Aside0.mk hb2; have HRC2 := Aside0.mk (Kd.R_reads' (Kd.R_after HRW.out hg hat)).2.2; clear ho hb2 hg hat))
        have hk1 : 1 ≤ rows.length := h1
        go_wp2_with fail
        refine (up_calls _ c3 rows _ HRC2.out hc3 HI.out (by omega) (HTAB.out.below HB2.out)).mono ?_
        rintro e w5 ⟨v5, rfl, ho, hb⟩
        have HRW3 := Aside0.mk (Kd.R_mono (Kd.R_lower (Kd.R_newR ho HP2.out) HB2.out.size) (fun k hk => hk))
        have HP3 := Aside0.mk (Kd.R_below HP2.out hb)
        have HB3 := Aside0.mk (below_step HB2.out hb)
        obtain ⟨A4, c4, rfl, hc4, hr4⟩ := Kd.R_reads ho
        clear ho hb hr4
        have HL3 := Aside0.mk (show (p ++ [D]).length + (upL rows).length ≤ 1000000 by have := HL.out; rw [List.length_append, List.length_singleton]; omega)
        have HE3 := Aside0.mk (show (p ++ [D]) ++ proofP (upL rows) (j / 2) = proofP rows0 i by rw [← HE.out, HCU.out, List.append_assoc])
        generalize upL rows = rows2 at *
        generalize p ++ [D] = p2 at *
        have hj2 : j / 2 ≤ 1000000 := by omega
        go_wp2
        go_roundw
        case rel => exact ⟨j / 2, p2, rows2, A4, c4, by go_num, hj2, rfl, hc4, HP3, HRW3, HIU, hu1, HL3, HE3, HB3⟩
        case measure => exact hu2
      · rw [if_neg hot, List.nil_append] at HCU
        have e4 : decide (((oth j : Nat) : Int) < (rows.length : Int)) = false := decide_eq_false (by omega)
        have HRC2 := Aside0.mk (Kd.R_reads' HRW.out).2.2
        generalize oth j = q at *
        go_wp2_with fail
        refine (up_calls _ c3 rows _ HRC2.out hc3 HI.out (by omega) (HTAB.out.below HB.out)).mono ?_
        rintro e w5 ⟨v5, rfl, ho, hb⟩
        have HRW3 := Aside0.mk (Kd.R_mono (Kd.R_lower (Kd.R_newR ho HP.out) HB.out.size) (fun k hk => hk))
        have HP3 := Aside0.mk (Kd.R_below HP.out hb)
        have HB3 := Aside0.mk (below_step HB.out hb)
        obtain ⟨A4, c4, rfl, hc4, hr4⟩ := Kd.R_reads ho
        clear ho hb hr4
        have HL3 := Aside0.mk (show p.length + (upL rows).length ≤ 1000000 by have := HL.out; omega)
        have HE3 := Aside0.mk (show p ++ proofP (upL rows) (j / 2) = proofP rows0 i by rw [← HE.out, HCU.out])
        generalize upL rows = rows2 at *
        have hj2 : j / 2 ≤ 1000000 := by omega
        go_wp2
        go_roundw
        case rel => exact ⟨j / 2, p, rows2, A4, c4, by go_num, hj2, rfl, hc4, HP3, HRW3, HIU, hu1, HL3, HE3, HB3⟩
        case measure => exact hu2
    · have HEE := Aside0.mk (show p = proofOf l i by rw [HPO.out, ← HE.out, proofP_end j (by omega), List.append_nil])
      clear hx1
      go_wp2
      go_ret2
      exact ⟨_, rfl, by rw [← HEE.out]; exact HP.out, HB.out⟩
end Go.Proofs.YtllcofllnjgkcaaDoor.Sha
