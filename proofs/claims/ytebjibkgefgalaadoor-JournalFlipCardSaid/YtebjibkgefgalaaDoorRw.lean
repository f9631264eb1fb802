/- What calls of Go functions of this seat come to, as the rows need it: under the conditions that each theorem names. -/
import Derived.Test.YtebjibkgefgalaaDoorBytesB
import Derived.Test.YtebjibkgefgalaaDoorWRepsOne
namespace Go.Proofs.YtebjibkgefgalaaDoor.Hand
open Go.RowKit Go.Proofs.YtebjibkgefgalaaDoorW.PrintWords Go.Proofs.YtebjibkgefgalaaDoorW.PrintLast Go.Proofs.YtebjibkgefgalaaDoorW.PrintMore
set_option linter.unusedVariables false
set_option linter.unusedSimpArgs false
theorem grown_b {w w' : World} (h : w.grownBy w' none) : Below w.heap.size w w' := ⟨h.os, h.tape, h.output, h.size, fun k hk => h.block k hk (by simp)⟩
set_option maxHeartbeats 1600000 in
set_option maxRecDepth 100000 in
theorem rform_calls (n : Nat) (w : World) (hn : n < 18446744073709551616) :
    Calls Tryd.prog 19 #[.int .u64 n] w fun e w' => ∃ v, e = .returned v ∧ Kd.R B 5 w' w.heap.size (fun _ => True) v (formL n) ∧ Below w.heap.size w w' := by
  have HA0 := Aside0.mk (At.start n hn)
  clear hn
  go_enter Tryd.func19, Tryd.ntmps19
  go_wp2
  go_loopw [0, 3] (fun v0 v3 wr => ∃ (m : Nat) (acc : List Int), v0 = .int .u64 (m : Int) ∧ m < 18446744073709551616 ∧ Aside0 (At n m acc) ∧ Aside0 (Kd.R B 5 wr w.heap.size (fun _ => True) v3 acc) ∧ Aside0 (Below w.heap.size w wr)) (fun v0 _ _ => (intOf v0).toNat)
  case atStart => exact ⟨n, [], rfl, by have := HA0.out.2.1; simpa using this, HA0, ⟨Kd.R_nil _ _ _ _ _⟩, ⟨Below.refl _ _⟩⟩
  case round =>
    clear HA0
    obtain ⟨m, acc, rfl, hm64, HA, HO, HB⟩ := hrel
    by_cases h0 : m = 0
    · subst h0
      have hd := HA.out.done
      subst hd
      have HL8 := Aside0.mk HA.out.1
      obtain ⟨A3, c3, rfl, hc3, hr3⟩ := Kd.R_reads HO.out
      have HR3 := Aside0.mk hr3
      have hw8 : IntKind.u8.wrap ((digs n).length : Int) = ((digs n).length : Int) := by rw [IntKind.wrap_u8]; have := HL8.out; omega
      have HFL := Aside0.mk (show [((digs n).length : Int)] ++ digs n = formL n from rfl)
      clear hr3 HA HO
      generalize digs n = D at *
      rw [show ((0 : Nat) : Int) = 0 from rfl]
      go_wp2_with (first | ((with_reducible refine gate_dst (N := 17) rfl ?_); refine Kd.R_lit B (w0 := w) w.heap.size 5 ?hg (N := 17) ?hd (xs := [(D.length : Int)]) (inner := [.int .u8 (D.length : Int)]) (ok := fun _ => True) (okp := fun _ => True) ?hr ?hp (fun _ hk => hk) trivial HB.out HB.out.size (by simp) ?_; (case hd => rfl); (case hg => rfl); (case hr => first | (go_simp; done) | (go_simp; rfl)); (case hp => exact Reps.one rfl (Reps.none _ _)); intro v1 w2 ho hb1 hg hnew; have HO := Aside0.mk ho; have HB1 := Aside0.mk hb1; have HR4 := Aside0.mk (Kd.C_below HR3.out (grown_b hg)); clear ho hb1 hg hnew) | ((with_reducible refine gate_builtin (b := .append) (xs := #[.tmp 17, .tmp 18]) rfl ?_); at_builtin; refine Kd.R_append_rows B (w0 := w) w.heap.size rfl (.tmp 17) (.tmp 18) 22 5 (.int .u8 0) 1 rfl Tryd.underlying22 info5 rfl (by decide) (by omega) _ ([(D.length : Int)]) (D) _ _ _ (fun _ => True) (fun _ => False) rfl rfl HO.out (HR4.out) (fun _ _ h => h) (fun _ h => h.elim) (fun _ _ => trivial) HB1.out HB1.out.size ?aL ?_; (case aL => have := HL8.out; simp; omega); intro v2 w6 ho hb2 hg hat; rw [HFL.out] at ho; have HO2 := Aside0.mk ho; have HB2 := Aside0.mk hb2; clear ho hb2 hg hat))
      go_ret
      exact ⟨_, rfl, HO2.out, HB2.out⟩
    · have hmp : (m : Int) > 0 := by omega
      obtain ⟨hl7, hA2⟩ := HA.out.step (by omega)
      have HA2 := Aside0.mk hA2
      have HL7 := Aside0.mk hl7
      obtain ⟨A3, c3, rfl, hc3, hr3⟩ := Kd.R_reads HO.out
      have HR3 := Aside0.mk hr3
      have hm2 : (m : Int) % 256 = ((m % 256 : Nat) : Int) := by omega
      have hw8 : IntKind.u8.wrap ((m % 256 : Nat) : Int) = ((m % 256 : Nat) : Int) := by rw [IntKind.wrap_u8]; omega
      have hmd : m / 256 < 18446744073709551616 := by omega
      have HMD := Aside0.mk (show m / 256 < 18446744073709551616 ∧ m / 256 < m by omega)
      have hm3 : (m : Int) / 256 = ((m / 256 : Nat) : Int) := by omega
      have hwq : IntKind.u64.wrap ((m / 256 : Nat) : Int) = ((m / 256 : Nat) : Int) := by simp [IntKind.wrap, IntKind.bits, IntKind.signed]; omega
      obtain ⟨x, hx⟩ : ∃ x : Nat, x = m % 256 := ⟨_, rfl⟩
      rw [← hx] at hm2 hw8 hA2 HA2
      have HFL := Aside0.mk (show [(x : Int)] ++ acc = (x : Int) :: acc from rfl)
      obtain ⟨q, hq⟩ : ∃ q : Nat, q = m / 256 := ⟨_, rfl⟩
      rw [← hq] at hm3 hwq hA2 HA2 HMD
      clear hr3 HA HO hx hA2 hl7 hmd hq hm64
      go_wp2_with (first | ((with_reducible refine gate_dst (N := 9) rfl ?_); refine Kd.R_lit B (w0 := w) w.heap.size 5 ?hg (N := 9) ?hd (xs := [(x : Int)]) (inner := [.int .u8 (x : Int)]) (ok := fun _ => True) (okp := fun _ => True) ?hr ?hp (fun _ hk => hk) trivial HB.out HB.out.size (by simp) ?_; (case hd => rfl); (case hg => rfl); (case hr => first | (go_simp; done) | (go_simp; rfl)); (case hp => exact Reps.one rfl (Reps.none _ _)); intro v1 w2 ho hb1 hg hnew; have HO := Aside0.mk ho; have HB1 := Aside0.mk hb1; have HR4 := Aside0.mk (Kd.C_below HR3.out (grown_b hg)); clear ho hb1 hg hnew) | ((with_reducible refine gate_builtin (b := .append) (xs := #[.tmp 9, .tmp 10]) rfl ?_); at_builtin; refine Kd.R_append_rows B (w0 := w) w.heap.size rfl (.tmp 9) (.tmp 10) 22 5 (.int .u8 0) 1 rfl Tryd.underlying22 info5 rfl (by decide) (by omega) _ ([(x : Int)]) (acc) _ _ _ (fun _ => True) (fun _ => False) rfl rfl HO.out (HR4.out) (fun _ _ h => h) (fun _ h => h.elim) (fun _ _ => trivial) HB1.out HB1.out.size ?aL ?_; (case aL => have := HL7.out; simp; omega); intro v2 w6 ho hb2 hg hat; rw [HFL.out] at ho; have HO2 := Aside0.mk ho; have HB2 := Aside0.mk hb2; clear ho hb2 hg hat))
      go_roundw
      case rel => exact ⟨q, (x : Int) :: acc, rfl, HMD.out.1, HA2, HO2, HB2⟩
      case measure => have := HMD.out.2; simp [intOf]; omega
theorem rd_drop (l : List Int) (n k : Nat) : rd (l.drop n) (k : Int) = rd l ((n + k : Nat) : Int) := by
  unfold rd
  rw [Int.toNat_natCast, Int.toNat_natCast, List.getD_eq_getElem?_getD, List.getD_eq_getElem?_getD, List.getElem?_drop]
set_option maxHeartbeats 1600000 in
set_option maxRecDepth 100000 in
theorem ruint_calls (A0 : Option Addr) (c0 : Nat) (l0 : List Int) (a : Int) (w : World) (hr0 : B.C w A0 l0.length l0) (hc0 : l0.length ≤ c0) (hb : bytes l0) (hL : l0.length < 140737488355300) :
    Calls Tryd.prog 31 #[.slice A0 l0.length c0, .int .i64 a] w fun e w' => e = .returned (U3 (uintL l0 a)) ∧ w' = w := by
  have HR := Aside0.mk hr0
  have HB := Aside0.mk hb
  have HLL := Aside0.mk hL
  clear hr0 hb hL
  by_cases ha : a < 0
  · have HU := Aside0.mk (show uintL l0 a = (0, 0, 2) by unfold uintL; rw [if_pos (.inl ha)])
    go_enter Tryd.func31, Tryd.ntmps31
    go_wp2
    go_ret3
    exact ⟨by rw [HU.out]; rfl, rfl⟩
  by_cases ha2 : (l0.length : Int) < a
  · have HU := Aside0.mk (show uintL l0 a = (0, 0, 2) by unfold uintL; rw [if_pos (.inr ha2)])
    go_enter Tryd.func31, Tryd.ntmps31
    go_wp2
    go_ret3
    exact ⟨by rw [HU.out]; rfl, rfl⟩
  obtain ⟨n, rfl⟩ := Int.eq_ofNat_of_zero_le (show 0 ≤ a by omega)
  have HU0 := Aside0.mk (show uintL l0 n = if (l0.drop n).length = 0 then (0, 0, 4) else if 8 < rd (l0.drop n) (0 : Nat) ∨ (0 < rd (l0.drop n) (0 : Nat) ∧ 0 < ((l0.drop n).drop 1).length ∧ rd ((l0.drop n).drop 1) (0 : Nat) = 0) then (0, 0, 5)
    else if (((l0.drop n).drop 1).length : Int) < rd (l0.drop n) (0 : Nat) then (0, 0, 4) else (numL (((l0.drop n).drop 1).take (rd (l0.drop n) (0 : Nat)).toNat), n + 1 + rd (l0.drop n) (0 : Nat), 0) by unfold uintL; rw [if_neg (by omega), Int.toNat_natCast])
  have e1 : decide ((n : Int) > (l0.length : Int)) = false := decide_eq_false (by omega)
  have e1b : decide (l0.length < n) = false := decide_eq_false (by omega)
  by_cases h0 : n = l0.length
  · have HU := Aside0.mk (show uintL l0 n = (0, 0, 4) by rw [HU0.out, if_pos (by rw [List.length_drop]; omega)])
    have e2 : (n == l0.length) = true := by simpa using h0
    have e2b : ((n : Int) == (l0.length : Int)) = true := by rw [beq_iff_eq]; omega
    clear HU0 h0
    go_enter Tryd.func31, Tryd.ntmps31
    go_wp2
    go_ret3
    exact ⟨by rw [HU.out]; rfl, rfl⟩
  have hn : n < l0.length := by omega
  have e2 : (n == l0.length) = false := by rw [beq_eq_false_iff_ne]; exact h0
  have e2b : ((n : Int) == (l0.length : Int)) = false := by rw [beq_eq_false_iff_ne]; omega
  obtain ⟨ad0, rfl, hx0⟩ := getB HR.out n hn
  obtain ⟨hs0, hs1⟩ := bytes_rd HB.out n hn
  have HU := Aside0.mk (HU0.out.trans (if_neg (by rw [List.length_drop]; omega)))
  rw [rd_drop l0 n 0, Nat.add_zero] at HU
  have HQL := Aside0.mk (show ((l0.drop n).drop 1).length + n + 1 = l0.length by rw [List.length_drop, List.length_drop]; omega)
  have HQR := Aside0.mk (fun k : Nat => show rd ((l0.drop n).drop 1) (k : Int) = rd l0 ((n + 1 + k : Nat) : Int) by rw [rd_drop, rd_drop]; congr 2; omega)
  have HQB := Aside0.mk (bytes_drop (bytes_drop HB.out n) 1)
  clear HU0 h0 ha ha2
  generalize (l0.drop n).drop 1 = q at *
  generalize rd l0 (n : Int) = s at *
  obtain ⟨m, rfl⟩ := Int.eq_ofNat_of_zero_le hs0
  by_cases h8 : 8 < (m : Int)
  · replace HU := Aside0.mk (HU.out.trans (if_pos (.inl h8)))
    go_enter Tryd.func31, Tryd.ntmps31
    go_wp2
    go_ret3
    exact ⟨by rw [HU.out]; rfl, rfl⟩
  have h8' : ¬ (m : Int) > 8 := by omega
  have hm8 : m ≤ 8 := by omega
  go_enter Tryd.func31, Tryd.ntmps31
  go_wp2
  clear e1 e1b e2 e2b h8 h8'
  go_loopw [8, 9] (fun v8 v9 wr => ∃ j i1 : Nat, i1 = j + 1 ∧ j ≤ m ∧ v9 = .int .i64 (i1 : Int) ∧ v8 = .int .u64 (numL (q.take j)) ∧ Aside0 (j ≤ q.length ∧ (0 < j → rd q (0 : Nat) ≠ 0)) ∧ wr = w) (fun _ v _ => 10 - (intOf v).toNat)
  case atStart => exact ⟨0, 1, rfl, Nat.zero_le _, rfl, rfl, ⟨Nat.zero_le _, fun h => absurd h (by omega)⟩, rfl⟩
  case round =>
    obtain ⟨j, i1, hij, hjm, rfl, rfl, HJ, hwr⟩ := hrel
    replace hwr := hwr.symm
    subst hwr
    by_cases hlt : j < m
    · have e3 : decide (i1 ≤ m) = true := decide_eq_true (by omega)
      have e3b : decide ((i1 : Int) ≤ (m : Int)) = true := decide_eq_true (by omega)
      have him : i1 ≤ m := by omega
      obtain ⟨p, hp⟩ : ∃ p, p = n + i1 := ⟨_, rfl⟩
      have hpw : (n : Int) + (i1 : Int) = (p : Int) := by omega
      have hpb : (p : Int) ≤ 140737488355400 := by have := HLL.out; omega
      have HNL := Aside0.mk (numL_range (q.take j))
      by_cases hpl : l0.length ≤ p
      · have e4 : decide ((p : Int) ≥ (l0.length : Int)) = true := decide_eq_true (by omega)
        have e4b : decide (l0.length ≤ p) = true := decide_eq_true hpl
        have HE := Aside0.mk (show uintL l0 n = (0, 0, 4) by
          have h1 := HJ.out
          have h2 := HQL.out
          rw [HU.out, if_neg, if_pos (by omega)]
          rintro (h | ⟨h3, h4, h5⟩)
          · omega
          · exact h1.2 (by omega) h5)
        clear hij hp
        generalize numL (q.take j) = y at *
        go_wp2
        go_ret3
        exact ⟨by rw [HE.out]; rfl, rfl⟩
      · have e4 : decide ((p : Int) ≥ (l0.length : Int)) = false := decide_eq_false (by omega)
        have e4b : decide (l0.length ≤ p) = false := decide_eq_false hpl
        have hpl2 : p < l0.length := by omega
        obtain ⟨ad1, had1, hx1⟩ := getB HR.out p hpl2
        cases had1
        obtain ⟨hy0, hy1⟩ := bytes_rd HB.out p hpl2
        have hjq : j < q.length := by have := HQL.out; omega
        have HXQ := Aside0.mk (show rd q (j : Int) = rd l0 (p : Int) by rw [HQR.out j]; congr 2; omega)
        have HSN := Aside0.mk (show numL (q.take (j + 1)) = IntKind.u64.wrap (numL (q.take j) * 256 + rd l0 (p : Int)) by rw [take_snoc_rd q j hjq, numL_snoc, HXQ.out])
        have HWS := Aside0.mk (wrap_shl (numL (q.take j)) (rd l0 (p : Int)))
        by_cases hz : j = 0 ∧ rd l0 (p : Int) = 0
        · have HE := Aside0.mk (show uintL l0 n = (0, 0, 5) by
            have h2 := HXQ.out
            rw [hz.1] at h2
            rw [HU.out, if_pos (.inr ⟨by omega, by omega, by rw [h2]; exact hz.2⟩)])
          have e5 : (i1 == 1) = true := by rw [beq_iff_eq]; omega
          have e5b : ((i1 : Int) == 1) = true := by rw [beq_iff_eq]; omega
          rw [hz.2] at hx1
          clear hz hij HXQ HSN HWS hp
          generalize numL (q.take j) = y at *
          go_wp2
          go_ret3
          exact ⟨by rw [HE.out]; rfl, rfl⟩
        · have HJ2 := Aside0.mk (show j + 1 ≤ q.length ∧ (0 < j + 1 → rd q (0 : Nat) ≠ 0) from ⟨hjq, fun _ => by
            rcases Nat.eq_zero_or_pos j with h | h
            · have h2 := HXQ.out
              rw [h] at h2
              rw [h2]
              exact fun h3 => hz ⟨h, h3⟩
            · exact HJ.out.2 h⟩)
          generalize rd l0 (p : Int) = x at *
          have HIJ := Aside0.mk hij
          by_cases hj1 : j = 0
          · have e5 : (i1 == 1) = true := by rw [beq_iff_eq]; omega
            have e5b : ((i1 : Int) == 1) = true := by rw [beq_iff_eq]; omega
            have e6 : (x == 0) = false := by rw [beq_eq_false_iff_ne]; exact fun h => hz ⟨hj1, h⟩
            clear hz hij hj1 HXQ hp
            generalize hyy : numL (q.take j) = y at *
            have hws := HWS.out
            go_wp2
            go_roundw
            case rel => exact ⟨j + 1, i1 + 1, by have := HIJ.out; omega, by omega, by go_num, by rw [HSN.out], HJ2, trivial⟩
            case measure => simp [intOf]; omega
          · have e5 : (i1 == 1) = false := by rw [beq_eq_false_iff_ne]; omega
            have e5b : ((i1 : Int) == 1) = false := by rw [beq_eq_false_iff_ne]; omega
            clear hz hij hj1 HXQ hp
            generalize hyy : numL (q.take j) = y at *
            have hws := HWS.out
            go_wp2
            go_roundw
            case rel => exact ⟨j + 1, i1 + 1, by have := HIJ.out; omega, by omega, by go_num, by rw [HSN.out], HJ2, trivial⟩
            case measure => simp [intOf]; omega
    · have e3 : decide (i1 ≤ m) = false := decide_eq_false (by omega)
      have e3b : decide ((i1 : Int) ≤ (m : Int)) = false := decide_eq_false (by omega)
      obtain rfl : j = m := by omega
      have HE := Aside0.mk (show uintL l0 n = (numL (q.take j), n + 1 + (j : Int), 0) by
        have h1 := HJ.out
        rw [HU.out, if_neg, if_neg (by omega), Int.toNat_natCast]
        rintro (h | ⟨h3, h4, h5⟩)
        · omega
        · exact h1.2 (by omega) h5)
      clear hij hlt
      have hnj : (n : Int) + 1 + (j : Int) ≤ 140737488355400 := by have := HLL.out; omega
      generalize numL (q.take j) = y at *
      go_wp2
      go_ret3
      exact ⟨by rw [HE.out]; rfl, rfl⟩
set_option maxHeartbeats 1600000 in
set_option maxRecDepth 100000 in
theorem rbytes_calls (A0 : Option Addr) (c0 : Nat) (l0 : List Int) (a most : Int) (w : World) (hr0 : B.C w A0 l0.length l0) (hc0 : l0.length ≤ c0) (hb : bytes l0) (hL : l0.length < 140737488355300) (hmost : most ≤ 9223372036854775807) :
    Calls Tryd.prog 22 #[.slice A0 l0.length c0, .int .i64 a, .int .i64 most] w fun e w' => ∃ v : Value, e = .returned (.tuple #[v, .int .i64 (bytesL l0 a most).2.1, .int .i64 (bytesL l0 a most).2.2]) ∧ Kd.R B 5 w' w.heap.size (fun _ => True) v (bytesL l0 a most).1 ∧ Below w.heap.size w w' := by
  have HR := Aside0.mk hr0
  have HBY := Aside0.mk hb
  have HLL := Aside0.mk hL
  have HE := Aside0.mk (uintL_err l0 a)
  have HO := Aside0.mk (uintL_ok l0 a hb)
  have HD := Aside0.mk (bytesL_eq l0 a most)
  clear hr0 hb
  have HU := Aside0.mk (fun w => ruint_calls A0 c0 l0 a w)
  obtain ⟨n, x, e, hu⟩ : ∃ n x e : Int, uintL l0 a = (n, x, e) := ⟨_, _, _, rfl⟩
  rw [hu] at HE HO HD
  have HUU := Aside0.mk hu
  clear hu
  by_cases h0 : e = 0
  · subst h0
    obtain ⟨ho1, ho2, ho3, ho4, ho5⟩ := HO.out rfl
    replace HD := Aside0.mk (HD.out.trans (if_neg (by simp)))
    simp only at ho1 ho2 ho3 ho4 ho5 HD
    clear HE HO
    obtain ⟨N, rfl⟩ := Int.eq_ofNat_of_zero_le ho1
    obtain ⟨X, rfl⟩ := Int.eq_ofNat_of_zero_le (show 0 ≤ x by omega)
    by_cases hm0 : most < 0
    · replace HD := Aside0.mk (HD.out.trans (if_pos (.inl hm0)))
      clear hL
      go_enter Tryd.func22, Tryd.ntmps22
      go_wp2_with fail
      refine (HU.out _ HR.out hc0 HBY.out HLL.out).mono ?_
      rintro e w' ⟨rfl, rfl⟩
      rw [HUU.out]
      go_wp2
      go_ret3
      refine ⟨.slice none 0 0, ?_, ?_, Below.refl _ _⟩
      · rw [HD.out]; rfl
      · rw [HD.out]; exact Kd.R_nil _ _ _ _ _
    have hwm : IntKind.u64.wrap most = most := wrap_of _ (by omega) (by omega)
    have hm4 : 0 ≤ most := by omega
    by_cases hm1 : most < (N : Int)
    · replace HD := Aside0.mk (HD.out.trans (if_pos (.inr hm1)))
      clear hL ho2 hmost
      go_enter Tryd.func22, Tryd.ntmps22
      go_wp2_with fail
      refine (HU.out _ HR.out hc0 HBY.out HLL.out).mono ?_
      rintro e w' ⟨rfl, rfl⟩
      rw [HUU.out]
      go_wp2
      go_ret3
      refine ⟨.slice none 0 0, ?_, ?_, Below.refl _ _⟩
      · rw [HD.out]; rfl
      · rw [HD.out]; exact Kd.R_nil _ _ _ _ _
    replace HD := Aside0.mk (HD.out.trans (if_neg (by omega)))
    simp only [Int.toNat_natCast] at HD
    have hwN : IntKind.i64.wrap (N : Int) = (N : Int) := wrap_i64 _ (by omega)
    have HXN := Aside0.mk (show (X : Int) ≤ (l0.length : Int) ∧ (N : Int) ≤ 9223372036854775807 from ⟨ho5, by omega⟩)
    have hm1' : ¬ (N : Int) > most := by omega
    clear ho2 hmost hL ho3 ho4 ho5
    go_enter Tryd.func22, Tryd.ntmps22
    go_wp2_with fail
    refine (HU.out _ HR.out hc0 HBY.out HLL.out).mono ?_
    rintro e w2 ⟨rfl, hw⟩
    replace hw := hw.symm
    subst hw
    rw [HUU.out]
    go_wp2
    clear hm1 hm1' hm0 hm4 hwm ho1
    go_loopw [12, 13] (fun v i wr => ∃ j : Nat, i = .int .i64 (j : Int) ∧ j ≤ N ∧ Aside0 (X + j ≤ l0.length) ∧ Aside0 (Kd.R B 5 wr w.heap.size (fun _ => True) v ((l0.drop X).take j)) ∧ Aside0 (Below w.heap.size w wr)) (fun _ i _ => N - (intOf i).toNat)
    case atStart => exact ⟨0, rfl, Nat.zero_le _, ⟨by have := HXN.out.1; omega⟩, ⟨by simpa using Kd.R_nil B 5 w w.heap.size (fun _ => True)⟩, ⟨Below.refl _ _⟩⟩
    case round =>
      obtain ⟨j, rfl, hj, HJ, HO, HB⟩ := hrel
      by_cases hlt : j < N
      · have e3 : decide ((j : Int) < (N : Int)) = true := decide_eq_true (by omega)
        have e3b : decide (j < N) = true := decide_eq_true hlt
        obtain ⟨p, hp⟩ : ∃ p, p = X + j := ⟨_, rfl⟩
        have hpw : (X : Int) + (j : Int) = (p : Int) := by omega
        have hpb : (p : Int) ≤ 140737488355300 := by have := HLL.out; have := HJ.out; omega
        have HPP := Aside0.mk hp
        by_cases hpl : l0.length ≤ p
        · have e4 : decide ((p : Int) ≥ (l0.length : Int)) = true := decide_eq_true (by omega)
          have e4b : decide (l0.length ≤ p) = true := decide_eq_true hpl
          replace HD := Aside0.mk (HD.out.trans (if_pos (by omega)))
          clear hp
          go_wp2
          go_ret3
          refine ⟨.slice none 0 0, ?_, ?_, HB.out⟩
          · rw [HD.out]; rfl
          · rw [HD.out]; exact Kd.R_nil _ _ _ _ _
        · have e4 : decide ((p : Int) ≥ (l0.length : Int)) = false := decide_eq_false (by omega)
          have e4b : decide (l0.length ≤ p) = false := decide_eq_false hpl
          have hpl2 : p < l0.length := by omega
          obtain ⟨ad0, rfl, hx1⟩ := getB (Kd.C_below HR.out HB.out) p hpl2
          have HSN := Aside0.mk (show (l0.drop X).take j ++ [rd l0 (p : Int)] = (l0.drop X).take (j + 1) by rw [take_snoc_rd _ _ (by rw [List.length_drop]; omega), rd_drop, hp])
          have HTL := Aside0.mk (show ((l0.drop X).take j).length ≤ j by rw [List.length_take]; omega)
          have HJN := Aside0.mk (show X + (j + 1) ≤ l0.length by omega)
          have HJ9 := Aside0.mk (show j ≤ 140737488355300 by omega)
          clear hp
          generalize rd l0 (p : Int) = y at *
          generalize (l0.drop X).take j = t at HO HSN HTL
          go_wp2_with (first | ((with_reducible refine gate_builtin (b := .append) (xs := #[.tmp 44, .tmp 51]) rfl ?_); at_builtin; refine Kd.R_append B (w0 := w) w.heap.size rfl (.tmp 44) (.tmp 51) 22 5 (.int .u8 0) 1 rfl Tryd.underlying22 info5 rfl (by decide) (by omega) _ t y [.int .u8 y] (fun _ => True) (fun _ => False) rfl rfl rfl (fun _ h => h.elim) (fun _ _ => trivial) HO.out HB.out HB.out.size ?aL ?_; (case aL => have := HTL.out; have := HJ9.out; omega); intro v2 w6 ho hb2 _ _; rw [HSN.out] at ho; have HO2 := Aside0.mk ho; have HB2 := Aside0.mk hb2; clear ho hb2))
          go_roundw
          case rel => exact ⟨j + 1, by go_num, by omega, HJN, HO2, HB2⟩
          case measure => simp [intOf]; omega
      · have e3 : decide ((j : Int) < (N : Int)) = false := decide_eq_false (by omega)
        have e3b : decide (j < N) = false := decide_eq_false hlt
        obtain rfl : j = N := by omega
        replace HD := Aside0.mk (HD.out.trans (if_neg (by have := HJ.out; omega)))
        have hsum : (X : Int) + (j : Int) ≤ 140737488355300 := by have := HLL.out; have := HJ.out; omega
        clear hlt hj
        go_wp2
        go_ret3
        refine ⟨?v, ?h1, ?h2, HB.out⟩
        case h2 => rw [HD.out]; exact HO.out
        case h1 => rw [HD.out]; rfl
  · have HE0 := HE.out.2.2 h0
    replace HD := Aside0.mk (HD.out.trans (if_pos h0))
    have hbe : (e == 0) = false := by simpa using h0
    have hbn : (e != 0) = true := by simpa using h0
    clear HE HO hL
    go_enter Tryd.func22, Tryd.ntmps22
    go_wp2_with fail
    refine (HU.out _ HR.out hc0 HBY.out HLL.out).mono ?_
    rintro e w' ⟨rfl, rfl⟩
    rw [HUU.out]
    go_wp2
    go_ret3
    refine ⟨.slice none 0 0, ?_, ?_, Below.refl _ _⟩
    · rw [HD.out]; rfl
    · rw [HD.out]; exact Kd.R_nil _ _ _ _ _
end Go.Proofs.YtebjibkgefgalaaDoor.Hand
