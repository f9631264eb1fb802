/- What calls of Go functions of this seat come to, as the rows need it: under the conditions that each theorem names. -/
import Derived.Test.YtebjibkgefgalaaDoorJCuts
import Derived.Test.YtebjibkgefgalaaDoorJFlipP
namespace Go.Proofs.YtebjibkgefgalaaDoor.Jr
open Go.RowKit Go.Proofs.YtebjibkgefgalaaDoorW.PrintWords Go.Proofs.YtebjibkgefgalaaDoorW.PrintLast Go.Proofs.YtebjibkgefgalaaDoorW.PrintMore
set_option linter.unusedVariables false
set_option linter.unusedSimpArgs false
open Go.Proofs.YtebjibkgefgalaaDoor.Hand (B info5 rowD row_at formL rowL formL_len)
open Go.Proofs.YtebjibkgefgalaaDoor.Sha (shaI shaI_len vd cb cb_size cb_one infoDg dg_start Tab heap_new heap_keep cell_of storeRow_step)
open Go.Proofs.YtebjibkgefgalaaDoor.Ref (hk new_calls hsum_calls)
def jfl_T27 : Bool × List (List Nat × List Nat) := (true, [([], []), ([], []), ([0, 1], [0, 1]), ([2], [2]), ([3], [3]), ([], []), ([], []), ([5, 6], [5, 6]), ([7], [7]), ([8], [8]), ([4, 9], [4, 9])])
def jfl_B27 : List Nat := [0, 0, 3, 7, 15, 0, 0, 96, 224, 480, 1023]
theorem jfl_tab27 : rtab .any (opsOf Tryd.f7 27) = jfl_T27 := by kernel_rfl
theorem jfl_bits27 : waitsOk jfl_T27.2 jfl_B27 = true := by kernel_rfl
def jfl_T33 : Bool × List (List Nat × List Nat) := (true, [([], []), ([], []), ([], []), ([1, 2], [1, 2]), ([3], [3]), ([0, 4], [0, 4]), ([], []), ([], []), ([], []), ([7, 8], [7, 8]), ([9], [9]), ([6, 10, 5], [6, 10]), ([], []), ([], []), ([12, 5, 11, 0, 1, 2, 3, 4, 5, 10, 11, 12, 13], [5, 12]), ([13, 11, 14, 0, 1, 2, 3, 4, 5, 6, 7, 8, 9, 10, 11, 12, 13, 14], [11, 13])])
def jfl_B33 : List Nat := [0, 0, 0, 6, 14, 31, 0, 0, 0, 384, 896, 2047, 0, 0, 16383, 32767]
theorem jfl_tab33 : rtab .any (opsOf Tryd.f7 33) = jfl_T33 := by kernel_rfl
theorem jfl_bits33 : waitsOk jfl_T33.2 jfl_B33 = true := by kernel_rfl
def jfl_T34 : Bool × List (List Nat × List Nat) := (true, [([], []), ([], []), ([0, 1], [0, 1]), ([2], [2]), ([3], [3]), ([], []), ([], []), ([5, 6], [5, 6]), ([7], [7]), ([8], [8]), ([4, 9], [4, 9]), ([10], [10]), ([11], [11]), ([12, 11], [11, 12]), ([11], [11]), ([14, 11], [11, 14]), ([13, 15, 11], [11, 13, 15]), ([11, 16], [11, 16]), ([17, 11], [17]), ([18, 18], [18]), ([18, 19], [18, 19]), ([20, 19, 0, 1, 2, 3, 4, 5, 6, 7, 8, 9, 10, 11, 12, 13, 14, 15, 16, 17, 18, 19, 20], [20])])
def jfl_B34 : List Nat := [0, 0, 3, 7, 15, 0, 0, 96, 224, 480, 1023, 2047, 4095, 8191, 4095, 20479, 65535, 131071, 262143, 524287, 1048575, 2097151]
theorem jfl_tab34 : rtab .any (opsOf Tryd.f7 34) = jfl_T34 := by kernel_rfl
theorem jfl_bits34 : waitsOk jfl_T34.2 jfl_B34 = true := by kernel_rfl
set_option maxHeartbeats 3200000 in
set_option maxRecDepth 100000 in
theorem flip_calls (A : Option Addr) (c : Nat) (xs : List (List Int)) (x1 x2 x3 : Int) (w : World) (hr : Kd.C KB w A xs.length xs) (hc : xs.length ≤ c) (hb : ∀ x ∈ xs, bys x) (h3 : 0 ≤ x3 ∧ x3 < 256) (hT : Tab w) :
    Calls Tryd.prog 7 #[.slice A xs.length c, .int .i64 x1, .int .i64 x2, .int .u8 x3] w fun e w' => e = .returned (.bool true) ∧ Below w.heap.size w w' := by
  have HR := Aside0.mk hr
  have HY := Aside0.mk hb
  have HTAB := Aside0.mk hT
  have H3 := Aside0.mk h3
  have hl63 : xs.length ≤ 9223372036854775807 := hr.2.1
  clear hr hT hb h3
  by_cases hbig : 20 < xs.length
  · have e1 : decide ((xs.length : Int) > 20) = true := decide_eq_true (by omega)
    have e2 : decide (xs.length > 20) = true := decide_eq_true (by omega)
    clear hbig
    go_enter Tryd.func7, Tryd.ntmps7
    go_wp2_with fail
    refine (known_calls _ HTAB.out).mono ?_
    rintro e w1 ⟨rfl, hb⟩
    go_wp2
    go_ret
    exact ⟨rfl, hb⟩
  have e1 : decide ((xs.length : Int) > 20) = false := decide_eq_false (by omega)
  have e2 : decide (xs.length > 20) = false := decide_eq_false (by omega)
  have HN := Aside0.mk (show xs.length ≤ 20 by omega)
  clear hbig
  go_enter Tryd.func7, Tryd.ntmps7
  go_wp2_with fail
  refine (size_calls A c xs _ HR.out hc).mono ?_
  rintro e w1 ⟨z, rfl, -, hw⟩
  replace hw := hw.symm
  subst hw
  by_cases hz : z > 20000
  · have e3 : decide (z > 20000) = true := decide_eq_true hz
    clear hz
    go_wp2_with fail
    refine (known_calls _ HTAB.out).mono ?_
    rintro e w1 ⟨rfl, hb⟩
    go_wp2
    go_ret
    exact ⟨rfl, hb⟩
  have e3 : decide (z > 20000) = false := decide_eq_false hz
  clear hz
  by_cases hl0 : xs.length = 0
  · have e4 : ((xs.length : Int) == 0) = true := by rw [beq_iff_eq]; omega
    have e5 : (xs.length == 0) = true := by rw [beq_iff_eq]; exact hl0
    clear hl0
    go_wp2_with fail
    refine (known_calls _ HTAB.out).mono ?_
    rintro e w1 ⟨rfl, hb⟩
    go_wp2
    go_ret
    exact ⟨rfl, hb⟩
  have e4 : ((xs.length : Int) == 0) = false := by rw [beq_eq_false_iff_ne]; omega
  have e5 : (xs.length == 0) = false := by rw [beq_eq_false_iff_ne]; exact hl0
  by_cases hx30 : x3 = 0
  · have e6 : (x3 == 0) = true := by rw [beq_iff_eq]; exact hx30
    clear hx30
    go_wp2_with fail
    refine (known_calls _ HTAB.out).mono ?_
    rintro e w1 ⟨rfl, hb⟩
    go_wp2
    go_ret
    exact ⟨rfl, hb⟩
  have e6 : (x3 == 0) = false := by rw [beq_eq_false_iff_ne]; exact hx30
  have HX3 := Aside0.mk hx30
  have HPOS := Aside0.mk (show 0 < xs.length by omega)
  clear hl0 hx30
  go_upto_region 5 with (fail)
  clear e1 e2 e3 e4 e5 e6
  go_cut [12] (fun v wc => ∃ k : Nat, k < xs.length ∧ v = .int .i64 (k : Int) ∧ wc = w)
  case first =>
    have hwl : IntKind.u64.wrap (xs.length : Int) = (xs.length : Int) := by have := HN.out; simp [IntKind.wrap, IntKind.bits, IntKind.signed]; omega
    have hn0 : xs.length ≠ 0 := by have := HPOS.out; omega
    have hnz : ((xs.length : Int) == 0) = false := by rw [beq_eq_false_iff_ne]; omega
    go_wp2
    obtain ⟨kk, hkk, e⟩ := mod_nat x1 xs.length HPOS.out (by have := HN.out; omega)
    rw [e]
    go_meet
    case rel => exact ⟨kk, hkk, rfl, rfl⟩
  case rest =>
    obtain ⟨k, hkn, rfl, hwc⟩ := hcut
    replace hwc := hwc.symm
    subst hwc
    have HKN := Aside0.mk hkn
    go_wp2
    go_loopw [9, 10, 11, 50] (fun v b l u wr => ∃ i b0 l0 : Nat, i ≤ xs.length ∧ u = .int .i64 (i : Int) ∧ b = .int .i64 (b0 : Int) ∧ l = .int .i64 (l0 : Int) ∧ Aside0 (k < i → b0 = (joinJ (xs.take k)).length + (formL (xs[k]).length).length ∧ l0 = (xs[k]).length) ∧ Aside0 (okL (xs.take i)) ∧ Aside0 (Kd.R B 5 wr w.heap.size (fun _ => True) v (joinJ (xs.take i))) ∧ Aside0 (Below w.heap.size w wr)) (fun _ _ _ u _ => xs.length - (intOf u).toNat)
    case atStart => exact ⟨0, 0, 0, Nat.zero_le _, rfl, rfl, rfl, ⟨fun h => absurd h (by omega)⟩, ⟨fun x hx => by simp at hx⟩, ⟨by simpa [joinJ] using Kd.R_nil _ _ _ _ _⟩, ⟨Below.refl _ _⟩⟩
    case round =>
      obtain ⟨i, b0, l0, hi, rfl, rfl, rfl, HBL, HOKL, HO, HB⟩ := hrel
      by_cases hlt : i < xs.length
      · obtain ⟨ad, A0, c0, rfl, hcell, hc0, hC0⟩ := row_at (Kd.C_below HR.out HB.out) i hlt
        rw [rowD_get hlt] at hcell hc0 hC0
        have HJT := Aside0.mk (join_take hlt)
        have HOT := Aside0.mk (fun h => okL_take hlt HOKL.out h (HY.out _ (List.getElem_mem hlt)))
        have HYX := Aside0.mk (HY.out _ (List.getElem_mem hlt))
        have HC0 := Aside0.mk hC0
        have HCL := Aside0.mk hcell
        have HJL := Aside0.mk (show (joinJ (xs.take i)).length ≤ 200000 by have h1 := join_len HOKL.out; rw [List.length_take] at h1; have := HN.out; omega)
        have HKE := Aside0.mk (show k = i → ∀ n m : Nat, (n = (joinJ (xs.take i)).length + (formL (xs[i]).length).length ∧ m = (xs[i]).length) → n = (joinJ (xs.take k)).length + (formL (xs[k]).length).length ∧ m = (xs[k]).length from fun h => by subst h; exact fun n m h => h)
        have hx63 : (xs[i]).length ≤ 9223372036854775807 := hC0.2.1
        clear hC0
        generalize xs[i] = x at hcell hc0 HC0 HCL HJT HOT HYX HKE hx63
        go_wp2_with fail
        refine (jform_calls A0 c0 x _ HC0.out hc0 HYX.out (HTAB.out.below HB.out)).mono ?_
        rintro e w2 ⟨v2, er, rfl, hn, hs, hb⟩
        have HB2 := Aside0.mk (below_step HB.out hb)
        by_cases hok : okR x
        case neg =>
          obtain ⟨rfl, rfl⟩ := hn hok
          clear hn hs hok hb
          go_wp2_with fail
          refine (known_calls _ (HTAB.out.below HB2.out)).mono ?_
          rintro e w3 ⟨rfl, hb⟩
          go_wp2
          go_ret
          exact ⟨rfl, below_step HB2.out hb⟩
        obtain ⟨rfl, ho2⟩ := hs hok
        obtain ⟨A4, c4, rfl, hc4, hr4⟩ := Kd.R_reads ho2
        have HC4 := Aside0.mk hr4
        have HO2 := Aside0.mk (Kd.R_below HO.out hb)
        have HOK2 := Aside0.mk (HOT.out hok)
        have hcell2 := cell_below hcell hb
        have hxb : x.length ≤ 8000 := hok.2
        have hjx : (jform x).length = (formL x.length).length + x.length + 8 := by rw [jform_len]; simp [rowL]
        have hfl : 1 ≤ (formL x.length).length ∧ (formL x.length).length ≤ 9 := ⟨by unfold formL; simp, formL_len x.length (by omega)⟩
        obtain ⟨AJ, cJ, rfl, hcJ, _⟩ := Kd.R_reads HO2.out
        generalize joinJ (xs.take i) = J at HO2 HJT HJL HKE hcJ
        generalize (formL x.length).length = fl at hjx hfl HKE
        have HJX := Aside0.mk hjx
        have HFL := Aside0.mk hfl
        have HW9 := Aside0.mk (show Go.RowKit.wrap64 ((x.length : Int) + 9) = (x.length : Int) + 9 by unfold Go.RowKit.wrap64; omega)
        have hd1 : decide (((jform x).length : Int) < (x.length : Int) + 9) = false := decide_eq_false (by omega)
        have hJ63 : J.length ≤ 9223372036854775807 := by have := HJL.out; omega
        have hF63 : (jform x).length ≤ 9223372036854775807 := by omega
        clear hn hs hok hb ho2 hr4 HO HOKL HOT hcell HB hjx hfl
        by_cases hik : i = k
        · have HKX := Aside0.mk (HKE.out hik.symm)
          clear HKE
          subst hik
          have F1 := Aside0.mk (show Go.RowKit.wrap64 ((J.length : Int) + ((jform x).length : Int)) = (J.length : Int) + ((jform x).length : Int) by have := HJX.out; have := HFL.out; have := HJL.out; unfold Go.RowKit.wrap64; omega)
          have F2 := Aside0.mk (show Go.RowKit.wrap64 ((J.length : Int) + ((jform x).length : Int) - 8) = (J.length : Int) + ((jform x).length : Int) - 8 by have := HJX.out; have := HFL.out; have := HJL.out; unfold Go.RowKit.wrap64; omega)
          have F3 := Aside0.mk (show Go.RowKit.wrap64 ((J.length : Int) + ((jform x).length : Int) - 8 - (x.length : Int)) = ((J.length + fl : Nat) : Int) by have := HJX.out; have := HFL.out; have := HJL.out; unfold Go.RowKit.wrap64; omega)
          have hw9 := HW9.out
          have f1 := F1.out
          have f2 := F2.out
          have f3 := F3.out
          go_upto_region 17 with (fail)
          clear hw9 f1 f2 f3 hd1
          go_wp2_with ((with_reducible refine gate_builtin (b := .append) (xs := #[.tmp 93, .tmp 94]) rfl ?_); at_builtin; refine Kd.R_append_rows B (w0 := w) w.heap.size rfl (.tmp 93) (.tmp 94) 22 5 (.int .u8 0) 1 rfl Tryd.underlying22 info5 rfl (by decide) (by omega) _ J (jform x) _ _ _ (fun _ => True) (fun _ => False) rfl rfl HO2.out HC4.out (fun _ _ h => h) (fun _ h => h.elim) (fun _ _ => trivial) HB2.out HB2.out.size ?aL ?_; (case aL => have := HJL.out; have := HJX.out; have := HFL.out; omega); intro v5 w5 ho hb2 hg hat; have HO5 := Aside0.mk ho; have HB5 := Aside0.mk hb2; clear ho hb2 hg hat)
          go_roundw
          case rel => exact ⟨i + 1, J.length + fl, x.length, by omega, by first | rfl | go_num, congrArg _ F3.out, rfl, ⟨fun _ => HKX.out _ _ ⟨rfl, rfl⟩⟩, HOK2, by rw [HJT.out]; exact HO5, HB5⟩
          case measure => simp [intOf]; omega
        · have e7 : ((i : Int) == (k : Int)) = false := by rw [beq_eq_false_iff_ne]; omega
          have e8 : (i == k) = false := by rw [beq_eq_false_iff_ne]; exact hik
          have hw9 := HW9.out
          have HXB8 := Aside0.mk hxb
          have HIK := Aside0.mk hik
          clear hik hxb
          go_upto_region 17 with (fail)
          clear hw9 hd1
          go_wp2_with ((with_reducible refine gate_builtin (b := .append) (xs := #[.tmp 93, .tmp 94]) rfl ?_); at_builtin; refine Kd.R_append_rows B (w0 := w) w.heap.size rfl (.tmp 93) (.tmp 94) 22 5 (.int .u8 0) 1 rfl Tryd.underlying22 info5 rfl (by decide) (by omega) _ J (jform x) _ _ _ (fun _ => True) (fun _ => False) rfl rfl HO2.out HC4.out (fun _ _ h => h) (fun _ h => h.elim) (fun _ _ => trivial) HB2.out HB2.out.size ?aL ?_; (case aL => have := HJL.out; have := HJX.out; have := HFL.out; have := HXB8.out; omega); intro v5 w5 ho hb2 hg hat; have HO5 := Aside0.mk ho; have HB5 := Aside0.mk hb2; clear ho hb2 hg hat)
          go_roundw
          case rel => exact ⟨i + 1, b0, l0, by omega, by first | rfl | go_num, rfl, rfl, ⟨fun h => HBL.out (by have := HIK.out; omega)⟩, HOK2, by rw [HJT.out]; exact HO5, HB5⟩
          case measure => simp [intOf]; omega
      · obtain rfl : i = xs.length := by omega
        rw [List.take_length] at HOKL HO
        obtain ⟨hb0, hl0⟩ := HBL.out hkn
        have HP := Aside0.mk (HOKL.out _ (List.getElem_mem hkn))
        have HL0 := Aside0.mk (show 1 ≤ l0 ∧ l0 ≤ 8000 from ⟨by rw [hl0]; exact HP.out.1.1, by rw [hl0]; exact HP.out.1.2⟩)
        have HFIT := Aside0.mk (show b0 + l0 + 8 ≤ (joinJ xs).length by rw [hb0, hl0]; exact join_fits xs k hkn)
        have HJL := Aside0.mk (show (joinJ xs).length ≤ 200000 by have h1 := join_len HOKL.out; have := HN.out; omega)
        have HGETP := Aside0.mk (show ∀ p, p < l0 → ∃ o, (joinJ xs)[b0 + p]? = some o ∧ (xs[k])[p]? = some o ∧ 0 ≤ o ∧ o < 256 from fun p h => by
          have hp : p < (xs[k]).length := by omega
          exact ⟨(xs[k])[p], by rw [hb0]; exact join_get xs k p hkn hp, List.getElem?_eq_getElem hp, HP.out.2 _ (List.getElem_mem hp)⟩)
        have HFLP := Aside0.mk (show ∀ p y, p < l0 → (0 ≤ y ∧ y < 256) → (chk ((xs[k]).set p y) ≠ chk xs[k] ∧ readJ ((joinJ xs).set (b0 + p) y) = (xs.take k, (joinJ (xs.take k)).length)) ∨ (chk ((xs[k]).set p y) = chk xs[k] ∧ ∃ tl n, readJ ((joinJ xs).set (b0 + p) y) = (xs.take k ++ (xs[k]).set p y :: tl, n)) from fun p y h hy => by
          rw [hb0]; exact readJ_flip xs k p y HOKL.out (by have := HJL.out; omega) hkn (by omega) hy)
        have HLX := Aside0.mk hl0
        have HBJ := Aside0.mk (bys_join HOKL.out)
        clear hb0 hl0 HBL hlt hi
        generalize joinJ xs = J at HO HFIT HJL HGETP HFLP HBJ
        obtain ⟨g, cJ, rfl, hgb, hgs, -⟩ := Kd.R_form HO.out (by have := HFIT.out; omega)
        have HGB := Aside0.mk hgb
        have hjc : J.length ≤ cJ := (Kd.R_reads' HO.out).2.1
        have hj63 : J.length ≤ 9223372036854775807 := by have := HJL.out; omega
        clear hgb hgs
        go_upto_region 19 with (fail)
        go_cut [16] (fun v wc => ∃ p : Nat, p < l0 ∧ v = .int .i64 ((b0 + p : Nat) : Int) ∧ wc = wr)
        case first =>
          have hwl : IntKind.u64.wrap (l0 : Int) = (l0 : Int) := by have := HL0.out; simp [IntKind.wrap, IntKind.bits, IntKind.signed]; omega
          have hn0 : l0 ≠ 0 := by have := HL0.out; omega
          have hnz : ((l0 : Int) == 0) = false := by rw [beq_eq_false_iff_ne]; omega
          go_wp2
          obtain ⟨pp, hpp, e⟩ := mod_nat x2 l0 (by omega) (by have := HL0.out; omega)
          rw [e]
          have e9 : Go.RowKit.wrap64 ((b0 : Int) + (pp : Int)) = ((b0 + pp : Nat) : Int) := by have := HL0.out; have := HFIT.out; have := HJL.out; unfold Go.RowKit.wrap64; omega
          rw [e9]
          go_meet
          case rel => exact ⟨pp, hpp, rfl, rfl⟩
        case rest =>
          obtain ⟨p, hpl, rfl, hwc⟩ := hcut
          replace hwc := hwc.symm
          subst hwc
          obtain ⟨o, ho1, ho2, ho3⟩ := HGETP.out p hpl
          have hq : b0 + p < J.length := by have := HFIT.out; omega
          obtain ⟨hc1, hc2⟩ := Kd.R_celln 0 HO.out ((b0 + p : Nat) : Int) (by omega) (by omega)
          have hF := HFLP.out p ((o + x3) % 256) hpl
          have HPL := Aside0.mk hpl
          clear hpl
          generalize b0 + p = q at hq ho1 hc1 hc2 hF
          rw [show rdOf 0 J (q : Int) = o by unfold rdOf; rw [Int.toNat_natCast, List.getD_eq_getElem?_getD, ho1]; rfl, Int.toNat_natCast] at hc1
          rw [Int.toNat_natCast] at hc2
          have hc3 : wr.cell? ⟨g, q, none⟩ = some (.int .u8 o) := hc1
          have HF := Aside0.mk hF
          have HO1 := Aside0.mk ho2
          have HY8 := Aside0.mk (show (0 ≤ (o + x3) % 256 ∧ (o + x3) % 256 < 256) ∧ (o + x3) % 256 ≠ o by have := H3.out; have := HX3.out; omega)
          clear hc1 hF ho1 ho2 ho3
          go_upto_region 21 with (fail)
          have hR := Kd.R_putn HO.out (q : Int) ((o + x3) % 256)
          rw [Int.toNat_natCast] at hR
          have hbw := below_set (j := q) (v := Value.int .u8 ((o + x3) % 256)) HB.out HGB.out
          have hf := HF.out HY8.out.1
          have hy8 := HY8.out
          clear HF HY8
          generalize (o + x3) % 256 = y at hR hbw hf hy8 ⊢
          obtain ⟨w2, hw2⟩ : ∃ w2, wr.setCell ⟨g, q, none⟩ (Value.int .u8 y) = w2 := ⟨_, rfl⟩
          have hR2 : Kd.R B 5 w2 w.heap.size (fun _ => True) (.slice (some ⟨g, 0, none⟩) J.length cJ) (J.set q y) := by rw [← hw2]; exact hR
          have HB2 := Aside0.mk (show Below w.heap.size w w2 by rw [← hw2]; exact hbw)
          rw [hw2]
          clear hR hbw hw2 hc2 hc3
          have hJb := bys_set HBJ.out q hy8.1
          obtain ⟨J2, hJ2⟩ : ∃ J2, J.set q y = J2 := ⟨_, rfl⟩
          have hn2 : J2.length = J.length := by rw [← hJ2]; exact List.length_set
          rw [hJ2] at hR2 hf hJb
          have HJ2 := Aside0.mk (show J2.length ≤ 200000 by have := HJL.out; omega)
          have HC2 := Aside0.mk (show B.C w2 (some ⟨g, 0, none⟩) J2.length J2 ∧ J2.length ≤ cJ from ⟨(Kd.R_reads' hR2).2.2, by omega⟩)
          obtain ⟨X, hX⟩ : ∃ X, xs[k] = X := ⟨_, rfl⟩
          have HXK := Aside0.mk (show xs[k]? = some X by rw [← hX]; exact List.getElem?_eq_getElem hkn)
          have HXP := Aside0.mk (show okR X ∧ bys X by rw [← hX]; exact HP.out)
          have HXO := Aside0.mk (show X[p]? = some o ∧ y ≠ o by rw [← hX]; exact ⟨HO1.out, hy8.2⟩)
          rw [hX] at hf
          obtain ⟨gs, nn, hgs, hk1, HK2, HK3⟩ : ∃ gs nn, readJ J2 = (gs, nn) ∧ k ≤ gs.length ∧ Aside0 (∀ i, i < k → gs[i]? = xs[i]?) ∧ Aside0 (gs.length ≠ k → gs[k]? = some (X.set p y) ∧ chk (X.set p y) = chk X) := by
            have htl : (xs.take k).length = k := by rw [List.length_take]; omega
            rcases hf with ⟨_, e⟩ | ⟨e1, tl, n, e⟩
            · exact ⟨_, _, e, by omega, ⟨fun i hi => List.getElem?_take_of_lt hi⟩, ⟨fun h => absurd htl h⟩⟩
            · refine ⟨_, _, e, by rw [List.length_append, htl]; omega, ⟨fun i hi => by rw [List.getElem?_append_left (by omega), List.getElem?_take_of_lt hi]⟩, ⟨fun _ => ⟨?_, e1⟩⟩⟩
              rw [List.getElem?_append_right (by omega), htl, Nat.sub_self]; rfl
          have HY8 := Aside0.mk hy8
          have hri := recs_inv J2 hJb (by have := HJ2.out; omega) (J2.length + 1) 0
          have HGI := Aside0.mk (show ∀ x ∈ gs, okR x ∧ bys x from fun x hx => hri.1 x (by rw [show recs J2 (J2.length + 1) 0 = readJ J2 from rfl, hgs]; exact hx))
          have HGN := Aside0.mk (show gs.length ≤ J2.length by
            have h1 : (readJ J2).2 = 0 + (joinJ (readJ J2).1).length := hri.2.2.1
            have h3 : (readJ J2).2 ≤ J2.length := hri.2.2.2 (Nat.zero_le _)
            have h2 : ∀ ys : List (List Int), ys.length ≤ (joinJ ys).length := by
              intro ys
              induction ys with
              | nil => simp
              | cons y ys ih =>
                have := jform_len y
                rw [joinJ_cons]
                simp only [List.length_cons, List.length_append]
                omega
            rw [hgs] at h1 h3
            simp only [] at h1 h3
            have := h2 gs
            omega)
          have hj2 : J2.length ≤ 9223372036854775807 := by have := HJ2.out; omega
          rw [← hn2]
          clear hri hf hX hR2 hn2 hJ2 HFLP HGETP HFIT HO HJL hjc hj63 hq hy8 HO1
          go_wp2_with fail
          refine (read_calls _ cJ J2 _ HC2.out.1 HC2.out.2 hJb (by have := HJ2.out; omega) (HTAB.out.below HB2.out)).mono ?_
          rintro e w9 ⟨v9, rfl, hrs, hb⟩
          rw [hgs] at hrs ⊢
          replace hrs : Recs w9 w2.heap.size v9 gs := hrs
          have HB9 := Aside0.mk (below_step HB2.out hb)
          obtain ⟨AG, cG, hvG, hcG, hCG⟩ := Recs.C hrs (fun x hx => by have := (HGI.out x hx).1.2; omega) (by have := HGN.out; have := HJ2.out; omega)
          subst hvG
          have HCG := Aside0.mk hCG
          have hg63 : gs.length ≤ 9223372036854775807 := by have := HGN.out; have := HJ2.out; omega
          have n1 : decide ((gs.length : Int) < (k : Int)) = false := decide_eq_false (by omega)
          have n2 : decide (gs.length < k) = false := decide_eq_false (by omega)
          clear hrs hb hgs hCG hj2 hJb
          go_wp2
          clear n1 n2
          obtain ⟨wo2, hwo2⟩ : ∃ wo2, wo2 = wr := ⟨_, rfl⟩
          subst hwo2
          go_loopw [122] (fun v wr => ∃ i : Nat, i ≤ k ∧ v = .int .i64 (i : Int) ∧ Aside0 (Below w9.heap.size w9 wr)) (fun i _ => k - (intOf i).toNat)
          case atStart => exact ⟨0, Nat.zero_le _, rfl, ⟨Below.refl _ _⟩⟩
          case round =>
            obtain ⟨i, hi, rfl, HBL⟩ := hrel
            by_cases hly : i < k
            · have e1 : decide ((i : Int) < (k : Int)) = true := decide_eq_true (by omega)
              have e1b : decide (i < k) = true := decide_eq_true hly
              have hix : i < xs.length := by omega
              have hig : i < gs.length := by omega
              obtain ⟨adG, AX, cX, rfl, hx0, hcX, hxC⟩ := row_at (Kd.C_below HCG.out HBL.out) i hig
              rw [rowD_get hig] at hx0 hcX hxC
              have HX0 := Aside0.mk hx0
              have HXC := Aside0.mk hxC
              have hx63 : (gs[i]).length ≤ 9223372036854775807 := hxC.2.1
              have HYI := Aside0.mk (show gs[i]? = some gs[i] from List.getElem?_eq_getElem hig)
              clear hx0 hxC
              generalize gs[i] = x at HX0 HXC HYI hcX hx63
              have HXI := Aside0.mk (show xs[i]? = some x by rw [← HK2.out i hly]; exact HYI.out)
              obtain ⟨adU, AU, cU, hAU, hu0, hcU, huC⟩ := row_at (Kd.C_below HR.out (below_step HB9.out HBL.out)) i hix
              rw [rowD_get hix, show xs[i] = x from Option.some.inj ((List.getElem?_eq_getElem hix).symm.trans HXI.out)] at hu0 hcU huC
              subst hAU
              have HU0 := Aside0.mk hu0
              have HUC := Aside0.mk huC
              clear hu0 huC
              go_upto_region 27 with (fail)
              have hS0 : Below wr.heap.size wr wr.drew := below_drew1 (Below.refl _ _)
              refine start_ (n := 11) (S := fun w' => Below wr.heap.size wr w') (ds := []) #[false, false, false, false, false, false, false, false, false, false, false] (by kernel_rfl) rfl rfl (by exact hS0) (fun hHeld => ?_)
              refine with_tabW jfl_tab27 jfl_bits27 (fun HT_ HW_ => ?_)
              refine pure_ (i := 0) (N := some 125) (v := ?_) (a' := ?_) #[true, false, false, false, false, false, false, false, false, false, false] rfl rfl (any_of HT_.out (by kernel_rfl)) (fun _ _ _ h => h) (Or.inl ⟨by rfl, ?_⟩) ?_ ?_
              rotate_left
              · intro w'
                go_simp
                with_reducible rfl
              rotate_left
              · simp only [Act.put, List.setIfInBounds_toArray, List.set_cons_zero, List.set_cons_succ, i64_w, i32_w]
                rfl
              refine pure_ (i := 1) (N := some 126) (v := ?_) (a' := ?_) #[true, true, false, false, false, false, false, false, false, false, false] rfl rfl (any_of HT_.out (by kernel_rfl)) (fun _ _ _ h => h) (Or.inl ⟨by rfl, ?_⟩) ?_ ?_
              rotate_left
              · intro w'
                go_simp
                with_reducible rfl
              rotate_left
              · simp only [Act.put, List.setIfInBounds_toArray, List.set_cons_zero, List.set_cons_succ, i64_w, i32_w]
                rfl
              refine pure_ (i := 2) (N := some 127) (v := ?_) (a' := ?_) #[true, true, true, false, false, false, false, false, false, false, false] rfl rfl (any_of HT_.out (by kernel_rfl)) (fun _ _ _ h => h) (Or.inl ⟨by rfl, ?_⟩) ?_ ?_
              rotate_left
              · intro w'
                go_simp
                with_reducible rfl
              rotate_left
              · simp only [Act.put, List.setIfInBounds_toArray, List.set_cons_zero, List.set_cons_succ, i64_w, i32_w]
                rfl
              refine pure_ (i := 5) (N := some 130) (v := ?_) (a' := ?_) #[true, true, true, false, false, true, false, false, false, false, false] rfl rfl (any_of HT_.out (by kernel_rfl)) (fun _ _ _ h => h) (Or.inl ⟨by rfl, ?_⟩) ?_ ?_
              rotate_left
              · intro w'
                go_simp
                with_reducible rfl
              rotate_left
              · simp only [Act.put, List.setIfInBounds_toArray, List.set_cons_zero, List.set_cons_succ, i64_w, i32_w]
                rfl
              refine pure_ (i := 6) (N := some 131) (v := ?_) (a' := ?_) #[true, true, true, false, false, true, true, false, false, false, false] rfl rfl (any_of HT_.out (by kernel_rfl)) (fun _ _ _ h => h) (Or.inl ⟨by rfl, ?_⟩) ?_ ?_
              rotate_left
              · intro w'
                go_simp
                with_reducible rfl
              rotate_left
              · simp only [Act.put, List.setIfInBounds_toArray, List.set_cons_zero, List.set_cons_succ, i64_w, i32_w]
                rfl
              refine pure_ (i := 7) (N := some 132) (v := ?_) (a' := ?_) #[true, true, true, false, false, true, true, true, false, false, false] rfl rfl (any_of HT_.out (by kernel_rfl)) (fun _ _ _ h => h) (Or.inl ⟨by rfl, ?_⟩) ?_ ?_
              rotate_left
              · intro w'
                go_simp
                with_reducible rfl
              rotate_left
              · simp only [Act.put, List.setIfInBounds_toArray, List.set_cons_zero, List.set_cons_succ, i64_w, i32_w]
                rfl
              refine take_ (i := 3) (N := some 128) (v := ?_) (a' := ?_) #[true, true, true, true, false, true, true, true, false, false, false] rfl rfl (take_ofW HT_.out HW_.out (by kernel_rfl)) (fun _ _ _ h => h) (Or.inl ⟨by rfl, ?_⟩) hHeld ?_ ?_
              rotate_left
              · intro w' hSt
                have hx0 := cell_below HX0.out hSt
                go_simp
                with_reducible rfl
              rotate_left
              · simp only [Act.put, List.setIfInBounds_toArray, List.set_cons_zero, List.set_cons_succ, i64_w, i32_w]
                rfl
              refine take_ (i := 4) (N := some 129) (v := ?_) (a' := ?_) #[true, true, true, true, true, true, true, true, false, false, false] rfl rfl (take_ofW HT_.out HW_.out (by kernel_rfl)) (fun _ _ _ h => h) (Or.inl ⟨by rfl, ?_⟩) hHeld ?_ ?_
              rotate_left
              · intro w' hSt
                have hcv : (convert 22 9 (.slice AX x.length cX)).run Tryd.prog w' = .ok (.string (strOfNums x)) w' := Kd.C_string Tryd.underlying22 Tryd.underlying5 Tryd.underlying9 (Kd.C_below HXC.out hSt)
                go_simp
                with_reducible rfl
              rotate_left
              · simp only [Act.put, List.setIfInBounds_toArray, List.set_cons_zero, List.set_cons_succ, i64_w, i32_w]
                rfl
              refine take_ (i := 8) (N := some 133) (v := ?_) (a' := ?_) #[true, true, true, true, true, true, true, true, true, false, false] rfl rfl (take_ofW HT_.out HW_.out (by kernel_rfl)) (fun _ _ _ h => h) (Or.inl ⟨by rfl, ?_⟩) hHeld ?_ ?_
              rotate_left
              · intro w' hSt
                have hx1 := cell_below HU0.out hSt
                go_simp
                with_reducible rfl
              rotate_left
              · simp only [Act.put, List.setIfInBounds_toArray, List.set_cons_zero, List.set_cons_succ, i64_w, i32_w]
                rfl
              refine take_ (i := 9) (N := some 134) (v := ?_) (a' := ?_) #[true, true, true, true, true, true, true, true, true, true, false] rfl rfl (take_ofW HT_.out HW_.out (by kernel_rfl)) (fun _ _ _ h => h) (Or.inl ⟨by rfl, ?_⟩) hHeld ?_ ?_
              rotate_left
              · intro w' hSt
                have hcv : (convert 22 9 (.slice AU x.length cU)).run Tryd.prog w' = .ok (.string (strOfNums x)) w' := Kd.C_string Tryd.underlying22 Tryd.underlying5 Tryd.underlying9 (Kd.C_below HUC.out hSt)
                go_simp
                with_reducible rfl
              rotate_left
              · simp only [Act.put, List.setIfInBounds_toArray, List.set_cons_zero, List.set_cons_succ, i64_w, i32_w]
                rfl
              refine pure_ (i := 10) (N := some 135) (v := ?_) (a' := ?_) #[true, true, true, true, true, true, true, true, true, true, true] rfl rfl (any_of HT_.out (by kernel_rfl)) (fun _ _ _ h => h) (Or.inl ⟨by rfl, ?_⟩) ?_ ?_
              rotate_left
              · intro w'
                go_simp
                with_reducible rfl
              rotate_left
              · simp only [Act.put, List.setIfInBounds_toArray, List.set_cons_zero, List.set_cons_succ, i64_w, i32_w]
                rfl
              refine done_ (done_of HT_.out (by kernel_rfl)) ?_
              have HBZ := Aside0.mk (HBL.out.trans (hHeld.mono HBL.out.size))
              clear hS0 hHeld HT_ HW_ HBL
              go_wp2
              go_roundw
              case rel => exact ⟨i + 1, by omega, by go_num, HBZ⟩
              case measure => simp [intOf]; omega
            · obtain rfl : k = i := by omega
              have HBF := Aside0.mk (below_step HB9.out HBL.out)
              replace HCG := Aside0.mk (Kd.C_below HCG.out HBL.out)
              clear hly hi
              by_cases hgk : gs.length = k
              · have e4 : ((gs.length : Int) == (k : Int)) = true := by rw [beq_iff_eq]; omega
                have e5 : (gs.length == k) = true := by rw [beq_iff_eq]; exact hgk
                clear hgk
                go_wp2_with fail
                refine (known_calls _ (HTAB.out.below HBF.out)).mono ?_
                rintro e w8 ⟨rfl, hb⟩
                go_wp2
                go_ret
                exact ⟨rfl, below_step HBF.out hb⟩
              have e4 : ((gs.length : Int) == (k : Int)) = false := by rw [beq_eq_false_iff_ne]; omega
              have e5 : (gs.length == k) = false := by rw [beq_eq_false_iff_ne]; exact hgk
              obtain ⟨hgX, hce⟩ := HK3.out hgk
              have hkg : k < gs.length := by omega
              obtain ⟨adG, AX, cX, rfl, hx0, hcX, hxC⟩ := row_at HCG.out k hkg
              rw [rowD_get hkg, show gs[k] = X.set p y from Option.some.inj ((List.getElem?_eq_getElem hkg).symm.trans hgX)] at hx0 hcX hxC
              obtain ⟨adU, AU, cU, hAU, hu0, hcU, huC⟩ := row_at (Kd.C_below HR.out HBF.out) k hkn
              rw [rowD_get hkn, show xs[k] = X from Option.some.inj ((List.getElem?_eq_getElem hkn).symm.trans HXK.out)] at hu0 hcU huC
              subst hAU
              obtain ⟨u, hu⟩ : ∃ u, X = u := ⟨_, rfl⟩
              subst hu
              have HPX := Aside0.mk (List.getElem?_eq_some_iff.1 HXO.out.1)
              have HXB := Aside0.mk (bys_set HXP.out.2 p HY8.out.1)
              have HXL := Aside0.mk (show (X.set p y).length ≤ 8000 by rw [List.length_set]; exact HXP.out.1.2)
              have HNE0 := Aside0.mk (show X.set p y ≠ X from set_ne HPX.out.1 (by rw [HPX.out.2]; exact HXO.out.2))
              have HUB := Aside0.mk HXP.out.2
              have HUL := Aside0.mk HXP.out.1.2
              generalize X.set p y = x at hx0 hcX hxC hce HXB HXL HNE0
              clear hgk hgX HPX HXO HXK HXP HK3 HK2
              obtain ⟨u, hu⟩ : ∃ u, X = u := ⟨_, rfl⟩
              rw [hu] at hu0 hcU huC hce HNE0 HUB HUL
              clear hu
              have hns : ((strOfNums x).toList == (strOfNums u).toList) = false := by rw [str_eqB HXB.out HUB.out]; exact decide_eq_false HNE0.out
              have HNS := Aside0.mk hns
              clear hns
              have hx63 : x.length ≤ 9223372036854775807 := by have := HXL.out; omega
              have hu63 : u.length ≤ 9223372036854775807 := by have := HUL.out; omega
              have HDXL := Aside0.mk (shaI_len x)
              have HDUL := Aside0.mk (shaI_len u)
              have HDX := Aside0.mk (show shaI x = shaI x from rfl)
              have HDU := Aside0.mk (show shaI u = shaI u from rfl)
              have HE8 := Aside0.mk (show (shaI u).take 8 = (shaI x).take 8 from hce.symm)
              clear hce
              obtain ⟨DX, hdx⟩ : ∃ D, shaI x = D := ⟨_, rfl⟩
              obtain ⟨DU, hdu⟩ : ∃ D, shaI u = D := ⟨_, rfl⟩
              rw [hdx] at HDXL HE8
              rw [hdu] at HDUL HE8
              replace HDX := Aside0.mk hdx
              replace HDU := Aside0.mk hdu
              clear hdx hdu
              obtain ⟨D8, hd8⟩ : ∃ D8, DX.take 8 = D8 := ⟨_, rfl⟩
              rw [hd8] at HE8
              have HE7 := Aside0.mk hd8
              clear hd8
              have HX9 := Aside0.mk hx0
              have HU9 := Aside0.mk hu0
              have HXC9 := Aside0.mk hxC
              have HUC9 := Aside0.mk huC
              clear hx0 hu0 hxC huC HCG
              go_wp2_with fail
              refine (new_calls _).mono ?_
              rintro e wh ⟨gh, rfl, hgh, hgk, hb⟩
              have HGK := Aside0.mk hgk
              have HX0 := Aside0.mk (cell_below HX9.out hb)
              have HU0 := Aside0.mk (cell_below HU9.out hb)
              have HXC := Aside0.mk (Kd.C_below HXC9.out hb)
              have HUC := Aside0.mk (Kd.C_below HUC9.out hb)
              have HBH := Aside0.mk (below_step HBF.out hb)
              clear hgh hgk hb e4 e5 HX9 HU9 HXC9 HUC9
              go_upto_region 33 with (fail)
              have hS0 : Below wh.heap.size wh wh.drew := below_drew1 (Below.refl _ _)
              refine start_ (n := 16) (S := fun w' => Below wh.heap.size wh w') (ds := []) #[false, false, false, false, false, false, false, false, false, false, false, false, false, false, false, false] (by kernel_rfl) rfl rfl (by exact hS0) (fun hHeld => ?_)
              refine with_tabW jfl_tab33 jfl_bits33 (fun HT_ HW_ => ?_)
              generalize wh.drew = wq at hHeld hS0 ⊢
              refine pure_ (i := 0) (N := some 143) (v := ?_) (a' := ?_) #[true, false, false, false, false, false, false, false, false, false, false, false, false, false, false, false] rfl rfl (any_of HT_.out (by kernel_rfl)) (fun _ _ _ h => h) (Or.inl ⟨by rfl, ?_⟩) ?_ ?_
              rotate_left
              · intro w'
                go_simp
                with_reducible rfl
              rotate_left
              · simp only [Act.put, List.setIfInBounds_toArray, List.set_cons_zero, List.set_cons_succ, i64_w, i32_w]
                rfl
              refine pure_ (i := 1) (N := some 144) (v := ?_) (a' := ?_) #[true, true, false, false, false, false, false, false, false, false, false, false, false, false, false, false] rfl rfl (any_of HT_.out (by kernel_rfl)) (fun _ _ _ h => h) (Or.inl ⟨by rfl, ?_⟩) ?_ ?_
              rotate_left
              · intro w'
                go_simp
                with_reducible rfl
              rotate_left
              · simp only [Act.put, List.setIfInBounds_toArray, List.set_cons_zero, List.set_cons_succ, i64_w, i32_w]
                rfl
              refine pure_ (i := 2) (N := some 145) (v := ?_) (a' := ?_) #[true, true, true, false, false, false, false, false, false, false, false, false, false, false, false, false] rfl rfl (any_of HT_.out (by kernel_rfl)) (fun _ _ _ h => h) (Or.inl ⟨by rfl, ?_⟩) ?_ ?_
              rotate_left
              · intro w'
                go_simp
                with_reducible rfl
              rotate_left
              · simp only [Act.put, List.setIfInBounds_toArray, List.set_cons_zero, List.set_cons_succ, i64_w, i32_w]
                rfl
              refine pure_ (i := 3) (N := some 146) (v := ?_) (a' := ?_) #[true, true, true, true, false, false, false, false, false, false, false, false, false, false, false, false] rfl rfl (any_of HT_.out (by kernel_rfl)) (fun _ _ _ h => h) (Or.inl ⟨by rfl, ?_⟩) ?_ ?_
              rotate_left
              · intro w'
                go_simp
                with_reducible rfl
              rotate_left
              · simp only [Act.put, List.setIfInBounds_toArray, List.set_cons_zero, List.set_cons_succ, i64_w, i32_w]
                rfl
              refine pure_ (i := 6) (N := some 149) (v := ?_) (a' := ?_) #[true, true, true, true, false, false, true, false, false, false, false, false, false, false, false, false] rfl rfl (any_of HT_.out (by kernel_rfl)) (fun _ _ _ h => h) (Or.inl ⟨by rfl, ?_⟩) ?_ ?_
              rotate_left
              · intro w'
                go_simp
                with_reducible rfl
              rotate_left
              · simp only [Act.put, List.setIfInBounds_toArray, List.set_cons_zero, List.set_cons_succ, i64_w, i32_w]
                rfl
              refine pure_ (i := 7) (N := some 150) (v := ?_) (a' := ?_) #[true, true, true, true, false, false, true, true, false, false, false, false, false, false, false, false] rfl rfl (any_of HT_.out (by kernel_rfl)) (fun _ _ _ h => h) (Or.inl ⟨by rfl, ?_⟩) ?_ ?_
              rotate_left
              · intro w'
                go_simp
                with_reducible rfl
              rotate_left
              · simp only [Act.put, List.setIfInBounds_toArray, List.set_cons_zero, List.set_cons_succ, i64_w, i32_w]
                rfl
              refine pure_ (i := 8) (N := some 151) (v := ?_) (a' := ?_) #[true, true, true, true, false, false, true, true, true, false, false, false, false, false, false, false] rfl rfl (any_of HT_.out (by kernel_rfl)) (fun _ _ _ h => h) (Or.inl ⟨by rfl, ?_⟩) ?_ ?_
              rotate_left
              · intro w'
                go_simp
                with_reducible rfl
              rotate_left
              · simp only [Act.put, List.setIfInBounds_toArray, List.set_cons_zero, List.set_cons_succ, i64_w, i32_w]
                rfl
              refine pure_ (i := 9) (N := some 152) (v := ?_) (a' := ?_) #[true, true, true, true, false, false, true, true, true, true, false, false, false, false, false, false] rfl rfl (any_of HT_.out (by kernel_rfl)) (fun _ _ _ h => h) (Or.inl ⟨by rfl, ?_⟩) ?_ ?_
              rotate_left
              · intro w'
                go_simp
                with_reducible rfl
              rotate_left
              · simp only [Act.put, List.setIfInBounds_toArray, List.set_cons_zero, List.set_cons_succ, i64_w, i32_w]
                rfl
              refine take_ (i := 4) (N := some 147) (v := ?_) (a' := ?_) #[true, true, true, true, true, false, true, true, true, true, false, false, false, false, false, false] rfl rfl (take_ofW HT_.out HW_.out (by kernel_rfl)) (fun _ _ _ h => h) (Or.inl ⟨by rfl, ?_⟩) hHeld ?_ ?_
              rotate_left
              · intro w' hSt
                have hx0 := cell_below HX0.out hSt
                go_simp
                with_reducible rfl
              rotate_left
              · simp only [Act.put, List.setIfInBounds_toArray, List.set_cons_zero, List.set_cons_succ, i64_w, i32_w]
                rfl
              refine take_ (i := 10) (N := some 153) (v := ?_) (a' := ?_) #[true, true, true, true, true, false, true, true, true, true, true, false, false, false, false, false] rfl rfl (take_ofW HT_.out HW_.out (by kernel_rfl)) (fun _ _ _ h => h) (Or.inl ⟨by rfl, ?_⟩) hHeld ?_ ?_
              rotate_left
              · intro w' hSt
                have hx1 := cell_below HU0.out hSt
                go_simp
                with_reducible rfl
              rotate_left
              · simp only [Act.put, List.setIfInBounds_toArray, List.set_cons_zero, List.set_cons_succ, i64_w, i32_w]
                rfl
              refine join_ (σ := Nat × Nat) 2 #[true, true, true, true, true, true, true, true, true, true, true, true, true, true, false, false] (fun s => [(148, vd DX), (154, vd DU), (21, .pointer (some ⟨s.1, 0, none⟩)), (22, .pointer (some ⟨s.2, 0, none⟩))]) (fun s w' => Aside0 (w'.heap[s.1]? = some (.cells (cb (List.replicate 32 0)) 41 (0, 0))) ∧ Aside0 (w'.heap[s.2]? = some (.cells (cb (List.replicate 32 0)) 41 (0, 0))) ∧ Aside0 (s.1 ≠ s.2) ∧ Aside0 (Below wh.heap.size wh w') ∧ Aside0 (wh.heap.size ≤ s.1) ∧ Aside0 (wh.heap.size ≤ s.2)) ?_ ?_
              rotate_left
              · intro hJ
                refine three_ (i := 5) (j := 12) (k := 13) (Ni := some 148) (Nj := some 21) (Nk := some 22) #[true, true, true, true, true, true, true, true, true, true, true, false, false, false, false, false] #[true, true, true, true, true, false, true, true, true, true, true, false, true, false, false, false] #[true, true, true, true, true, false, true, true, true, true, true, false, false, true, false, false] rfl rfl rfl rfl rfl rfl (three_of HT_.out (by kernel_rfl)) (by decide) (by decide) (by decide) (fun K hK => ?_) (fun K hK => ?_) (fun K hK => ?_)
                · skip
                  refine goes_ Tryd.func16 (by kernel_rfl) rfl #[.pointer (some ⟨gh, 0, none⟩), .slice AX x.length cX] (by rfl) rfl rfl (by (try simp only [List.map_toArray, List.map_cons, List.map_nil]); first | done | rfl) ?_
                  refine (hsum_calls gh AX cX x _ (heap_keep HGK.out hHeld) (Kd.C_below HXC.out hHeld) hcX HXB.out (by have := HXL.out; omega)).mono ?_
                  rintro e v1 ⟨rfl, hb1⟩
                  refine ⟨_, rfl, ?_⟩
                  rw [HDX.out]
                  have hS1 := below_step hHeld hb1
                  refine hK.out _ _ (by exact hS1) (fun hHeld => ?_)
                  clear hK K
                  refine norm_ (a' := ?_) ?_ ?_
                  rotate_left
                  · first
                    | (show Act.put _ (some 148) _ = _; simp only [Act.put, List.setIfInBounds_toArray, List.set_cons_zero, List.set_cons_succ, i64_w, i32_w]; rfl)
                    | rfl
                  refine three_ (i := 11) (j := 12) (k := 13) (Ni := some 154) (Nj := some 21) (Nk := some 22) #[true, true, true, true, true, true, true, true, true, true, true, true, false, false, false, false] #[true, true, true, true, true, true, true, true, true, true, true, false, true, false, false, false] #[true, true, true, true, true, true, true, true, true, true, true, false, false, true, false, false] rfl rfl rfl rfl rfl rfl (three_of HT_.out (by kernel_rfl)) (by decide) (by decide) (by decide) (fun K hK => ?_) (fun K hK => ?_) (fun K hK => ?_)
                  · skip
                    refine goes_ Tryd.func16 (by kernel_rfl) rfl #[.pointer (some ⟨gh, 0, none⟩), .slice AU u.length cU] (by rfl) rfl rfl (by (try simp only [List.map_toArray, List.map_cons, List.map_nil]); first | done | rfl) ?_
                    refine (hsum_calls gh AU cU u _ (heap_keep HGK.out hHeld) (Kd.C_below HUC.out hHeld) hcU HUB.out (by have := HUL.out; omega)).mono ?_
                    rintro e v2 ⟨rfl, hb2⟩
                    refine ⟨_, rfl, ?_⟩
                    rw [HDU.out]
                    have hS1 := below_step hHeld hb2
                    refine hK.out _ _ (by exact hS1) (fun hHeld => ?_)
                    clear hK K
                    refine norm_ (a' := ?_) ?_ ?_
                    rotate_left
                    · first
                      | (show Act.put _ (some 154) _ = _; simp only [Act.put, List.setIfInBounds_toArray, List.set_cons_zero, List.set_cons_succ, i64_w, i32_w]; rfl)
                      | rfl
                    refine two_ (i := 12) (j := 13) (Ni := some 21) (Nj := some 22) #[true, true, true, true, true, true, true, true, true, true, true, true, true, false, false, false] #[true, true, true, true, true, true, true, true, true, true, true, true, false, true, false, false] rfl rfl rfl rfl (two_of HT_.out (by kernel_rfl)) (by decide) (by decide) (fun K hK => ?_) (fun K hK => ?_)
                    · skip
                      obtain ⟨v3, hv3⟩ : ∃ v, v = World.alloc v2 (.cells (cb (List.replicate 32 0)) 41) := ⟨_, rfl⟩
                      refine value_ (v := .pointer (some ⟨v2.heap.size, 0, none⟩)) (w1 := v3) (by rfl) rfl (by rw [hv3]; go_simp; rfl) ?_
                      have hb3 : Below v2.heap.size v2 v3 := by rw [hv3]; exact (Below.refl _ _).alloc (Nat.le_refl _) _
                      have F12_3 := Aside0.mk (show v3.heap[v2.heap.size]? = some (.cells (cb (List.replicate 32 0)) 41 (0, 0)) by rw [hv3]; exact heap_new _ _)
                      have G12 := Aside0.mk hHeld.size
                      have hS1 := below_step hHeld hb3
                      clear hv3
                      refine hK.out _ _ (by exact hS1) (fun hHeld => ?_)
                      clear hK K
                      refine norm_ (a' := ?_) ?_ ?_
                      rotate_left
                      · first
                        | (show Act.put _ (some 21) _ = _; simp only [Act.put, List.setIfInBounds_toArray, List.set_cons_zero, List.set_cons_succ, i64_w, i32_w]; rfl)
                        | rfl
                      refine one_ (i := 13) (N := some 22) #[true, true, true, true, true, true, true, true, true, true, true, true, true, true, false, false] rfl rfl (one_of HT_.out (by kernel_rfl)) (by decide) (fun K hK => ?_)
                      obtain ⟨v4, hv4⟩ : ∃ v, v = World.alloc v3 (.cells (cb (List.replicate 32 0)) 41) := ⟨_, rfl⟩
                      refine value_ (v := .pointer (some ⟨v3.heap.size, 0, none⟩)) (w1 := v4) (by rfl) rfl (by rw [hv4]; go_simp; rfl) ?_
                      have hb4 : Below v3.heap.size v3 v4 := by rw [hv4]; exact (Below.refl _ _).alloc (Nat.le_refl _) _
                      have F12_4 := Aside0.mk (heap_keep F12_3.out hb4)
                      have F13_4 := Aside0.mk (show v4.heap[v3.heap.size]? = some (.cells (cb (List.replicate 32 0)) 41 (0, 0)) by rw [hv4]; exact heap_new _ _)
                      have G13 := Aside0.mk hHeld.size
                      have hS1 := below_step hHeld hb4
                      have HNE := Aside0.mk (show v2.heap.size ≠ v3.heap.size by have := (Array.getElem?_eq_some_iff.1 F12_3.out).1; omega)
                      clear hv4
                      refine hK.out _ _ (by exact hS1) (fun hHeld => ?_)
                      clear hK K
                      refine norm_ ?_ (hJ (v2.heap.size, v3.heap.size) _ ⟨F12_4, F13_4, ⟨by first | exact HNE.out | exact HNE.out.symm⟩, ⟨hHeld⟩, ⟨G12.out⟩, ⟨G13.out⟩⟩)
                      first
                        | (simp only [putAll]; simp only [Act.put, List.setIfInBounds_toArray, List.set_cons_zero, List.set_cons_succ, i64_w, i32_w]; done)
                        | (simp only [putAll]; simp only [Act.put, List.setIfInBounds_toArray, List.set_cons_zero, List.set_cons_succ, i64_w, i32_w]; rfl)
                        | rfl
                    · skip
                      obtain ⟨v5, hv5⟩ : ∃ v, v = World.alloc v2 (.cells (cb (List.replicate 32 0)) 41) := ⟨_, rfl⟩
                      refine value_ (v := .pointer (some ⟨v2.heap.size, 0, none⟩)) (w1 := v5) (by rfl) rfl (by rw [hv5]; go_simp; rfl) ?_
                      have hb5 : Below v2.heap.size v2 v5 := by rw [hv5]; exact (Below.refl _ _).alloc (Nat.le_refl _) _
                      have F13_5 := Aside0.mk (show v5.heap[v2.heap.size]? = some (.cells (cb (List.replicate 32 0)) 41 (0, 0)) by rw [hv5]; exact heap_new _ _)
                      have G13 := Aside0.mk hHeld.size
                      have hS1 := below_step hHeld hb5
                      clear hv5
                      refine hK.out _ _ (by exact hS1) (fun hHeld => ?_)
                      clear hK K
                      refine norm_ (a' := ?_) ?_ ?_
                      rotate_left
                      · first
                        | (show Act.put _ (some 22) _ = _; simp only [Act.put, List.setIfInBounds_toArray, List.set_cons_zero, List.set_cons_succ, i64_w, i32_w]; rfl)
                        | rfl
                      refine one_ (i := 12) (N := some 21) #[true, true, true, true, true, true, true, true, true, true, true, true, true, true, false, false] rfl rfl (one_of HT_.out (by kernel_rfl)) (by decide) (fun K hK => ?_)
                      obtain ⟨v6, hv6⟩ : ∃ v, v = World.alloc v5 (.cells (cb (List.replicate 32 0)) 41) := ⟨_, rfl⟩
                      refine value_ (v := .pointer (some ⟨v5.heap.size, 0, none⟩)) (w1 := v6) (by rfl) rfl (by rw [hv6]; go_simp; rfl) ?_
                      have hb6 : Below v5.heap.size v5 v6 := by rw [hv6]; exact (Below.refl _ _).alloc (Nat.le_refl _) _
                      have F13_6 := Aside0.mk (heap_keep F13_5.out hb6)
                      have F12_6 := Aside0.mk (show v6.heap[v5.heap.size]? = some (.cells (cb (List.replicate 32 0)) 41 (0, 0)) by rw [hv6]; exact heap_new _ _)
                      have G12 := Aside0.mk hHeld.size
                      have hS1 := below_step hHeld hb6
                      have HNE := Aside0.mk (show v2.heap.size ≠ v5.heap.size by have := (Array.getElem?_eq_some_iff.1 F13_5.out).1; omega)
                      clear hv6
                      refine hK.out _ _ (by exact hS1) (fun hHeld => ?_)
                      clear hK K
                      refine norm_ ?_ (hJ (v5.heap.size, v2.heap.size) _ ⟨F12_6, F13_6, ⟨by first | exact HNE.out | exact HNE.out.symm⟩, ⟨hHeld⟩, ⟨G12.out⟩, ⟨G13.out⟩⟩)
                      first
                        | (simp only [putAll]; simp only [Act.put, List.setIfInBounds_toArray, List.set_cons_zero, List.set_cons_succ, i64_w, i32_w]; done)
                        | (simp only [putAll]; simp only [Act.put, List.setIfInBounds_toArray, List.set_cons_zero, List.set_cons_succ, i64_w, i32_w]; rfl)
                        | rfl
                  · skip
                    obtain ⟨v7, hv7⟩ : ∃ v, v = World.alloc v1 (.cells (cb (List.replicate 32 0)) 41) := ⟨_, rfl⟩
                    refine value_ (v := .pointer (some ⟨v1.heap.size, 0, none⟩)) (w1 := v7) (by rfl) rfl (by rw [hv7]; go_simp; rfl) ?_
                    have hb7 : Below v1.heap.size v1 v7 := by rw [hv7]; exact (Below.refl _ _).alloc (Nat.le_refl _) _
                    have F12_7 := Aside0.mk (show v7.heap[v1.heap.size]? = some (.cells (cb (List.replicate 32 0)) 41 (0, 0)) by rw [hv7]; exact heap_new _ _)
                    have G12 := Aside0.mk hHeld.size
                    have hS1 := below_step hHeld hb7
                    clear hv7
                    refine hK.out _ _ (by exact hS1) (fun hHeld => ?_)
                    clear hK K
                    refine norm_ (a' := ?_) ?_ ?_
                    rotate_left
                    · first
                      | (show Act.put _ (some 21) _ = _; simp only [Act.put, List.setIfInBounds_toArray, List.set_cons_zero, List.set_cons_succ, i64_w, i32_w]; rfl)
                      | rfl
                    refine two_ (i := 11) (j := 13) (Ni := some 154) (Nj := some 22) #[true, true, true, true, true, true, true, true, true, true, true, true, true, false, false, false] #[true, true, true, true, true, true, true, true, true, true, true, false, true, true, false, false] rfl rfl rfl rfl (two_of HT_.out (by kernel_rfl)) (by decide) (by decide) (fun K hK => ?_) (fun K hK => ?_)
                    · skip
                      refine goes_ Tryd.func16 (by kernel_rfl) rfl #[.pointer (some ⟨gh, 0, none⟩), .slice AU u.length cU] (by rfl) rfl rfl (by (try simp only [List.map_toArray, List.map_cons, List.map_nil]); first | done | rfl) ?_
                      refine (hsum_calls gh AU cU u _ (heap_keep HGK.out hHeld) (Kd.C_below HUC.out hHeld) hcU HUB.out (by have := HUL.out; omega)).mono ?_
                      rintro e v8 ⟨rfl, hb8⟩
                      refine ⟨_, rfl, ?_⟩
                      rw [HDU.out]
                      have F12_8 := Aside0.mk (heap_keep F12_7.out hb8)
                      have hS1 := below_step hHeld hb8
                      refine hK.out _ _ (by exact hS1) (fun hHeld => ?_)
                      clear hK K
                      refine norm_ (a' := ?_) ?_ ?_
                      rotate_left
                      · first
                        | (show Act.put _ (some 154) _ = _; simp only [Act.put, List.setIfInBounds_toArray, List.set_cons_zero, List.set_cons_succ, i64_w, i32_w]; rfl)
                        | rfl
                      refine one_ (i := 13) (N := some 22) #[true, true, true, true, true, true, true, true, true, true, true, true, true, true, false, false] rfl rfl (one_of HT_.out (by kernel_rfl)) (by decide) (fun K hK => ?_)
                      obtain ⟨v9, hv9⟩ : ∃ v, v = World.alloc v8 (.cells (cb (List.replicate 32 0)) 41) := ⟨_, rfl⟩
                      refine value_ (v := .pointer (some ⟨v8.heap.size, 0, none⟩)) (w1 := v9) (by rfl) rfl (by rw [hv9]; go_simp; rfl) ?_
                      have hb9 : Below v8.heap.size v8 v9 := by rw [hv9]; exact (Below.refl _ _).alloc (Nat.le_refl _) _
                      have F12_9 := Aside0.mk (heap_keep F12_8.out hb9)
                      have F13_9 := Aside0.mk (show v9.heap[v8.heap.size]? = some (.cells (cb (List.replicate 32 0)) 41 (0, 0)) by rw [hv9]; exact heap_new _ _)
                      have G13 := Aside0.mk hHeld.size
                      have hS1 := below_step hHeld hb9
                      have HNE := Aside0.mk (show v1.heap.size ≠ v8.heap.size by have := (Array.getElem?_eq_some_iff.1 F12_8.out).1; omega)
                      clear hv9
                      refine hK.out _ _ (by exact hS1) (fun hHeld => ?_)
                      clear hK K
                      refine norm_ ?_ (hJ (v1.heap.size, v8.heap.size) _ ⟨F12_9, F13_9, ⟨by first | exact HNE.out | exact HNE.out.symm⟩, ⟨hHeld⟩, ⟨G12.out⟩, ⟨G13.out⟩⟩)
                      first
                        | (simp only [putAll]; simp only [Act.put, List.setIfInBounds_toArray, List.set_cons_zero, List.set_cons_succ, i64_w, i32_w]; done)
                        | (simp only [putAll]; simp only [Act.put, List.setIfInBounds_toArray, List.set_cons_zero, List.set_cons_succ, i64_w, i32_w]; rfl)
                        | rfl
                    · skip
                      obtain ⟨v10, hv10⟩ : ∃ v, v = World.alloc v7 (.cells (cb (List.replicate 32 0)) 41) := ⟨_, rfl⟩
                      refine value_ (v := .pointer (some ⟨v7.heap.size, 0, none⟩)) (w1 := v10) (by rfl) rfl (by rw [hv10]; go_simp; rfl) ?_
                      have hb10 : Below v7.heap.size v7 v10 := by rw [hv10]; exact (Below.refl _ _).alloc (Nat.le_refl _) _
                      have F12_10 := Aside0.mk (heap_keep F12_7.out hb10)
                      have F13_10 := Aside0.mk (show v10.heap[v7.heap.size]? = some (.cells (cb (List.replicate 32 0)) 41 (0, 0)) by rw [hv10]; exact heap_new _ _)
                      have G13 := Aside0.mk hHeld.size
                      have hS1 := below_step hHeld hb10
                      have HNE := Aside0.mk (show v1.heap.size ≠ v7.heap.size by have := (Array.getElem?_eq_some_iff.1 F12_7.out).1; omega)
                      clear hv10
                      refine hK.out _ _ (by exact hS1) (fun hHeld => ?_)
                      clear hK K
                      refine norm_ (a' := ?_) ?_ ?_
                      rotate_left
                      · first
                        | (show Act.put _ (some 22) _ = _; simp only [Act.put, List.setIfInBounds_toArray, List.set_cons_zero, List.set_cons_succ, i64_w, i32_w]; rfl)
                        | rfl
                      refine one_ (i := 11) (N := some 154) #[true, true, true, true, true, true, true, true, true, true, true, true, true, true, false, false] rfl rfl (one_of HT_.out (by kernel_rfl)) (by decide) (fun K hK => ?_)
                      refine goes_ Tryd.func16 (by kernel_rfl) rfl #[.pointer (some ⟨gh, 0, none⟩), .slice AU u.length cU] (by rfl) rfl rfl (by (try simp only [List.map_toArray, List.map_cons, List.map_nil]); first | done | rfl) ?_
                      refine (hsum_calls gh AU cU u _ (heap_keep HGK.out hHeld) (Kd.C_below HUC.out hHeld) hcU HUB.out (by have := HUL.out; omega)).mono ?_
                      rintro e v11 ⟨rfl, hb11⟩
                      refine ⟨_, rfl, ?_⟩
                      rw [HDU.out]
                      have F12_11 := Aside0.mk (heap_keep F12_10.out hb11)
                      have F13_11 := Aside0.mk (heap_keep F13_10.out hb11)
                      have hS1 := below_step hHeld hb11
                      refine hK.out _ _ (by exact hS1) (fun hHeld => ?_)
                      clear hK K
                      refine norm_ ?_ (hJ (v1.heap.size, v7.heap.size) _ ⟨F12_11, F13_11, ⟨by first | exact HNE.out | exact HNE.out.symm⟩, ⟨hHeld⟩, ⟨G12.out⟩, ⟨G13.out⟩⟩)
                      first
                        | (simp only [putAll]; simp only [Act.put, List.setIfInBounds_toArray, List.set_cons_zero, List.set_cons_succ, i64_w, i32_w]; done)
                        | (simp only [putAll]; simp only [Act.put, List.setIfInBounds_toArray, List.set_cons_zero, List.set_cons_succ, i64_w, i32_w]; rfl)
                        | rfl
                  · skip
                    obtain ⟨v12, hv12⟩ : ∃ v, v = World.alloc v1 (.cells (cb (List.replicate 32 0)) 41) := ⟨_, rfl⟩
                    refine value_ (v := .pointer (some ⟨v1.heap.size, 0, none⟩)) (w1 := v12) (by rfl) rfl (by rw [hv12]; go_simp; rfl) ?_
                    have hb12 : Below v1.heap.size v1 v12 := by rw [hv12]; exact (Below.refl _ _).alloc (Nat.le_refl _) _
                    have F13_12 := Aside0.mk (show v12.heap[v1.heap.size]? = some (.cells (cb (List.replicate 32 0)) 41 (0, 0)) by rw [hv12]; exact heap_new _ _)
                    have G13 := Aside0.mk hHeld.size
                    have hS1 := below_step hHeld hb12
                    clear hv12
                    refine hK.out _ _ (by exact hS1) (fun hHeld => ?_)
                    clear hK K
                    refine norm_ (a' := ?_) ?_ ?_
                    rotate_left
                    · first
                      | (show Act.put _ (some 22) _ = _; simp only [Act.put, List.setIfInBounds_toArray, List.set_cons_zero, List.set_cons_succ, i64_w, i32_w]; rfl)
                      | rfl
                    refine two_ (i := 11) (j := 12) (Ni := some 154) (Nj := some 21) #[true, true, true, true, true, true, true, true, true, true, true, true, false, true, false, false] #[true, true, true, true, true, true, true, true, true, true, true, false, true, true, false, false] rfl rfl rfl rfl (two_of HT_.out (by kernel_rfl)) (by decide) (by decide) (fun K hK => ?_) (fun K hK => ?_)
                    · skip
                      refine goes_ Tryd.func16 (by kernel_rfl) rfl #[.pointer (some ⟨gh, 0, none⟩), .slice AU u.length cU] (by rfl) rfl rfl (by (try simp only [List.map_toArray, List.map_cons, List.map_nil]); first | done | rfl) ?_
                      refine (hsum_calls gh AU cU u _ (heap_keep HGK.out hHeld) (Kd.C_below HUC.out hHeld) hcU HUB.out (by have := HUL.out; omega)).mono ?_
                      rintro e v13 ⟨rfl, hb13⟩
                      refine ⟨_, rfl, ?_⟩
                      rw [HDU.out]
                      have F13_13 := Aside0.mk (heap_keep F13_12.out hb13)
                      have hS1 := below_step hHeld hb13
                      refine hK.out _ _ (by exact hS1) (fun hHeld => ?_)
                      clear hK K
                      refine norm_ (a' := ?_) ?_ ?_
                      rotate_left
                      · first
                        | (show Act.put _ (some 154) _ = _; simp only [Act.put, List.setIfInBounds_toArray, List.set_cons_zero, List.set_cons_succ, i64_w, i32_w]; rfl)
                        | rfl
                      refine one_ (i := 12) (N := some 21) #[true, true, true, true, true, true, true, true, true, true, true, true, true, true, false, false] rfl rfl (one_of HT_.out (by kernel_rfl)) (by decide) (fun K hK => ?_)
                      obtain ⟨v14, hv14⟩ : ∃ v, v = World.alloc v13 (.cells (cb (List.replicate 32 0)) 41) := ⟨_, rfl⟩
                      refine value_ (v := .pointer (some ⟨v13.heap.size, 0, none⟩)) (w1 := v14) (by rfl) rfl (by rw [hv14]; go_simp; rfl) ?_
                      have hb14 : Below v13.heap.size v13 v14 := by rw [hv14]; exact (Below.refl _ _).alloc (Nat.le_refl _) _
                      have F13_14 := Aside0.mk (heap_keep F13_13.out hb14)
                      have F12_14 := Aside0.mk (show v14.heap[v13.heap.size]? = some (.cells (cb (List.replicate 32 0)) 41 (0, 0)) by rw [hv14]; exact heap_new _ _)
                      have G12 := Aside0.mk hHeld.size
                      have hS1 := below_step hHeld hb14
                      have HNE := Aside0.mk (show v1.heap.size ≠ v13.heap.size by have := (Array.getElem?_eq_some_iff.1 F13_13.out).1; omega)
                      clear hv14
                      refine hK.out _ _ (by exact hS1) (fun hHeld => ?_)
                      clear hK K
                      refine norm_ ?_ (hJ (v13.heap.size, v1.heap.size) _ ⟨F12_14, F13_14, ⟨by first | exact HNE.out | exact HNE.out.symm⟩, ⟨hHeld⟩, ⟨G12.out⟩, ⟨G13.out⟩⟩)
                      first
                        | (simp only [putAll]; simp only [Act.put, List.setIfInBounds_toArray, List.set_cons_zero, List.set_cons_succ, i64_w, i32_w]; done)
                        | (simp only [putAll]; simp only [Act.put, List.setIfInBounds_toArray, List.set_cons_zero, List.set_cons_succ, i64_w, i32_w]; rfl)
                        | rfl
                    · skip
                      obtain ⟨v15, hv15⟩ : ∃ v, v = World.alloc v12 (.cells (cb (List.replicate 32 0)) 41) := ⟨_, rfl⟩
                      refine value_ (v := .pointer (some ⟨v12.heap.size, 0, none⟩)) (w1 := v15) (by rfl) rfl (by rw [hv15]; go_simp; rfl) ?_
                      have hb15 : Below v12.heap.size v12 v15 := by rw [hv15]; exact (Below.refl _ _).alloc (Nat.le_refl _) _
                      have F13_15 := Aside0.mk (heap_keep F13_12.out hb15)
                      have F12_15 := Aside0.mk (show v15.heap[v12.heap.size]? = some (.cells (cb (List.replicate 32 0)) 41 (0, 0)) by rw [hv15]; exact heap_new _ _)
                      have G12 := Aside0.mk hHeld.size
                      have hS1 := below_step hHeld hb15
                      have HNE := Aside0.mk (show v1.heap.size ≠ v12.heap.size by have := (Array.getElem?_eq_some_iff.1 F13_12.out).1; omega)
                      clear hv15
                      refine hK.out _ _ (by exact hS1) (fun hHeld => ?_)
                      clear hK K
                      refine norm_ (a' := ?_) ?_ ?_
                      rotate_left
                      · first
                        | (show Act.put _ (some 21) _ = _; simp only [Act.put, List.setIfInBounds_toArray, List.set_cons_zero, List.set_cons_succ, i64_w, i32_w]; rfl)
                        | rfl
                      refine one_ (i := 11) (N := some 154) #[true, true, true, true, true, true, true, true, true, true, true, true, true, true, false, false] rfl rfl (one_of HT_.out (by kernel_rfl)) (by decide) (fun K hK => ?_)
                      refine goes_ Tryd.func16 (by kernel_rfl) rfl #[.pointer (some ⟨gh, 0, none⟩), .slice AU u.length cU] (by rfl) rfl rfl (by (try simp only [List.map_toArray, List.map_cons, List.map_nil]); first | done | rfl) ?_
                      refine (hsum_calls gh AU cU u _ (heap_keep HGK.out hHeld) (Kd.C_below HUC.out hHeld) hcU HUB.out (by have := HUL.out; omega)).mono ?_
                      rintro e v16 ⟨rfl, hb16⟩
                      refine ⟨_, rfl, ?_⟩
                      rw [HDU.out]
                      have F13_16 := Aside0.mk (heap_keep F13_15.out hb16)
                      have F12_16 := Aside0.mk (heap_keep F12_15.out hb16)
                      have hS1 := below_step hHeld hb16
                      refine hK.out _ _ (by exact hS1) (fun hHeld => ?_)
                      clear hK K
                      refine norm_ ?_ (hJ (v12.heap.size, v1.heap.size) _ ⟨F12_16, F13_16, ⟨by first | exact HNE.out | exact HNE.out.symm⟩, ⟨hHeld⟩, ⟨G12.out⟩, ⟨G13.out⟩⟩)
                      first
                        | (simp only [putAll]; simp only [Act.put, List.setIfInBounds_toArray, List.set_cons_zero, List.set_cons_succ, i64_w, i32_w]; done)
                        | (simp only [putAll]; simp only [Act.put, List.setIfInBounds_toArray, List.set_cons_zero, List.set_cons_succ, i64_w, i32_w]; rfl)
                        | rfl
                · skip
                  obtain ⟨v17, hv17⟩ : ∃ v, v = World.alloc wq (.cells (cb (List.replicate 32 0)) 41) := ⟨_, rfl⟩
                  refine value_ (v := .pointer (some ⟨wq.heap.size, 0, none⟩)) (w1 := v17) (by rfl) rfl (by rw [hv17]; go_simp; rfl) ?_
                  have hb17 : Below wq.heap.size wq v17 := by rw [hv17]; exact (Below.refl _ _).alloc (Nat.le_refl _) _
                  have F12_17 := Aside0.mk (show v17.heap[wq.heap.size]? = some (.cells (cb (List.replicate 32 0)) 41 (0, 0)) by rw [hv17]; exact heap_new _ _)
                  have G12 := Aside0.mk hHeld.size
                  have hS1 := below_step hHeld hb17
                  clear hv17
                  refine hK.out _ _ (by exact hS1) (fun hHeld => ?_)
                  clear hK K
                  refine norm_ (a' := ?_) ?_ ?_
                  rotate_left
                  · first
                    | (show Act.put _ (some 21) _ = _; simp only [Act.put, List.setIfInBounds_toArray, List.set_cons_zero, List.set_cons_succ, i64_w, i32_w]; rfl)
                    | rfl
                  refine two_ (i := 5) (j := 13) (Ni := some 148) (Nj := some 22) #[true, true, true, true, true, true, true, true, true, true, true, false, true, false, false, false] #[true, true, true, true, true, false, true, true, true, true, true, false, true, true, false, false] rfl rfl rfl rfl (two_of HT_.out (by kernel_rfl)) (by decide) (by decide) (fun K hK => ?_) (fun K hK => ?_)
                  · skip
                    refine goes_ Tryd.func16 (by kernel_rfl) rfl #[.pointer (some ⟨gh, 0, none⟩), .slice AX x.length cX] (by rfl) rfl rfl (by (try simp only [List.map_toArray, List.map_cons, List.map_nil]); first | done | rfl) ?_
                    refine (hsum_calls gh AX cX x _ (heap_keep HGK.out hHeld) (Kd.C_below HXC.out hHeld) hcX HXB.out (by have := HXL.out; omega)).mono ?_
                    rintro e v18 ⟨rfl, hb18⟩
                    refine ⟨_, rfl, ?_⟩
                    rw [HDX.out]
                    have F12_18 := Aside0.mk (heap_keep F12_17.out hb18)
                    have hS1 := below_step hHeld hb18
                    refine hK.out _ _ (by exact hS1) (fun hHeld => ?_)
                    clear hK K
                    refine norm_ (a' := ?_) ?_ ?_
                    rotate_left
                    · first
                      | (show Act.put _ (some 148) _ = _; simp only [Act.put, List.setIfInBounds_toArray, List.set_cons_zero, List.set_cons_succ, i64_w, i32_w]; rfl)
                      | rfl
                    refine two_ (i := 11) (j := 13) (Ni := some 154) (Nj := some 22) #[true, true, true, true, true, true, true, true, true, true, true, true, true, false, false, false] #[true, true, true, true, true, true, true, true, true, true, true, false, true, true, false, false] rfl rfl rfl rfl (two_of HT_.out (by kernel_rfl)) (by decide) (by decide) (fun K hK => ?_) (fun K hK => ?_)
                    · skip
                      refine goes_ Tryd.func16 (by kernel_rfl) rfl #[.pointer (some ⟨gh, 0, none⟩), .slice AU u.length cU] (by rfl) rfl rfl (by (try simp only [List.map_toArray, List.map_cons, List.map_nil]); first | done | rfl) ?_
                      refine (hsum_calls gh AU cU u _ (heap_keep HGK.out hHeld) (Kd.C_below HUC.out hHeld) hcU HUB.out (by have := HUL.out; omega)).mono ?_
                      rintro e v19 ⟨rfl, hb19⟩
                      refine ⟨_, rfl, ?_⟩
                      rw [HDU.out]
                      have F12_19 := Aside0.mk (heap_keep F12_18.out hb19)
                      have hS1 := below_step hHeld hb19
                      refine hK.out _ _ (by exact hS1) (fun hHeld => ?_)
                      clear hK K
                      refine norm_ (a' := ?_) ?_ ?_
                      rotate_left
                      · first
                        | (show Act.put _ (some 154) _ = _; simp only [Act.put, List.setIfInBounds_toArray, List.set_cons_zero, List.set_cons_succ, i64_w, i32_w]; rfl)
                        | rfl
                      refine one_ (i := 13) (N := some 22) #[true, true, true, true, true, true, true, true, true, true, true, true, true, true, false, false] rfl rfl (one_of HT_.out (by kernel_rfl)) (by decide) (fun K hK => ?_)
                      obtain ⟨v20, hv20⟩ : ∃ v, v = World.alloc v19 (.cells (cb (List.replicate 32 0)) 41) := ⟨_, rfl⟩
                      refine value_ (v := .pointer (some ⟨v19.heap.size, 0, none⟩)) (w1 := v20) (by rfl) rfl (by rw [hv20]; go_simp; rfl) ?_
                      have hb20 : Below v19.heap.size v19 v20 := by rw [hv20]; exact (Below.refl _ _).alloc (Nat.le_refl _) _
                      have F12_20 := Aside0.mk (heap_keep F12_19.out hb20)
                      have F13_20 := Aside0.mk (show v20.heap[v19.heap.size]? = some (.cells (cb (List.replicate 32 0)) 41 (0, 0)) by rw [hv20]; exact heap_new _ _)
                      have G13 := Aside0.mk hHeld.size
                      have hS1 := below_step hHeld hb20
                      have HNE := Aside0.mk (show wq.heap.size ≠ v19.heap.size by have := (Array.getElem?_eq_some_iff.1 F12_19.out).1; omega)
                      clear hv20
                      refine hK.out _ _ (by exact hS1) (fun hHeld => ?_)
                      clear hK K
                      refine norm_ ?_ (hJ (wq.heap.size, v19.heap.size) _ ⟨F12_20, F13_20, ⟨by first | exact HNE.out | exact HNE.out.symm⟩, ⟨hHeld⟩, ⟨G12.out⟩, ⟨G13.out⟩⟩)
                      first
                        | (simp only [putAll]; simp only [Act.put, List.setIfInBounds_toArray, List.set_cons_zero, List.set_cons_succ, i64_w, i32_w]; done)
                        | (simp only [putAll]; simp only [Act.put, List.setIfInBounds_toArray, List.set_cons_zero, List.set_cons_succ, i64_w, i32_w]; rfl)
                        | rfl
                    · skip
                      obtain ⟨v21, hv21⟩ : ∃ v, v = World.alloc v18 (.cells (cb (List.replicate 32 0)) 41) := ⟨_, rfl⟩
                      refine value_ (v := .pointer (some ⟨v18.heap.size, 0, none⟩)) (w1 := v21) (by rfl) rfl (by rw [hv21]; go_simp; rfl) ?_
                      have hb21 : Below v18.heap.size v18 v21 := by rw [hv21]; exact (Below.refl _ _).alloc (Nat.le_refl _) _
                      have F12_21 := Aside0.mk (heap_keep F12_18.out hb21)
                      have F13_21 := Aside0.mk (show v21.heap[v18.heap.size]? = some (.cells (cb (List.replicate 32 0)) 41 (0, 0)) by rw [hv21]; exact heap_new _ _)
                      have G13 := Aside0.mk hHeld.size
                      have hS1 := below_step hHeld hb21
                      have HNE := Aside0.mk (show wq.heap.size ≠ v18.heap.size by have := (Array.getElem?_eq_some_iff.1 F12_18.out).1; omega)
                      clear hv21
                      refine hK.out _ _ (by exact hS1) (fun hHeld => ?_)
                      clear hK K
                      refine norm_ (a' := ?_) ?_ ?_
                      rotate_left
                      · first
                        | (show Act.put _ (some 22) _ = _; simp only [Act.put, List.setIfInBounds_toArray, List.set_cons_zero, List.set_cons_succ, i64_w, i32_w]; rfl)
                        | rfl
                      refine one_ (i := 11) (N := some 154) #[true, true, true, true, true, true, true, true, true, true, true, true, true, true, false, false] rfl rfl (one_of HT_.out (by kernel_rfl)) (by decide) (fun K hK => ?_)
                      refine goes_ Tryd.func16 (by kernel_rfl) rfl #[.pointer (some ⟨gh, 0, none⟩), .slice AU u.length cU] (by rfl) rfl rfl (by (try simp only [List.map_toArray, List.map_cons, List.map_nil]); first | done | rfl) ?_
                      refine (hsum_calls gh AU cU u _ (heap_keep HGK.out hHeld) (Kd.C_below HUC.out hHeld) hcU HUB.out (by have := HUL.out; omega)).mono ?_
                      rintro e v22 ⟨rfl, hb22⟩
                      refine ⟨_, rfl, ?_⟩
                      rw [HDU.out]
                      have F12_22 := Aside0.mk (heap_keep F12_21.out hb22)
                      have F13_22 := Aside0.mk (heap_keep F13_21.out hb22)
                      have hS1 := below_step hHeld hb22
                      refine hK.out _ _ (by exact hS1) (fun hHeld => ?_)
                      clear hK K
                      refine norm_ ?_ (hJ (wq.heap.size, v18.heap.size) _ ⟨F12_22, F13_22, ⟨by first | exact HNE.out | exact HNE.out.symm⟩, ⟨hHeld⟩, ⟨G12.out⟩, ⟨G13.out⟩⟩)
                      first
                        | (simp only [putAll]; simp only [Act.put, List.setIfInBounds_toArray, List.set_cons_zero, List.set_cons_succ, i64_w, i32_w]; done)
                        | (simp only [putAll]; simp only [Act.put, List.setIfInBounds_toArray, List.set_cons_zero, List.set_cons_succ, i64_w, i32_w]; rfl)
                        | rfl
                  · skip
                    obtain ⟨v23, hv23⟩ : ∃ v, v = World.alloc v17 (.cells (cb (List.replicate 32 0)) 41) := ⟨_, rfl⟩
                    refine value_ (v := .pointer (some ⟨v17.heap.size, 0, none⟩)) (w1 := v23) (by rfl) rfl (by rw [hv23]; go_simp; rfl) ?_
                    have hb23 : Below v17.heap.size v17 v23 := by rw [hv23]; exact (Below.refl _ _).alloc (Nat.le_refl _) _
                    have F12_23 := Aside0.mk (heap_keep F12_17.out hb23)
                    have F13_23 := Aside0.mk (show v23.heap[v17.heap.size]? = some (.cells (cb (List.replicate 32 0)) 41 (0, 0)) by rw [hv23]; exact heap_new _ _)
                    have G13 := Aside0.mk hHeld.size
                    have hS1 := below_step hHeld hb23
                    have HNE := Aside0.mk (show wq.heap.size ≠ v17.heap.size by have := (Array.getElem?_eq_some_iff.1 F12_17.out).1; omega)
                    clear hv23
                    refine hK.out _ _ (by exact hS1) (fun hHeld => ?_)
                    clear hK K
                    refine norm_ (a' := ?_) ?_ ?_
                    rotate_left
                    · first
                      | (show Act.put _ (some 22) _ = _; simp only [Act.put, List.setIfInBounds_toArray, List.set_cons_zero, List.set_cons_succ, i64_w, i32_w]; rfl)
                      | rfl
                    refine one_ (i := 5) (N := some 148) #[true, true, true, true, true, true, true, true, true, true, true, false, true, true, false, false] rfl rfl (one_of HT_.out (by kernel_rfl)) (by decide) (fun K hK => ?_)
                    refine goes_ Tryd.func16 (by kernel_rfl) rfl #[.pointer (some ⟨gh, 0, none⟩), .slice AX x.length cX] (by rfl) rfl rfl (by (try simp only [List.map_toArray, List.map_cons, List.map_nil]); first | done | rfl) ?_
                    refine (hsum_calls gh AX cX x _ (heap_keep HGK.out hHeld) (Kd.C_below HXC.out hHeld) hcX HXB.out (by have := HXL.out; omega)).mono ?_
                    rintro e v24 ⟨rfl, hb24⟩
                    refine ⟨_, rfl, ?_⟩
                    rw [HDX.out]
                    have F12_24 := Aside0.mk (heap_keep F12_23.out hb24)
                    have F13_24 := Aside0.mk (heap_keep F13_23.out hb24)
                    have hS1 := below_step hHeld hb24
                    refine hK.out _ _ (by exact hS1) (fun hHeld => ?_)
                    clear hK K
                    refine norm_ (a' := ?_) ?_ ?_
                    rotate_left
                    · first
                      | (show Act.put _ (some 148) _ = _; simp only [Act.put, List.setIfInBounds_toArray, List.set_cons_zero, List.set_cons_succ, i64_w, i32_w]; rfl)
                      | rfl
                    refine one_ (i := 11) (N := some 154) #[true, true, true, true, true, true, true, true, true, true, true, true, true, true, false, false] rfl rfl (one_of HT_.out (by kernel_rfl)) (by decide) (fun K hK => ?_)
                    refine goes_ Tryd.func16 (by kernel_rfl) rfl #[.pointer (some ⟨gh, 0, none⟩), .slice AU u.length cU] (by rfl) rfl rfl (by (try simp only [List.map_toArray, List.map_cons, List.map_nil]); first | done | rfl) ?_
                    refine (hsum_calls gh AU cU u _ (heap_keep HGK.out hHeld) (Kd.C_below HUC.out hHeld) hcU HUB.out (by have := HUL.out; omega)).mono ?_
                    rintro e v25 ⟨rfl, hb25⟩
                    refine ⟨_, rfl, ?_⟩
                    rw [HDU.out]
                    have F12_25 := Aside0.mk (heap_keep F12_24.out hb25)
                    have F13_25 := Aside0.mk (heap_keep F13_24.out hb25)
                    have hS1 := below_step hHeld hb25
                    refine hK.out _ _ (by exact hS1) (fun hHeld => ?_)
                    clear hK K
                    refine norm_ ?_ (hJ (wq.heap.size, v17.heap.size) _ ⟨F12_25, F13_25, ⟨by first | exact HNE.out | exact HNE.out.symm⟩, ⟨hHeld⟩, ⟨G12.out⟩, ⟨G13.out⟩⟩)
                    first
                      | (simp only [putAll]; simp only [Act.put, List.setIfInBounds_toArray, List.set_cons_zero, List.set_cons_succ, i64_w, i32_w]; done)
                      | (simp only [putAll]; simp only [Act.put, List.setIfInBounds_toArray, List.set_cons_zero, List.set_cons_succ, i64_w, i32_w]; rfl)
                      | rfl
                · skip
                  obtain ⟨v26, hv26⟩ : ∃ v, v = World.alloc wq (.cells (cb (List.replicate 32 0)) 41) := ⟨_, rfl⟩
                  refine value_ (v := .pointer (some ⟨wq.heap.size, 0, none⟩)) (w1 := v26) (by rfl) rfl (by rw [hv26]; go_simp; rfl) ?_
                  have hb26 : Below wq.heap.size wq v26 := by rw [hv26]; exact (Below.refl _ _).alloc (Nat.le_refl _) _
                  have F13_26 := Aside0.mk (show v26.heap[wq.heap.size]? = some (.cells (cb (List.replicate 32 0)) 41 (0, 0)) by rw [hv26]; exact heap_new _ _)
                  have G13 := Aside0.mk hHeld.size
                  have hS1 := below_step hHeld hb26
                  clear hv26
                  refine hK.out _ _ (by exact hS1) (fun hHeld => ?_)
                  clear hK K
                  refine norm_ (a' := ?_) ?_ ?_
                  rotate_left
                  · first
                    | (show Act.put _ (some 22) _ = _; simp only [Act.put, List.setIfInBounds_toArray, List.set_cons_zero, List.set_cons_succ, i64_w, i32_w]; rfl)
                    | rfl
                  refine two_ (i := 5) (j := 12) (Ni := some 148) (Nj := some 21) #[true, true, true, true, true, true, true, true, true, true, true, false, false, true, false, false] #[true, true, true, true, true, false, true, true, true, true, true, false, true, true, false, false] rfl rfl rfl rfl (two_of HT_.out (by kernel_rfl)) (by decide) (by decide) (fun K hK => ?_) (fun K hK => ?_)
                  · skip
                    refine goes_ Tryd.func16 (by kernel_rfl) rfl #[.pointer (some ⟨gh, 0, none⟩), .slice AX x.length cX] (by rfl) rfl rfl (by (try simp only [List.map_toArray, List.map_cons, List.map_nil]); first | done | rfl) ?_
                    refine (hsum_calls gh AX cX x _ (heap_keep HGK.out hHeld) (Kd.C_below HXC.out hHeld) hcX HXB.out (by have := HXL.out; omega)).mono ?_
                    rintro e v27 ⟨rfl, hb27⟩
                    refine ⟨_, rfl, ?_⟩
                    rw [HDX.out]
                    have F13_27 := Aside0.mk (heap_keep F13_26.out hb27)
                    have hS1 := below_step hHeld hb27
                    refine hK.out _ _ (by exact hS1) (fun hHeld => ?_)
                    clear hK K
                    refine norm_ (a' := ?_) ?_ ?_
                    rotate_left
                    · first
                      | (show Act.put _ (some 148) _ = _; simp only [Act.put, List.setIfInBounds_toArray, List.set_cons_zero, List.set_cons_succ, i64_w, i32_w]; rfl)
                      | rfl
                    refine two_ (i := 11) (j := 12) (Ni := some 154) (Nj := some 21) #[true, true, true, true, true, true, true, true, true, true, true, true, false, true, false, false] #[true, true, true, true, true, true, true, true, true, true, true, false, true, true, false, false] rfl rfl rfl rfl (two_of HT_.out (by kernel_rfl)) (by decide) (by decide) (fun K hK => ?_) (fun K hK => ?_)
                    · skip
                      refine goes_ Tryd.func16 (by kernel_rfl) rfl #[.pointer (some ⟨gh, 0, none⟩), .slice AU u.length cU] (by rfl) rfl rfl (by (try simp only [List.map_toArray, List.map_cons, List.map_nil]); first | done | rfl) ?_
                      refine (hsum_calls gh AU cU u _ (heap_keep HGK.out hHeld) (Kd.C_below HUC.out hHeld) hcU HUB.out (by have := HUL.out; omega)).mono ?_
                      rintro e v28 ⟨rfl, hb28⟩
                      refine ⟨_, rfl, ?_⟩
                      rw [HDU.out]
                      have F13_28 := Aside0.mk (heap_keep F13_27.out hb28)
                      have hS1 := below_step hHeld hb28
                      refine hK.out _ _ (by exact hS1) (fun hHeld => ?_)
                      clear hK K
                      refine norm_ (a' := ?_) ?_ ?_
                      rotate_left
                      · first
                        | (show Act.put _ (some 154) _ = _; simp only [Act.put, List.setIfInBounds_toArray, List.set_cons_zero, List.set_cons_succ, i64_w, i32_w]; rfl)
                        | rfl
                      refine one_ (i := 12) (N := some 21) #[true, true, true, true, true, true, true, true, true, true, true, true, true, true, false, false] rfl rfl (one_of HT_.out (by kernel_rfl)) (by decide) (fun K hK => ?_)
                      obtain ⟨v29, hv29⟩ : ∃ v, v = World.alloc v28 (.cells (cb (List.replicate 32 0)) 41) := ⟨_, rfl⟩
                      refine value_ (v := .pointer (some ⟨v28.heap.size, 0, none⟩)) (w1 := v29) (by rfl) rfl (by rw [hv29]; go_simp; rfl) ?_
                      have hb29 : Below v28.heap.size v28 v29 := by rw [hv29]; exact (Below.refl _ _).alloc (Nat.le_refl _) _
                      have F13_29 := Aside0.mk (heap_keep F13_28.out hb29)
                      have F12_29 := Aside0.mk (show v29.heap[v28.heap.size]? = some (.cells (cb (List.replicate 32 0)) 41 (0, 0)) by rw [hv29]; exact heap_new _ _)
                      have G12 := Aside0.mk hHeld.size
                      have hS1 := below_step hHeld hb29
                      have HNE := Aside0.mk (show wq.heap.size ≠ v28.heap.size by have := (Array.getElem?_eq_some_iff.1 F13_28.out).1; omega)
                      clear hv29
                      refine hK.out _ _ (by exact hS1) (fun hHeld => ?_)
                      clear hK K
                      refine norm_ ?_ (hJ (v28.heap.size, wq.heap.size) _ ⟨F12_29, F13_29, ⟨by first | exact HNE.out | exact HNE.out.symm⟩, ⟨hHeld⟩, ⟨G12.out⟩, ⟨G13.out⟩⟩)
                      first
                        | (simp only [putAll]; simp only [Act.put, List.setIfInBounds_toArray, List.set_cons_zero, List.set_cons_succ, i64_w, i32_w]; done)
                        | (simp only [putAll]; simp only [Act.put, List.setIfInBounds_toArray, List.set_cons_zero, List.set_cons_succ, i64_w, i32_w]; rfl)
                        | rfl
                    · skip
                      obtain ⟨v30, hv30⟩ : ∃ v, v = World.alloc v27 (.cells (cb (List.replicate 32 0)) 41) := ⟨_, rfl⟩
                      refine value_ (v := .pointer (some ⟨v27.heap.size, 0, none⟩)) (w1 := v30) (by rfl) rfl (by rw [hv30]; go_simp; rfl) ?_
                      have hb30 : Below v27.heap.size v27 v30 := by rw [hv30]; exact (Below.refl _ _).alloc (Nat.le_refl _) _
                      have F13_30 := Aside0.mk (heap_keep F13_27.out hb30)
                      have F12_30 := Aside0.mk (show v30.heap[v27.heap.size]? = some (.cells (cb (List.replicate 32 0)) 41 (0, 0)) by rw [hv30]; exact heap_new _ _)
                      have G12 := Aside0.mk hHeld.size
                      have hS1 := below_step hHeld hb30
                      have HNE := Aside0.mk (show wq.heap.size ≠ v27.heap.size by have := (Array.getElem?_eq_some_iff.1 F13_27.out).1; omega)
                      clear hv30
                      refine hK.out _ _ (by exact hS1) (fun hHeld => ?_)
                      clear hK K
                      refine norm_ (a' := ?_) ?_ ?_
                      rotate_left
                      · first
                        | (show Act.put _ (some 21) _ = _; simp only [Act.put, List.setIfInBounds_toArray, List.set_cons_zero, List.set_cons_succ, i64_w, i32_w]; rfl)
                        | rfl
                      refine one_ (i := 11) (N := some 154) #[true, true, true, true, true, true, true, true, true, true, true, true, true, true, false, false] rfl rfl (one_of HT_.out (by kernel_rfl)) (by decide) (fun K hK => ?_)
                      refine goes_ Tryd.func16 (by kernel_rfl) rfl #[.pointer (some ⟨gh, 0, none⟩), .slice AU u.length cU] (by rfl) rfl rfl (by (try simp only [List.map_toArray, List.map_cons, List.map_nil]); first | done | rfl) ?_
                      refine (hsum_calls gh AU cU u _ (heap_keep HGK.out hHeld) (Kd.C_below HUC.out hHeld) hcU HUB.out (by have := HUL.out; omega)).mono ?_
                      rintro e v31 ⟨rfl, hb31⟩
                      refine ⟨_, rfl, ?_⟩
                      rw [HDU.out]
                      have F13_31 := Aside0.mk (heap_keep F13_30.out hb31)
                      have F12_31 := Aside0.mk (heap_keep F12_30.out hb31)
                      have hS1 := below_step hHeld hb31
                      refine hK.out _ _ (by exact hS1) (fun hHeld => ?_)
                      clear hK K
                      refine norm_ ?_ (hJ (v27.heap.size, wq.heap.size) _ ⟨F12_31, F13_31, ⟨by first | exact HNE.out | exact HNE.out.symm⟩, ⟨hHeld⟩, ⟨G12.out⟩, ⟨G13.out⟩⟩)
                      first
                        | (simp only [putAll]; simp only [Act.put, List.setIfInBounds_toArray, List.set_cons_zero, List.set_cons_succ, i64_w, i32_w]; done)
                        | (simp only [putAll]; simp only [Act.put, List.setIfInBounds_toArray, List.set_cons_zero, List.set_cons_succ, i64_w, i32_w]; rfl)
                        | rfl
                  · skip
                    obtain ⟨v32, hv32⟩ : ∃ v, v = World.alloc v26 (.cells (cb (List.replicate 32 0)) 41) := ⟨_, rfl⟩
                    refine value_ (v := .pointer (some ⟨v26.heap.size, 0, none⟩)) (w1 := v32) (by rfl) rfl (by rw [hv32]; go_simp; rfl) ?_
                    have hb32 : Below v26.heap.size v26 v32 := by rw [hv32]; exact (Below.refl _ _).alloc (Nat.le_refl _) _
                    have F13_32 := Aside0.mk (heap_keep F13_26.out hb32)
                    have F12_32 := Aside0.mk (show v32.heap[v26.heap.size]? = some (.cells (cb (List.replicate 32 0)) 41 (0, 0)) by rw [hv32]; exact heap_new _ _)
                    have G12 := Aside0.mk hHeld.size
                    have hS1 := below_step hHeld hb32
                    have HNE := Aside0.mk (show wq.heap.size ≠ v26.heap.size by have := (Array.getElem?_eq_some_iff.1 F13_26.out).1; omega)
                    clear hv32
                    refine hK.out _ _ (by exact hS1) (fun hHeld => ?_)
                    clear hK K
                    refine norm_ (a' := ?_) ?_ ?_
                    rotate_left
                    · first
                      | (show Act.put _ (some 21) _ = _; simp only [Act.put, List.setIfInBounds_toArray, List.set_cons_zero, List.set_cons_succ, i64_w, i32_w]; rfl)
                      | rfl
                    refine one_ (i := 5) (N := some 148) #[true, true, true, true, true, true, true, true, true, true, true, false, true, true, false, false] rfl rfl (one_of HT_.out (by kernel_rfl)) (by decide) (fun K hK => ?_)
                    refine goes_ Tryd.func16 (by kernel_rfl) rfl #[.pointer (some ⟨gh, 0, none⟩), .slice AX x.length cX] (by rfl) rfl rfl (by (try simp only [List.map_toArray, List.map_cons, List.map_nil]); first | done | rfl) ?_
                    refine (hsum_calls gh AX cX x _ (heap_keep HGK.out hHeld) (Kd.C_below HXC.out hHeld) hcX HXB.out (by have := HXL.out; omega)).mono ?_
                    rintro e v33 ⟨rfl, hb33⟩
                    refine ⟨_, rfl, ?_⟩
                    rw [HDX.out]
                    have F13_33 := Aside0.mk (heap_keep F13_32.out hb33)
                    have F12_33 := Aside0.mk (heap_keep F12_32.out hb33)
                    have hS1 := below_step hHeld hb33
                    refine hK.out _ _ (by exact hS1) (fun hHeld => ?_)
                    clear hK K
                    refine norm_ (a' := ?_) ?_ ?_
                    rotate_left
                    · first
                      | (show Act.put _ (some 148) _ = _; simp only [Act.put, List.setIfInBounds_toArray, List.set_cons_zero, List.set_cons_succ, i64_w, i32_w]; rfl)
                      | rfl
                    refine one_ (i := 11) (N := some 154) #[true, true, true, true, true, true, true, true, true, true, true, true, true, true, false, false] rfl rfl (one_of HT_.out (by kernel_rfl)) (by decide) (fun K hK => ?_)
                    refine goes_ Tryd.func16 (by kernel_rfl) rfl #[.pointer (some ⟨gh, 0, none⟩), .slice AU u.length cU] (by rfl) rfl rfl (by (try simp only [List.map_toArray, List.map_cons, List.map_nil]); first | done | rfl) ?_
                    refine (hsum_calls gh AU cU u _ (heap_keep HGK.out hHeld) (Kd.C_below HUC.out hHeld) hcU HUB.out (by have := HUL.out; omega)).mono ?_
                    rintro e v34 ⟨rfl, hb34⟩
                    refine ⟨_, rfl, ?_⟩
                    rw [HDU.out]
                    have F13_34 := Aside0.mk (heap_keep F13_33.out hb34)
                    have F12_34 := Aside0.mk (heap_keep F12_33.out hb34)
                    have hS1 := below_step hHeld hb34
                    refine hK.out _ _ (by exact hS1) (fun hHeld => ?_)
                    clear hK K
                    refine norm_ ?_ (hJ (v26.heap.size, wq.heap.size) _ ⟨F12_34, F13_34, ⟨by first | exact HNE.out | exact HNE.out.symm⟩, ⟨hHeld⟩, ⟨G12.out⟩, ⟨G13.out⟩⟩)
                    first
                      | (simp only [putAll]; simp only [Act.put, List.setIfInBounds_toArray, List.set_cons_zero, List.set_cons_succ, i64_w, i32_w]; done)
                      | (simp only [putAll]; simp only [Act.put, List.setIfInBounds_toArray, List.set_cons_zero, List.set_cons_succ, i64_w, i32_w]; rfl)
                      | rfl
              rintro ⟨ga, gb⟩ w9_ ⟨HGA, HGB, HGN, HB9_, HGAW, HGBW⟩
              replace HGA : Aside0 (w9_.heap[ga]? = some (.cells (cb (List.replicate 32 0)) 41 (0, 0))) := HGA
              replace HGB : Aside0 (w9_.heap[gb]? = some (.cells (cb (List.replicate 32 0)) 41 (0, 0))) := HGB
              replace HGN : Aside0 (ga ≠ gb) := HGN
              replace HGAW : Aside0 (wh.heap.size ≤ ga) := HGAW
              replace HGBW : Aside0 (wh.heap.size ≤ gb) := HGBW
              refine norm_ (a' := ?_) ?_ ?_
              rotate_left
              · simp only [putAll]
                simp only [Act.put, List.setIfInBounds_toArray, List.set_cons_zero, List.set_cons_succ, i64_w, i32_w]
                rfl
              have hHeld := HB9_.out
              refine one_ (i := 14) (N := none) #[true, true, true, true, true, true, true, true, true, true, true, true, true, true, true, false] rfl rfl (one_of HT_.out (by kernel_rfl)) (by decide) (fun K hK => ?_)
              refine storeRow_step (by rfl) 41 (.tmp 21) (.tmp 148) rfl ga (cb DX) rfl rfl 41 _ HGA.out (infoDg _ HDXL.out) (by rw [cb_size, cb_size, HDXL.out]; simp) (cb_one _) ?_
              obtain ⟨wa, hwa⟩ : ∃ wa, w9_.setRow ga (cb DX) = wa := ⟨_, rfl⟩
              have HGA2 := Aside0.mk (show wa.heap[ga]? = some (.cells (cb DX) 41 (0, 0)) by rw [← hwa]; exact setRow_heap _ _ _ _ _ _ HGA.out)
              have HGB2 := Aside0.mk (show wa.heap[gb]? = some (.cells (cb (List.replicate 32 0)) 41 (0, 0)) by rw [← hwa, setRow_other _ _ _ _ HGN.out.symm]; exact HGB.out)
              have hS1 : Below wh.heap.size wh wa := by rw [← hwa]; exact below_setRow hHeld HGAW.out _
              rw [hwa]
              clear hwa
              refine hK.out _ _ (by exact hS1) (fun hHeld => ?_)
              clear hK K
              refine norm_ (a' := ?_) ?_ ?_
              rotate_left
              · first
                | (show Act.put _ none _ = _; simp only [Act.put, List.setIfInBounds_toArray, List.set_cons_zero, List.set_cons_succ, i64_w, i32_w]; rfl)
                | rfl
              refine one_ (i := 15) (N := none) #[true, true, true, true, true, true, true, true, true, true, true, true, true, true, true, true] rfl rfl (one_of HT_.out (by kernel_rfl)) (by decide) (fun K hK => ?_)
              refine storeRow_step (by rfl) 41 (.tmp 22) (.tmp 154) rfl gb (cb DU) rfl rfl 41 _ HGB2.out (infoDg _ HDUL.out) (by rw [cb_size, cb_size, HDUL.out]; simp) (cb_one _) ?_
              obtain ⟨wb, hwb⟩ : ∃ wb, wa.setRow gb (cb DU) = wb := ⟨_, rfl⟩
              have HGB3 := Aside0.mk (show wb.heap[gb]? = some (.cells (cb DU) 41 (0, 0)) by rw [← hwb]; exact setRow_heap _ _ _ _ _ _ HGB2.out)
              have HGA3 := Aside0.mk (show wb.heap[ga]? = some (.cells (cb DX) 41 (0, 0)) by rw [← hwb, setRow_other _ _ _ _ HGN.out]; exact HGA2.out)
              have hS1 : Below wh.heap.size wh wb := by rw [← hwb]; exact below_setRow hHeld HGBW.out _
              rw [hwb]
              clear hwb
              refine hK.out _ _ (by exact hS1) (fun hHeld => ?_)
              clear hK K
              refine norm_ (a' := ?_) ?_ ?_
              rotate_left
              · first
                | (show Act.put _ none _ = _; simp only [Act.put, List.setIfInBounds_toArray, List.set_cons_zero, List.set_cons_succ, i64_w, i32_w]; rfl)
                | rfl
              refine done_ (done_of HT_.out (by kernel_rfl)) ?_
              have HBB := Aside0.mk (below_step HBH.out hHeld)
              have HX4 := Aside0.mk (cell_below HX0.out hHeld)
              have HU4 := Aside0.mk (cell_below HU0.out hHeld)
              have HXC4 := Aside0.mk (Kd.C_below HXC.out hHeld)
              have HUC4 := Aside0.mk (Kd.C_below HUC.out hHeld)
              clear hS0 hHeld HT_ HW_ HX0 HU0 HXC HUC HGK
              go_upto_region 34 with (fail)
              have hns := HNS.out
              have hS0 : Below wb.heap.size wb wb.drew := below_drew1 (Below.refl _ _)
              refine start_ (n := 22) (S := fun w' => Below wb.heap.size wb w') (ds := []) #[false, false, false, false, false, false, false, false, false, false, false, false, false, false, false, false, false, false, false, false, false, false] (by kernel_rfl) rfl rfl (by exact hS0) (fun hHeld => ?_)
              refine with_tabW jfl_tab34 jfl_bits34 (fun HT_ HW_ => ?_)
              generalize wb.drew = wd at hHeld hS0 ⊢
              refine pure_ (i := 0) (N := some 155) (v := ?_) (a' := ?_) #[true, false, false, false, false, false, false, false, false, false, false, false, false, false, false, false, false, false, false, false, false, false] rfl rfl (any_of HT_.out (by kernel_rfl)) (fun _ _ _ h => h) (Or.inl ⟨by rfl, ?_⟩) ?_ ?_
              rotate_left
              · intro w'
                go_simp
                with_reducible rfl
              rotate_left
              · simp only [Act.put, List.setIfInBounds_toArray, List.set_cons_zero, List.set_cons_succ, i64_w, i32_w]
                rfl
              refine pure_ (i := 1) (N := some 156) (v := ?_) (a' := ?_) #[true, true, false, false, false, false, false, false, false, false, false, false, false, false, false, false, false, false, false, false, false, false] rfl rfl (any_of HT_.out (by kernel_rfl)) (fun _ _ _ h => h) (Or.inl ⟨by rfl, ?_⟩) ?_ ?_
              rotate_left
              · intro w'
                go_simp
                with_reducible rfl
              rotate_left
              · simp only [Act.put, List.setIfInBounds_toArray, List.set_cons_zero, List.set_cons_succ, i64_w, i32_w]
                rfl
              refine pure_ (i := 2) (N := some 157) (v := ?_) (a' := ?_) #[true, true, true, false, false, false, false, false, false, false, false, false, false, false, false, false, false, false, false, false, false, false] rfl rfl (any_of HT_.out (by kernel_rfl)) (fun _ _ _ h => h) (Or.inl ⟨by rfl, ?_⟩) ?_ ?_
              rotate_left
              · intro w'
                go_simp
                with_reducible rfl
              rotate_left
              · simp only [Act.put, List.setIfInBounds_toArray, List.set_cons_zero, List.set_cons_succ, i64_w, i32_w]
                rfl
              refine pure_ (i := 5) (N := some 160) (v := ?_) (a' := ?_) #[true, true, true, false, false, true, false, false, false, false, false, false, false, false, false, false, false, false, false, false, false, false] rfl rfl (any_of HT_.out (by kernel_rfl)) (fun _ _ _ h => h) (Or.inl ⟨by rfl, ?_⟩) ?_ ?_
              rotate_left
              · intro w'
                go_simp
                with_reducible rfl
              rotate_left
              · simp only [Act.put, List.setIfInBounds_toArray, List.set_cons_zero, List.set_cons_succ, i64_w, i32_w]
                rfl
              refine pure_ (i := 6) (N := some 161) (v := ?_) (a' := ?_) #[true, true, true, false, false, true, true, false, false, false, false, false, false, false, false, false, false, false, false, false, false, false] rfl rfl (any_of HT_.out (by kernel_rfl)) (fun _ _ _ h => h) (Or.inl ⟨by rfl, ?_⟩) ?_ ?_
              rotate_left
              · intro w'
                go_simp
                with_reducible rfl
              rotate_left
              · simp only [Act.put, List.setIfInBounds_toArray, List.set_cons_zero, List.set_cons_succ, i64_w, i32_w]
                rfl
              refine pure_ (i := 7) (N := some 162) (v := ?_) (a' := ?_) #[true, true, true, false, false, true, true, true, false, false, false, false, false, false, false, false, false, false, false, false, false, false] rfl rfl (any_of HT_.out (by kernel_rfl)) (fun _ _ _ h => h) (Or.inl ⟨by rfl, ?_⟩) ?_ ?_
              rotate_left
              · intro w'
                go_simp
                with_reducible rfl
              rotate_left
              · simp only [Act.put, List.setIfInBounds_toArray, List.set_cons_zero, List.set_cons_succ, i64_w, i32_w]
                rfl
              refine take_ (i := 3) (N := some 158) (v := ?_) (a' := ?_) #[true, true, true, true, false, true, true, true, false, false, false, false, false, false, false, false, false, false, false, false, false, false] rfl rfl (take_ofW HT_.out HW_.out (by kernel_rfl)) (fun _ _ _ h => h) (Or.inl ⟨by rfl, ?_⟩) hHeld ?_ ?_
              rotate_left
              · intro w' hSt
                have hx0 := cell_below HX4.out hSt
                go_simp
                with_reducible rfl
              rotate_left
              · simp only [Act.put, List.setIfInBounds_toArray, List.set_cons_zero, List.set_cons_succ, i64_w, i32_w]
                rfl
              refine take_ (i := 4) (N := some 159) (v := ?_) (a' := ?_) #[true, true, true, true, true, true, true, true, false, false, false, false, false, false, false, false, false, false, false, false, false, false] rfl rfl (take_ofW HT_.out HW_.out (by kernel_rfl)) (fun _ _ _ h => h) (Or.inl ⟨by rfl, ?_⟩) hHeld ?_ ?_
              rotate_left
              · intro w' hSt
                have hcv : (convert 22 9 (.slice AX x.length cX)).run Tryd.prog w' = .ok (.string (strOfNums x)) w' := Kd.C_string Tryd.underlying22 Tryd.underlying5 Tryd.underlying9 (Kd.C_below HXC4.out hSt)
                go_simp
                with_reducible rfl
              rotate_left
              · simp only [Act.put, List.setIfInBounds_toArray, List.set_cons_zero, List.set_cons_succ, i64_w, i32_w]
                rfl
              refine take_ (i := 8) (N := some 163) (v := ?_) (a' := ?_) #[true, true, true, true, true, true, true, true, true, false, false, false, false, false, false, false, false, false, false, false, false, false] rfl rfl (take_ofW HT_.out HW_.out (by kernel_rfl)) (fun _ _ _ h => h) (Or.inl ⟨by rfl, ?_⟩) hHeld ?_ ?_
              rotate_left
              · intro w' hSt
                have hx1 := cell_below HU4.out hSt
                go_simp
                with_reducible rfl
              rotate_left
              · simp only [Act.put, List.setIfInBounds_toArray, List.set_cons_zero, List.set_cons_succ, i64_w, i32_w]
                rfl
              refine take_ (i := 9) (N := some 164) (v := ?_) (a' := ?_) #[true, true, true, true, true, true, true, true, true, true, false, false, false, false, false, false, false, false, false, false, false, false] rfl rfl (take_ofW HT_.out HW_.out (by kernel_rfl)) (fun _ _ _ h => h) (Or.inl ⟨by rfl, ?_⟩) hHeld ?_ ?_
              rotate_left
              · intro w' hSt
                have hcv : (convert 22 9 (.slice AU u.length cU)).run Tryd.prog w' = .ok (.string (strOfNums u)) w' := Kd.C_string Tryd.underlying22 Tryd.underlying5 Tryd.underlying9 (Kd.C_below HUC4.out hSt)
                go_simp
                with_reducible rfl
              rotate_left
              · simp only [Act.put, List.setIfInBounds_toArray, List.set_cons_zero, List.set_cons_succ, i64_w, i32_w]
                rfl
              refine pure_ (i := 10) (N := some 165) (v := ?_) (a' := ?_) #[true, true, true, true, true, true, true, true, true, true, true, false, false, false, false, false, false, false, false, false, false, false] rfl rfl (any_of HT_.out (by kernel_rfl)) (fun _ _ _ h => h) (Or.inl ⟨by rfl, ?_⟩) ?_ ?_
              rotate_left
              · intro w'
                go_simp
                with_reducible rfl
              rotate_left
              · simp only [Act.put, List.setIfInBounds_toArray, List.set_cons_zero, List.set_cons_succ, i64_w, i32_w]
                rfl
              refine pure_ (i := 11) (N := some 166) (v := ?_) (a' := ?_) #[true, true, true, true, true, true, true, true, true, true, true, true, false, false, false, false, false, false, false, false, false, false] rfl rfl (any_of HT_.out (by kernel_rfl)) (fun _ _ _ h => h) (Or.inl ⟨by rfl, ?_⟩) ?_ ?_
              rotate_left
              · intro w'
                go_simp
                with_reducible rfl
              rotate_left
              · simp only [Act.put, List.setIfInBounds_toArray, List.set_cons_zero, List.set_cons_succ, i64_w, i32_w]
                rfl
              refine pure_ (i := 12) (N := some 167) (v := ?_) (a' := ?_) #[true, true, true, true, true, true, true, true, true, true, true, true, true, false, false, false, false, false, false, false, false, false] rfl rfl (any_of HT_.out (by kernel_rfl)) (fun _ _ _ h => h) (Or.inl ⟨by rfl, ?_⟩) ?_ ?_
              rotate_left
              · intro w'
                go_simp
                with_reducible rfl
              rotate_left
              · simp only [Act.put, List.setIfInBounds_toArray, List.set_cons_zero, List.set_cons_succ, i64_w, i32_w]
                rfl
              refine pure_ (i := 14) (N := some 169) (v := ?_) (a' := ?_) #[true, true, true, true, true, true, true, true, true, true, true, true, true, false, true, false, false, false, false, false, false, false] rfl rfl (any_of HT_.out (by kernel_rfl)) (fun _ _ _ h => h) (Or.inl ⟨by rfl, ?_⟩) ?_ ?_
              rotate_left
              · intro w'
                go_simp
                with_reducible rfl
              rotate_left
              · simp only [Act.put, List.setIfInBounds_toArray, List.set_cons_zero, List.set_cons_succ, i64_w, i32_w]
                rfl
              refine take_ (i := 13) (N := some 168) (v := ?_) (a' := ?_) #[true, true, true, true, true, true, true, true, true, true, true, true, true, true, true, false, false, false, false, false, false, false] rfl rfl (take_ofW HT_.out HW_.out (by kernel_rfl)) (fun _ _ _ h => h) (Or.inl ⟨by rfl, ?_⟩) hHeld ?_ ?_
              rotate_left
              · intro w' hSt
                have hcv : (convert 22 9 (.slice (some ⟨ga, 0, none⟩) 8 32)).run Tryd.prog w' = .ok (.string (strOfNums D8)) w' := Kd.C_string Tryd.underlying22 Tryd.underlying5 Tryd.underlying9 (by have h := C_cb8 (heap_keep HGA3.out hSt) HDXL.out; rwa [HE7.out] at h)
                go_simp
                with_reducible rfl
              rotate_left
              · simp only [Act.put, List.setIfInBounds_toArray, List.set_cons_zero, List.set_cons_succ, i64_w, i32_w]
                rfl
              refine take_ (i := 15) (N := some 170) (v := ?_) (a' := ?_) #[true, true, true, true, true, true, true, true, true, true, true, true, true, true, true, true, false, false, false, false, false, false] rfl rfl (take_ofW HT_.out HW_.out (by kernel_rfl)) (fun _ _ _ h => h) (Or.inl ⟨by rfl, ?_⟩) hHeld ?_ ?_
              rotate_left
              · intro w' hSt
                have hcv : (convert 22 9 (.slice (some ⟨gb, 0, none⟩) 8 32)).run Tryd.prog w' = .ok (.string (strOfNums D8)) w' := Kd.C_string Tryd.underlying22 Tryd.underlying5 Tryd.underlying9 (by have h := C_cb8 (heap_keep HGB3.out hSt) HDUL.out; rwa [HE8.out] at h)
                go_simp
                with_reducible rfl
              rotate_left
              · simp only [Act.put, List.setIfInBounds_toArray, List.set_cons_zero, List.set_cons_succ, i64_w, i32_w]
                rfl
              refine pure_ (i := 16) (N := some 171) (v := ?_) (a' := ?_) #[true, true, true, true, true, true, true, true, true, true, true, true, true, true, true, true, true, false, false, false, false, false] rfl rfl (any_of HT_.out (by kernel_rfl)) (fun _ _ _ h => h) (Or.inl ⟨by rfl, ?_⟩) ?_ ?_
              rotate_left
              · intro w'
                go_simp
                with_reducible rfl
              rotate_left
              · simp only [Act.put, List.setIfInBounds_toArray, List.set_cons_zero, List.set_cons_succ, i64_w, i32_w]
                rfl
              refine pure_ (i := 17) (N := some 172) (v := ?_) (a' := ?_) #[true, true, true, true, true, true, true, true, true, true, true, true, true, true, true, true, true, true, false, false, false, false] rfl rfl (any_of HT_.out (by kernel_rfl)) (fun _ _ _ h => h) (Or.inl ⟨by rfl, ?_⟩) ?_ ?_
              rotate_left
              · intro w'
                go_simp
                with_reducible rfl
              rotate_left
              · simp only [Act.put, List.setIfInBounds_toArray, List.set_cons_zero, List.set_cons_succ, i64_w, i32_w]
                rfl
              refine pure_ (i := 18) (N := some 173) (v := ?_) (a' := ?_) #[true, true, true, true, true, true, true, true, true, true, true, true, true, true, true, true, true, true, true, false, false, false] rfl rfl (any_of HT_.out (by kernel_rfl)) (fun _ _ _ h => h) (Or.inl ⟨by rfl, ?_⟩) ?_ ?_
              rotate_left
              · intro w'
                go_simp
                with_reducible rfl
              rotate_left
              · simp only [Act.put, List.setIfInBounds_toArray, List.set_cons_zero, List.set_cons_succ, i64_w, i32_w]
                rfl
              refine one_ (i := 19) (N := some 174) #[true, true, true, true, true, true, true, true, true, true, true, true, true, true, true, true, true, true, true, true, false, false] rfl rfl (one_of HT_.out (by kernel_rfl)) (by decide) (fun K hK => ?_)
              refine goes_ Tryd.func8 (by kernel_rfl) rfl #[] (by rfl) rfl rfl (by (try simp only [List.map_toArray, List.map_cons, List.map_nil]); first | done | rfl) ?_
              refine (known_calls _ (HTAB.out.below (below_step HBB.out hHeld))).mono ?_
              rintro e wk ⟨rfl, hb⟩
              refine ⟨_, rfl, ?_⟩
              have hS1 := below_step hHeld hb
              clear hb
              refine hK.out _ _ (by exact hS1) (fun hHeld => ?_)
              clear hK K
              refine norm_ (a' := ?_) ?_ ?_
              rotate_left
              · first
                | (show Act.put _ (some 174) _ = _; simp only [Act.put, List.setIfInBounds_toArray, List.set_cons_zero, List.set_cons_succ, i64_w, i32_w]; rfl)
                | rfl
              refine pure_ (i := 20) (N := some 175) (v := ?_) (a' := ?_) #[true, true, true, true, true, true, true, true, true, true, true, true, true, true, true, true, true, true, true, true, true, false] rfl rfl (any_of HT_.out (by kernel_rfl)) (fun _ _ _ h => h) (Or.inl ⟨by rfl, ?_⟩) ?_ ?_
              rotate_left
              · intro w'
                go_simp
                with_reducible rfl
              rotate_left
              · simp only [Act.put, List.setIfInBounds_toArray, List.set_cons_zero, List.set_cons_succ, i64_w, i32_w]
                rfl
              refine pure_ (i := 21) (N := some 8) (v := ?_) (a' := ?_) #[true, true, true, true, true, true, true, true, true, true, true, true, true, true, true, true, true, true, true, true, true, true] rfl rfl (any_of HT_.out (by kernel_rfl)) (fun _ _ _ h => h) (Or.inl ⟨by rfl, ?_⟩) ?_ ?_
              rotate_left
              · intro w'
                go_simp
                with_reducible rfl
              rotate_left
              · simp only [Act.put, List.setIfInBounds_toArray, List.set_cons_zero, List.set_cons_succ, i64_w, i32_w]
                rfl
              refine done_ (done_of HT_.out (by kernel_rfl)) ?_
              have HBL9 := Aside0.mk (below_step HBB.out hHeld)
              clear hS0 hHeld HT_ HW_
              go_wp2
              go_ret
              exact ⟨rfl, HBL9.out⟩
theorem flip_walk (a0 : Option Addr) (c0 : Nat) (x0 : List (List Int)) (a1 : Int) (a2 : Int) (a3 : Int) (w : World) (hT : Tab w) (C0 : Kd.C KB w a0 x0.length x0) (l0 : x0.length ≤ c0) (k0 : ∀ l ∈ x0, ∀ x ∈ l, (Lit.int .u8 x).wf = true) (k1 : (Lit.int .i64 a1).wf = true) (k2 : (Lit.int .i64 a2).wf = true) (k3 : (Lit.int .u8 a3).wf = true) :
    Calls Tryd.prog 7 #[.slice a0 x0.length c0, .int .i64 a1, .int .i64 a2, .int .u8 a3] w fun e w' => e = .returned (.bool true) ∧ Below w.heap.size w w' :=
  flip_calls a0 c0 x0 a1 a2 a3 w C0 l0 (fun x hx => wf_bys (k0 x hx)) (by have := k3; simp [Lit.wf, IntKind.min, IntKind.max, IntKind.signed, IntKind.bits] at this; omega) hT
end Go.Proofs.YtebjibkgefgalaaDoor.Jr
