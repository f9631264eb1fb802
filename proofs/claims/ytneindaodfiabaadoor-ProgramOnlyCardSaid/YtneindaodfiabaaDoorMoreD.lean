/- What calls of Go functions of this seat come to, as the rows need it: under the conditions that each theorem names. -/
import Derived.Test.YtneindaodfiabaaDoorMoreC
import Derived.Test.YtneindaodfiabaaDoorIOpen
namespace Go.Proofs.YtneindaodfiabaaDoor.Prog6
open Go.RowKit Go.Proofs.YtneindaodfiabaaDoorW.PrintWords Go.Proofs.YtneindaodfiabaaDoorW.PrintLast Go.Proofs.YtneindaodfiabaaDoorW.PrintMore
set_option linter.unusedVariables false
set_option linter.unusedSimpArgs false
set_option maxHeartbeats 400000 in
set_option maxRecDepth 100000 in
theorem more_calls (A : Option Addr) (c : Nat) (xs : List Ins) (x : Int) (w : World) (hr : KP.C w A xs.length xs) (hc : xs.length ≤ c) (hT : Tab w) (hx : ∀ x ∈ xs, szOk x) :
    Calls Tryd.prog 3 #[.slice A xs.length c, .int .i64 x] w fun e w' => e = .returned (.bool true) ∧ Below w.heap.size w w' := by
  have HR := Aside0.mk hr
  have HTAB := Aside0.mk hT
  have HSZ := Aside0.mk hx
  have hl63 : xs.length ≤ 9223372036854775807 := hr.2.1
  clear hr hT hx
  go_enter Tryd.func3, Tryd.ntmps3
  go_wp2_with fail
  refine (great_calls A c xs w HR.out hc).mono ?_
  rintro e w1 ⟨z, rfl, hz, hb⟩
  have HB := Aside0.mk hb
  have HZ := Aside0.mk hz
  clear hb hz
  cases z with
  | true =>
    clear HZ
    go_wp2_with fail
    refine (known_calls _ (HTAB.out.below HB.out)).mono ?_
    rintro e w2 ⟨rfl, hb⟩
    go_wp2
    go_ret
    exact ⟨rfl, below_step HB.out hb⟩
  | false =>
  have hl60 := HZ.out rfl
  clear HZ
  go_wp2_with fail
  refine (may_calls A c xs _ (Kd.C_below HR.out HB.out) hc (HTAB.out.below HB.out) HSZ.out).mono ?_
  rintro e w2 ⟨rfl, hb⟩
  replace HB := Aside0.mk (below_step HB.out hb)
  clear hb
  cases hm : mayP xs with
  | false =>
    clear hm
    go_wp2_with fail
    refine (known_calls _ (HTAB.out.below HB.out)).mono ?_
    rintro e w3 ⟨rfl, hb⟩
    go_wp2
    go_ret
    exact ⟨rfl, below_step HB.out hb⟩
  | true =>
  have HM := Aside0.mk hm
  clear hm
  go_upto_region 3 with (fail)
  go_wp2_with (first | ((with_reducible refine gate_dst (N := 18) rfl ?_); refine Kd.R_lit KP (w0 := w2) w2.heap.size 26 ?hg (N := 18) ?hd (xs := ([] : List Ins)) (inner := []) (ok := fun _ => True) (okp := fun _ => True) ?hr ?hp (fun _ hk => hk) trivial (Below.refl _ _) (Nat.le_refl _) (by simp) ?_; (case hd => rfl); (case hg => rfl); (case hr => first | (go_simp; done) | (go_simp; rfl)); (case hp => exact Reps.none _ _); intro v1 w5 ho hb1 hg hnew; have HO := Aside0.mk ho; have HB1 := Aside0.mk hb1; clear ho hb1 hg hnew) | ((with_reducible refine gate_builtin (b := .append) (xs := #[.tmp 18, .tmp 19]) rfl ?_); at_builtin; refine Kd.R_append_rows KP (w0 := w2) w2.heap.size rfl (.tmp 18) (.tmp 19) 22 26 (.agg #[.int .u8 0, .string ⟨#[]⟩, .string ⟨#[]⟩, .string ⟨#[]⟩, .int .i64 0, .int .i64 0]) 72 rfl Tryd.underlying22 infoP rfl (by decide) (by omega) _ [] xs _ _ _ (fun _ => True) (fun _ => False) rfl rfl HO.out (Kd.C_below HR.out (below_step HB.out HB1.out)) (fun _ _ h => h) (fun _ h => h.elim) (fun _ _ => trivial) HB1.out HB1.out.size ?aL ?_; (case aL => simp; omega); intro v2 w6 ho hb2 _ _; rw [List.nil_append] at ho; have HO2 := Aside0.mk ho; have HB2 := Aside0.mk hb2; clear ho hb2) | ((with_reducible refine gate_builtin (b := .append) (xs := #[.tmp 20, .tmp 25]) rfl ?_); at_builtin; refine Kd.R_append_rows KP (w0 := w2) w2.heap.size rfl (.tmp 20) (.tmp 25) 22 26 (.agg #[.int .u8 0, .string ⟨#[]⟩, .string ⟨#[]⟩, .string ⟨#[]⟩, .int .i64 0, .int .i64 0]) 72 rfl Tryd.underlying22 infoP rfl (by decide) (by omega) _ xs [insF, insJ xs.length] _ _ _ (fun _ => True) (fun _ => False) rfl rfl (by (with_reducible repeat (first | apply Kd.R_alloc | apply Kd.R_drewN | apply Kd.R_drew)); exact HO2.out) (C_twoP w6 xs.length) (fun _ _ h => h) (fun _ h => h.elim) (fun _ _ => trivial) (HB2.out.alloc HB2.out.size _) (HB2.out.alloc HB2.out.size _).size ?aL ?_; (case aL => omega); intro v3 w7 ho hb2 _ _; have HO3 := Aside0.mk ho; have HB3 := Aside0.mk hb2; clear ho hb2))
  clear HO HO2 HB1 HB2
  have HMV := Aside0.mk (more_may xs HM.out)
  have hl30 : xs.length ≤ 30 := by have h := HM.out; unfold mayP at h; rw [Bool.and_eq_true, decide_eq_true_eq] at h; exact h.1
  obtain ⟨A2, c2, rfl, hc2, hr2⟩ := Kd.R_reads HO3.out
  have HR2 := Aside0.mk hr2
  have HSZ2 := Aside0.mk (show ∀ x ∈ xs ++ [insF, insJ xs.length], szOk x by
    intro x hx
    rcases List.mem_append.1 hx with h | h
    · exact HSZ.out x h
    · simp only [List.mem_cons, List.not_mem_nil, or_false] at h
      rcases h with rfl | rfl <;> exact ⟨by simp [insF, insJ, ByteArray.size], by simp [insF, insJ, ByteArray.size], by simp [insF, insJ, ByteArray.size]⟩)
  have hyl : (xs ++ [insF, insJ xs.length]).length = xs.length + 2 := by simp
  replace HB := Aside0.mk (below_step HB.out HB3.out)
  clear HO3 hr2 HB3
  generalize xs ++ [insF, insJ xs.length] = ys at HMV HR2 HSZ2 hc2 hyl ⊢
  refine (may_calls A2 c2 ys _ HR2.out hc2 (HTAB.out.below HB.out) HSZ2.out).mono ?_
  rintro e w8 ⟨rfl, hb⟩
  rw [HMV.out]
  replace HB := Aside0.mk (below_step HB.out hb)
  have hy63 : ys.length ≤ 9223372036854775807 := by omega
  clear hb HR2 HSZ2 HMV
  have hz2 : decide ((ys.length : Int) ≤ 30) = decide (ys.length ≤ 30) := by rw [decide_eq_decide]; omega
  have hz3 : decide ((30 : Int) ≥ (ys.length : Int)) = decide (ys.length ≤ 30) := by rw [decide_eq_decide]; omega
  generalize decide (ys.length ≤ 30) = z at hz2 hz3 ⊢
  clear hyl
  go_upto_region 6 with (fail)
  clear hz2 hz3 hy63 hc2
  go_cut [6] (fun v wc => ∃ kk, kk ≤ xs.length ∧ v = .int .i64 kk ∧ wc = w8)
  case first =>
    go_wp2
    obtain ⟨kk, hkk, e⟩ := mod_nat x (xs.length + 1) (by omega) (by omega)
    have e2 : ((xs.length : Int) + 1) = ((xs.length + 1 : Nat) : Int) := by omega
    rw [e2, e]
    go_meet
    case rel => exact ⟨kk, by omega, rfl, rfl⟩
  case rest =>
    obtain ⟨kk, hkk, rfl, rfl⟩ := hcut
    have hkc : kk ≤ c := by omega
    have HCM := Aside0.mk (cut_may xs kk hkk HM.out)
    have hl2 : (xs.take kk).length = kk := by rw [List.length_take]; omega
    have hk63 : kk ≤ 9223372036854775807 := by omega
    go_wp2
    go_loopw [45, 7] (fun i v wr => ∃ m : Nat, m ≤ kk ∧ i = .int .i64 m ∧ v = .bool ((xs.take m).any fun x => isJ x && decide (x.2.2.2.2.1 > (kk : Int))) ∧ Aside0 (Below w.heap.size w wr)) (fun i _ _ => kk - (intOf i).toNat)
    case atStart => exact ⟨0, Nat.zero_le _, rfl, rfl, HB⟩
    case round =>
      clear HB
      obtain ⟨m, hm, rfl, rfl, HB⟩ := hrel
      by_cases hlt : m < kk
      · have hmx : m < xs.length := by omega
        obtain ⟨ad, rfl, x0, x1, x2, x3, x4, x5⟩ := row_cp (Kd.C_below HR.out HB.out) m hmx xs[m] (List.getElem?_eq_getElem hmx)
        have HTK := Aside0.mk (List.take_succ_eq_append_getElem hmx)
        have HA := Aside0.mk (show ((xs.take (m + 1)).any fun x => isJ x && decide (x.2.2.2.2.1 > (kk : Int))) = (((xs.take m).any fun x => isJ x && decide (x.2.2.2.2.1 > (kk : Int))) || (isJ xs[m] && decide (xs[m].2.2.2.2.1 > (kk : Int)))) by rw [HTK.out, List.any_append]; simp)
        generalize xs[m] = y at x0 x1 x2 x3 x4 x5 HTK HA
        clear HTK
        generalize hga : ((xs.take m).any fun x => isJ x && decide (x.2.2.2.2.1 > (kk : Int))) = j0 at HA ⊢
        clear hga x1 x2 x3 x5
        go_upto_region 11 with (fail)
        go_cut [9] (fun v wc => v = .bool (isJ y) ∧ wc = wr)
        case first =>
          by_cases h8 : y.1 = 8
          · have HJ := Aside0.mk (show isJ y = true by simp [isJ, h8])
            rw [h8] at x0
            clear h8
            go_wp2
            go_meet
            case rel => exact ⟨by rw [HJ.out], rfl⟩
          by_cases h9 : y.1 = 9
          · have HJ := Aside0.mk (show isJ y = true by simp [isJ, h9])
            rw [h9] at x0
            clear h9 h8
            go_wp2
            go_meet
            case rel => exact ⟨by rw [HJ.out], rfl⟩
          by_cases h10 : y.1 = 10
          · have HJ := Aside0.mk (show isJ y = true by simp [isJ, h10])
            rw [h10] at x0
            clear h10 h9 h8
            go_wp2
            go_meet
            case rel => exact ⟨by rw [HJ.out], rfl⟩
          have HJ := Aside0.mk (show isJ y = false by simp [isJ, h8, h9, h10])
          have g8 : decide (y.1 = 8) = false := decide_eq_false h8
          have g9 : decide (y.1 = 9) = false := decide_eq_false h9
          have g10 : decide (y.1 = 10) = false := decide_eq_false h10
          have b8 : (y.1 == 8) = false := by simp [h8]
          have b9 : (y.1 == 9) = false := by simp [h9]
          have b10 : (y.1 == 10) = false := by simp [h10]
          go_wp2
          go_meet
          case rel => exact ⟨by rw [HJ.out], rfl⟩
        case rest =>
          obtain ⟨rfl, rfl⟩ := hcut
          cases j0 with
          | true =>
            go_wp2
            go_roundw
            case rel => exact ⟨m + 1, by omega, by go_num, by rw [HA.out]; rfl, HB⟩
            case measure => simp [intOf]; omega
          | false =>
            generalize isJ y = jy at HA ⊢
            cases jy with
            | false =>
              go_wp2
              go_roundw
              case rel => exact ⟨m + 1, by omega, by go_num, by rw [HA.out]; rfl, HB⟩
              case measure => simp [intOf]; omega
            | true =>
              go_wp2
              go_roundw
              case rel => exact ⟨m + 1, by omega, by go_num, by rw [HA.out]; simp, HB⟩
              case measure => simp [intOf]; omega
      · obtain rfl : m = kk := by omega
        clear hlt hm
        go_wp2_with fail
        have HMC := may_calls A c (xs.take m) wr (C_takeP (Kd.C_below HR.out HB.out) m hkk) (by omega) (HTAB.out.below HB.out) (fun y hy => HSZ.out y (List.mem_of_mem_take hy))
        rw [hl2] at HMC
        refine HMC.mono ?_
        clear HMC
        rintro e w9 ⟨rfl, hb⟩
        rw [HCM.out]
        replace HB := Aside0.mk (below_step HB.out hb)
        clear hb
        go_wp2_with fail
        refine (known_calls _ (HTAB.out.below HB.out)).mono ?_
        rintro e w10 ⟨rfl, hb⟩
        go_wp2
        go_ret
        exact ⟨rfl, below_step HB.out hb⟩
theorem more_walk (a0 : Option Addr) (c0 : Nat) (x0 : List Ins) (a1 : Int) (w : World) (hT : Tab w) (C0 : KP.C w a0 x0.length x0) (l0 : x0.length ≤ c0) (k0 : ∀ x ∈ x0, Open.okI x) (k1 : (Lit.int .i64 a1).wf = true) :
    Calls Tryd.prog 3 #[.slice a0 x0.length c0, .int .i64 a1] w fun e w' => e = .returned (.bool true) ∧ Below w.heap.size w w' :=
  more_calls a0 c0 x0 a1 w C0 l0 hT (fun x hx => (k0 x hx).sz)
end Go.Proofs.YtneindaodfiabaaDoor.Prog6
