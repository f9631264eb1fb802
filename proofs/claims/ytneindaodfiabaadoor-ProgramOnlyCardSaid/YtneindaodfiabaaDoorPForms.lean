/- What calls of Go functions of this seat come to, as the rows need it: under the conditions that each theorem names. -/
import Derived.Test.YtneindaodfiabaaDoorRPB
import Derived.Test.YtneindaodfiabaaDoorPSame
import Derived.Test.YtneindaodfiabaaDoorRRead
import Derived.Test.YtneindaodfiabaaDoorMoreD
namespace Go.Proofs.YtneindaodfiabaaDoor.Prog6
open Go.RowKit Go.Proofs.YtneindaodfiabaaDoorW.PrintWords Go.Proofs.YtneindaodfiabaaDoorW.PrintLast Go.Proofs.YtneindaodfiabaaDoorW.PrintMore
set_option linter.unusedVariables false
set_option linter.unusedSimpArgs false
theorem may_sz {p : List Ins} (h : mayP p = true) : ∀ x ∈ p, szOk x := fun x hx => by
  obtain ⟨_, a, b, c, _⟩ := (may_ok h).2 x hx
  exact ⟨by omega, by omega, by omega⟩
def pfm_T10 : Bool × List (List Nat × List Nat) := (true, [([], []), ([0], [0]), ([1], [1]), ([2], [2]), ([3, 2], [2, 3]), ([2, 4], [2, 4]), ([5, 2], [5]), ([6], [6]), ([7, 6], [6, 7]), ([6], [6]), ([9, 6, 6], [6, 9]), ([10, 6], [6, 10]), ([8, 11, 6], [6, 8, 11]), ([6, 12], [6, 12]), ([13, 10], [13]), ([14], [14]), ([14], [14]), ([15, 16, 14, 14], [14, 15, 16]), ([14, 17], [14, 17]), ([18, 17], [18]), ([19, 19], [19]), ([19, 20], [19, 20]), ([21, 20, 0, 1, 2, 3, 4, 5, 6, 7, 8, 9, 10, 11, 12, 13, 14, 15, 16, 17, 18, 19, 20, 21], [21])])
def pfm_B10 : List Nat := [0, 1, 3, 7, 15, 31, 63, 127, 255, 127, 639, 1663, 4095, 8191, 16383, 32767, 32767, 131071, 262143, 524287, 1048575, 2097151, 4194303]
theorem pfm_tab10 : rtab .any (opsOf Tryd.f5 10) = pfm_T10 := by kernel_rfl
theorem pfm_bits10 : waitsOk pfm_T10.2 pfm_B10 = true := by kernel_rfl
set_option maxHeartbeats 3200000 in
set_option maxRecDepth 100000 in
theorem forms_calls (A B : Option Addr) (c d : Nat) (p q : List Ins) (w : World) (hp : KP.C w A p.length p) (hq : KP.C w B q.length q) (hc : p.length ≤ c) (hd : q.length ≤ d) (hT : Tab w) (hx : ∀ x ∈ p, szOk x) :
    Calls Tryd.prog 5 #[.slice A p.length c, .slice B q.length d] w fun e w' => e = .returned (.bool true) ∧ Below w.heap.size w w' := by
  have HP := Aside0.mk hp
  have HQ := Aside0.mk hq
  have HTAB := Aside0.mk hT
  have HSZ := Aside0.mk hx
  have hp63 : p.length ≤ 9223372036854775807 := hp.2.1
  have hq63 : q.length ≤ 9223372036854775807 := hq.2.1
  clear hp hq hT hx
  go_enter Tryd.func5, Tryd.ntmps5
  go_wp2_with fail
  refine (great_calls A c p w HP.out hc).mono ?_
  rintro e w1 ⟨z, rfl, hz, hb⟩
  have HB := Aside0.mk hb
  have HZ := Aside0.mk hz
  clear hb hz
  cases z with
  | true =>
    clear HZ
    go_wp2_with fail
    refine (known_calls _ (HTAB.out.below HB.out)).mono ?_
    rintro e w2 ⟨rfl, hb⟩
    go_wp2
    go_ret
    exact ⟨rfl, below_step HB.out hb⟩
  | false =>
  have hl60 := HZ.out rfl
  clear HZ
  go_wp2_with fail
  refine (great_calls B d q _ (Kd.C_below HQ.out HB.out) hd).mono ?_
  rintro e w2 ⟨z, rfl, hz, hb⟩
  replace HB := Aside0.mk (below_step HB.out hb)
  clear hb hz
  cases z with
  | true =>
    go_wp2_with fail
    refine (known_calls _ (HTAB.out.below HB.out)).mono ?_
    rintro e w2 ⟨rfl, hb⟩
    go_wp2
    go_ret
    exact ⟨rfl, below_step HB.out hb⟩
  | false =>
  go_upto_region 4 with (first | ((with_reducible refine gate_dst (N := 17) rfl ?_); refine Kd.R_lit KP (w0 := w) w.heap.size 26 ?hg (N := 17) ?hd (xs := ([] : List Ins)) (inner := []) (ok := fun _ => True) (okp := fun _ => True) ?hr ?hp (fun _ hk => hk) trivial HB.out HB.out.size (by simp) ?_; (case hd => rfl); (case hg => rfl); (case hr => first | (go_simp; done) | (go_simp; rfl)); (case hp => exact Reps.none _ _); intro v1 w5 ho hb1 hg hnew; have HO := Aside0.mk ho; have HB1 := Aside0.mk hb1; have HPB := Aside0.mk (Kd.C_below HP.out hb1); clear ho hb1 hg hnew) | ((with_reducible refine gate_builtin (b := .append) (xs := #[.tmp 17, .tmp 18]) rfl ?_); at_builtin; refine Kd.R_append_rows KP (w0 := w) w.heap.size rfl (.tmp 17) (.tmp 18) 22 26 (.agg #[.int .u8 0, .string ⟨#[]⟩, .string ⟨#[]⟩, .string ⟨#[]⟩, .int .i64 0, .int .i64 0]) 72 rfl Tryd.underlying22 infoP rfl (by decide) (by omega) _ [] p _ _ _ (fun _ => True) (fun _ => False) rfl rfl HO.out HPB.out (fun _ _ h => h) (fun _ h => h.elim) (fun _ _ => trivial) HB1.out HB1.out.size ?aL ?_; (case aL => simp; omega); intro v2 w6 ho hb2 _ _; rw [List.nil_append] at ho; have HO2 := Aside0.mk ho; have HB2 := Aside0.mk hb2; clear ho hb2))
  clear HO HB1 HPB HB
  obtain ⟨A2, c2, rfl, hc2, hr2⟩ := Kd.R_reads HO2.out
  have HR2 := Aside0.mk hr2
  clear hr2 HO2
  go_wp2_with fail
  refine (pbytes_calls A2 c2 p _ HR2.out hc2 (HTAB.out.below HB2.out) HSZ.out).mono ?_
  rintro e w3 ⟨bv, er, rfl, hn, hs, hb⟩
  have HN := Aside0.mk hn
  have HS := Aside0.mk hs
  have HB23 := Aside0.mk hb
  have HB3 := Aside0.mk (below_step HB2.out hb)
  clear hn hs hb HB2
  have HE := Aside0.mk (show (er = 2 ∨ er = 0) by cases hm : mayP p with | false => exact .inl (HN.out hm).1 | true => exact .inr (HS.out hm).1)
  go_wp2_with fail
  refine (may_calls A2 c2 p _ (Kd.C_below HR2.out HB23.out) hc2 (HTAB.out.below HB3.out) HSZ.out).mono ?_
  rintro e w4 ⟨rfl, hb⟩
  have HB34 := Aside0.mk hb
  replace HB3 := Aside0.mk (below_step HB3.out hb)
  clear hb
  go_wp2_with fail
  refine (rmay_calls A c p _ (Kd.C_below HP.out HB3.out) hc HSZ.out).mono ?_
  rintro e w5 ⟨rfl, hb⟩
  have HB45 := Aside0.mk hb
  replace HB3 := Aside0.mk (below_step HB3.out hb)
  clear hb
  obtain ⟨m, hm⟩ : ∃ m, m = mayP p := ⟨_, rfl⟩
  rw [← hm]
  have HM0 := Aside0.mk hm
  clear hm
  have hmm : (m != m) = false := by cases m <;> rfl
  go_wp2_with fail
  refine (psame_calls A2 B c2 d p q _ (Kd.C_below (Kd.C_below (Kd.C_below HR2.out HB23.out) HB34.out) HB45.out) (Kd.C_below HQ.out HB3.out) hc2 hd).mono ?_
  rintro e w6 ⟨rfl, hb⟩
  have HB56 := Aside0.mk hb
  replace HB3 := Aside0.mk (below_step HB3.out hb)
  clear hb hmm
  generalize hz : decide (p = q) = z
  have HZ := Aside0.mk hz
  clear hz
  go_wp2_with fail
  refine (rsame_calls A B c d p q _ (Kd.C_below HP.out HB3.out) (Kd.C_below HQ.out HB3.out) hc hd).mono ?_
  rintro e w7 ⟨rfl, hb⟩
  have HB67 := Aside0.mk hb
  replace HB3 := Aside0.mk (below_step HB3.out hb)
  clear hb
  rw [HZ.out]
  have hzz : (z != z) = false := by cases z <;> rfl
  go_wp2_with fail
  refine (rsame_calls A2 A c2 c p p _ (Kd.C_below (Kd.C_below (Kd.C_below (Kd.C_below (Kd.C_below HR2.out HB23.out) HB34.out) HB45.out) HB56.out) HB67.out) (Kd.C_below HP.out HB3.out) hc2 hc).mono ?_
  rintro e w8 ⟨rfl, hb⟩
  rw [show decide (p = p) = true from decide_eq_true rfl]
  have HB78 := Aside0.mk hb
  replace HB3 := Aside0.mk (below_step HB3.out hb)
  clear hb HZ hzz HR2
  go_wp2_with fail
  refine (rmay_calls A c p _ (Kd.C_below HP.out HB3.out) hc HSZ.out).mono ?_
  rintro e w9 ⟨rfl, hb⟩
  have HB89 := Aside0.mk hb
  replace HB3 := Aside0.mk (below_step HB3.out hb)
  clear hb
  rw [← HM0.out]
  cases m with
  | false =>
    obtain ⟨rfl, rfl⟩ := HN.out HM0.out.symm
    clear HS HN HE
    go_wp2_with fail
    refine (known_calls _ (HTAB.out.below HB3.out)).mono ?_
    rintro e w10 ⟨rfl, hb⟩
    go_wp2
    go_ret
    exact ⟨rfl, below_step HB3.out hb⟩
  | true =>
  have HM := Aside0.mk HM0.out.symm
  obtain ⟨rfl, hbr⟩ := HS.out HM.out
  obtain ⟨A6, c6, rfl, hc6, hr6⟩ := Kd.R_reads hbr
  have HC6 := Aside0.mk (Kd.C_below (Kd.C_below (Kd.C_below (Kd.C_below (Kd.C_below (Kd.C_below hr6 HB34.out) HB45.out) HB56.out) HB67.out) HB78.out) HB89.out)
  obtain ⟨hpb, hpl⟩ := progB_bytes HM.out
  have HPB := Aside0.mk hpb
  have HPL := Aside0.mk hpl
  clear HS HN HE hbr hr6 HM0 HB23 HB34 HB45 HB56 HB67 HB78 HB89 hpb hpl
  have hpl63 : (progB p).length ≤ 9223372036854775807 := by have := HPL.out; omega
  go_wp2_with fail
  refine (read_calls A6 c6 (progB p) _ HC6.out hc6 HPB.out (by have := HPL.out; omega) (HTAB.out.below HB3.out)).mono ?_
  rintro e w10 ⟨xv, fr, rfl, _, hs, hb⟩
  have hrp := readP_prog p [] HM.out
  rw [List.append_nil, if_pos rfl] at hrp
  obtain ⟨rfl, hxr⟩ := hs p hrp
  obtain ⟨A8, c8, rfl, hc8, hr8⟩ := Kd.R_reads hxr
  have HC8 := Aside0.mk hr8
  replace HC6 := Aside0.mk (Kd.C_below HC6.out hb)
  replace HB3 := Aside0.mk (below_step HB3.out hb)
  clear hs hb hrp hxr hr8
  have HP9 := Aside0.mk (Kd.C_below HP.out HB3.out)
  have HT9 := Aside0.mk (HTAB.out.below HB3.out)
  have HPP := Aside0.mk (show decide (p = p) = true from decide_eq_true rfl)
  go_upto_region 10 with (fail)
  have hS0 : Below w10.heap.size w10 w10.drew := below_drew1 (Below.refl _ _)
  refine start_ (n := 23) (S := fun w' => Below w10.heap.size w10 w') (ds := []) #[false, false, false, false, false, false, false, false, false, false, false, false, false, false, false, false, false, false, false, false, false, false, false] (by kernel_rfl) rfl rfl (by exact hS0) (fun hHeld => ?_)
  refine with_tabW pfm_tab10 pfm_bits10 (fun HT_ HW_ => ?_)
  refine pure_ (i := 0) (N := some 63) (v := ?_) (a' := ?_) #[true, false, false, false, false, false, false, false, false, false, false, false, false, false, false, false, false, false, false, false, false, false, false] rfl rfl (any_of HT_.out (by kernel_rfl)) (fun _ _ _ h => h) (Or.inl ⟨by rfl, ?_⟩) ?_ ?_
  rotate_left
  · intro w'
    go_simp
    with_reducible rfl
  rotate_left
  · simp only [Act.put, List.setIfInBounds_toArray, List.set_cons_zero, List.set_cons_succ, i64_w, i32_w]
    rfl
  refine pure_ (i := 1) (N := some 64) (v := ?_) (a' := ?_) #[true, true, false, false, false, false, false, false, false, false, false, false, false, false, false, false, false, false, false, false, false, false, false] rfl rfl (any_of HT_.out (by kernel_rfl)) (fun _ _ _ h => h) (Or.inl ⟨by rfl, ?_⟩) ?_ ?_
  rotate_left
  · intro w'
    go_simp
    with_reducible rfl
  rotate_left
  · simp only [Act.put, List.setIfInBounds_toArray, List.set_cons_zero, List.set_cons_succ, i64_w, i32_w]
    rfl
  refine pure_ (i := 2) (N := some 65) (v := ?_) (a' := ?_) #[true, true, true, false, false, false, false, false, false, false, false, false, false, false, false, false, false, false, false, false, false, false, false] rfl rfl (any_of HT_.out (by kernel_rfl)) (fun _ _ _ h => h) (Or.inl ⟨by rfl, ?_⟩) ?_ ?_
  rotate_left
  · intro w'
    go_simp
    with_reducible rfl
  rotate_left
  · simp only [Act.put, List.setIfInBounds_toArray, List.set_cons_zero, List.set_cons_succ, i64_w, i32_w]
    rfl
  refine pure_ (i := 3) (N := some 66) (v := ?_) (a' := ?_) #[true, true, true, true, false, false, false, false, false, false, false, false, false, false, false, false, false, false, false, false, false, false, false] rfl rfl (any_of HT_.out (by kernel_rfl)) (fun _ _ _ h => h) (Or.inl ⟨by rfl, ?_⟩) ?_ ?_
  rotate_left
  · intro w'
    go_simp
    with_reducible rfl
  rotate_left
  · simp only [Act.put, List.setIfInBounds_toArray, List.set_cons_zero, List.set_cons_succ, i64_w, i32_w]
    rfl
  refine pure_ (i := 4) (N := some 67) (v := ?_) (a' := ?_) #[true, true, true, true, true, false, false, false, false, false, false, false, false, false, false, false, false, false, false, false, false, false, false] rfl rfl (any_of HT_.out (by kernel_rfl)) (fun _ _ _ h => h) (Or.inl ⟨by rfl, ?_⟩) ?_ ?_
  rotate_left
  · intro w'
    go_simp
    with_reducible rfl
  rotate_left
  · simp only [Act.put, List.setIfInBounds_toArray, List.set_cons_zero, List.set_cons_succ, i64_w, i32_w]
    rfl
  refine pure_ (i := 5) (N := some 68) (v := ?_) (a' := ?_) #[true, true, true, true, true, true, false, false, false, false, false, false, false, false, false, false, false, false, false, false, false, false, false] rfl rfl (any_of HT_.out (by kernel_rfl)) (fun _ _ _ h => h) (Or.inl ⟨by rfl, ?_⟩) ?_ ?_
  rotate_left
  · intro w'
    go_simp
    with_reducible rfl
  rotate_left
  · simp only [Act.put, List.setIfInBounds_toArray, List.set_cons_zero, List.set_cons_succ, i64_w, i32_w]
    rfl
  refine pure_ (i := 6) (N := some 69) (v := ?_) (a' := ?_) #[true, true, true, true, true, true, true, false, false, false, false, false, false, false, false, false, false, false, false, false, false, false, false] rfl rfl (any_of HT_.out (by kernel_rfl)) (fun _ _ _ h => h) (Or.inl ⟨by rfl, ?_⟩) ?_ ?_
  rotate_left
  · intro w'
    go_simp
    with_reducible rfl
  rotate_left
  · simp only [Act.put, List.setIfInBounds_toArray, List.set_cons_zero, List.set_cons_succ, i64_w, i32_w]
    rfl
  refine pure_ (i := 7) (N := some 70) (v := ?_) (a' := ?_) #[true, true, true, true, true, true, true, true, false, false, false, false, false, false, false, false, false, false, false, false, false, false, false] rfl rfl (any_of HT_.out (by kernel_rfl)) (fun _ _ _ h => h) (Or.inl ⟨by rfl, ?_⟩) ?_ ?_
  rotate_left
  · intro w'
    go_simp
    with_reducible rfl
  rotate_left
  · simp only [Act.put, List.setIfInBounds_toArray, List.set_cons_zero, List.set_cons_succ, i64_w, i32_w]
    rfl
  refine pure_ (i := 9) (N := some 72) (v := ?_) (a' := ?_) #[true, true, true, true, true, true, true, true, false, true, false, false, false, false, false, false, false, false, false, false, false, false, false] rfl rfl (any_of HT_.out (by kernel_rfl)) (fun _ _ _ h => h) (Or.inl ⟨by rfl, ?_⟩) ?_ ?_
  rotate_left
  · intro w'
    go_simp
    with_reducible rfl
  rotate_left
  · simp only [Act.put, List.setIfInBounds_toArray, List.set_cons_zero, List.set_cons_succ, i64_w, i32_w]
    rfl
  refine take_ (i := 8) (N := some 71) (v := ?_) (a' := ?_) #[true, true, true, true, true, true, true, true, true, true, false, false, false, false, false, false, false, false, false, false, false, false, false] rfl rfl (take_ofW HT_.out HW_.out (by kernel_rfl)) (fun _ _ _ h => h) (Or.inl ⟨by rfl, ?_⟩) hHeld ?_ ?_
  rotate_left
  · intro w' hSt
    have h8 : (convert 29 9 (.slice A6 (progB p).length c6)).run Tryd.prog w' = .ok (.string (strOfNums (progB p))) w' := Kd.C_string Tryd.underlying29 Tryd.underlying5 Tryd.underlying9 (Kd.C_below HC6.out hSt)
    go_simp
    with_reducible rfl
  rotate_left
  · simp only [Act.put, List.setIfInBounds_toArray, List.set_cons_zero, List.set_cons_succ, i64_w, i32_w]
    rfl
  refine one_ (i := 10) (N := some 73) #[true, true, true, true, true, true, true, true, true, true, true, false, false, false, false, false, false, false, false, false, false, false, false] rfl rfl (one_of HT_.out (by kernel_rfl)) (by decide) (fun K hK => ?_)
  refine goes_ Tryd.func16 (by kernel_rfl) rfl #[.slice A p.length c] (by rfl) rfl rfl (by (try simp only [List.map_toArray, List.map_cons, List.map_nil]); first | done | rfl) ?_
  refine (rpbytes_calls A c p _ (Kd.C_below HP9.out hHeld) hc HM.out).mono ?_
  rintro e w7 ⟨v7, rfl, ho, hb⟩
  refine ⟨_, rfl, ?_⟩
  have hS1 := below_step hHeld hb
  have HB7 := Aside0.mk hS1
  obtain ⟨A7, c7, rfl, hc7, hr7⟩ := Kd.R_reads ho
  have HC7 := Aside0.mk hr7
  clear ho hb hr7
  refine hK.out _ _ (by exact hS1) (fun hHeld => ?_)
  clear hK K
  refine norm_ (a' := ?_) ?_ ?_
  rotate_left
  · first
    | (show Act.put _ (some 73) _ = _; simp only [Act.put, List.setIfInBounds_toArray, List.set_cons_zero, List.set_cons_succ, i64_w, i32_w]; rfl)
    | rfl
  refine one_ (i := 11) (N := some 74) #[true, true, true, true, true, true, true, true, true, true, true, true, false, false, false, false, false, false, false, false, false, false, false] rfl rfl (one_of HT_.out (by kernel_rfl)) (by decide) (fun K hK => ?_)
  refine value_ (v := .string (strOfNums (progB p))) (w1 := w7) (by rfl) rfl ?_ ?_
  · have h8 : (convert 29 9 (.slice A7 (progB p).length c7)).run Tryd.prog w7 = .ok (.string (strOfNums (progB p))) w7 := Kd.C_string Tryd.underlying29 Tryd.underlying5 Tryd.underlying9 HC7.out
    go_simp
  have hS1 := HB7.out
  refine hK.out _ _ (by exact hS1) (fun hHeld => ?_)
  clear hK K
  refine norm_ (a' := ?_) ?_ ?_
  rotate_left
  · first
    | (show Act.put _ (some 74) _ = _; simp only [Act.put, List.setIfInBounds_toArray, List.set_cons_zero, List.set_cons_succ, i64_w, i32_w]; rfl)
    | rfl
  refine pure_ (i := 12) (N := some 75) (v := ?_) (a' := ?_) #[true, true, true, true, true, true, true, true, true, true, true, true, true, false, false, false, false, false, false, false, false, false, false] rfl rfl (any_of HT_.out (by kernel_rfl)) (fun _ _ _ h => h) (Or.inl ⟨by rfl, ?_⟩) ?_ ?_
  rotate_left
  · intro w'
    go_simp
    with_reducible rfl
  rotate_left
  · simp only [Act.put, List.setIfInBounds_toArray, List.set_cons_zero, List.set_cons_succ, i64_w, i32_w]
    rfl
  refine pure_ (i := 13) (N := some 76) (v := ?_) (a' := ?_) #[true, true, true, true, true, true, true, true, true, true, true, true, true, true, false, false, false, false, false, false, false, false, false] rfl rfl (any_of HT_.out (by kernel_rfl)) (fun _ _ _ h => h) (Or.inl ⟨by rfl, ?_⟩) ?_ ?_
  rotate_left
  · intro w'
    go_simp
    with_reducible rfl
  rotate_left
  · simp only [Act.put, List.setIfInBounds_toArray, List.set_cons_zero, List.set_cons_succ, i64_w, i32_w]
    rfl
  refine pure_ (i := 14) (N := some 77) (v := ?_) (a' := ?_) #[true, true, true, true, true, true, true, true, true, true, true, true, true, true, true, false, false, false, false, false, false, false, false] rfl rfl (any_of HT_.out (by kernel_rfl)) (fun _ _ _ h => h) (Or.inl ⟨by rfl, ?_⟩) ?_ ?_
  rotate_left
  · intro w'
    go_simp
    with_reducible rfl
  rotate_left
  · simp only [Act.put, List.setIfInBounds_toArray, List.set_cons_zero, List.set_cons_succ, i64_w, i32_w]
    rfl
  refine pure_ (i := 15) (N := some 78) (v := ?_) (a' := ?_) #[true, true, true, true, true, true, true, true, true, true, true, true, true, true, true, true, false, false, false, false, false, false, false] rfl rfl (any_of HT_.out (by kernel_rfl)) (fun _ _ _ h => h) (Or.inl ⟨by rfl, ?_⟩) ?_ ?_
  rotate_left
  · intro w'
    go_simp
    with_reducible rfl
  rotate_left
  · simp only [Act.put, List.setIfInBounds_toArray, List.set_cons_zero, List.set_cons_succ, i64_w, i32_w]
    rfl
  refine pure_ (i := 16) (N := some 79) (v := ?_) (a' := ?_) #[true, true, true, true, true, true, true, true, true, true, true, true, true, true, true, true, true, false, false, false, false, false, false] rfl rfl (any_of HT_.out (by kernel_rfl)) (fun _ _ _ h => h) (Or.inl ⟨by rfl, ?_⟩) ?_ ?_
  rotate_left
  · intro w'
    go_simp
    with_reducible rfl
  rotate_left
  · simp only [Act.put, List.setIfInBounds_toArray, List.set_cons_zero, List.set_cons_succ, i64_w, i32_w]
    rfl
  refine one_ (i := 17) (N := some 80) #[true, true, true, true, true, true, true, true, true, true, true, true, true, true, true, true, true, true, false, false, false, false, false] rfl rfl (one_of HT_.out (by kernel_rfl)) (by decide) (fun K hK => ?_)
  refine goes_ Tryd.func12 (by kernel_rfl) rfl #[.slice A8 p.length c8, .slice A p.length c] (by rfl) rfl rfl (by (try simp only [List.map_toArray, List.map_cons, List.map_nil]); first | done | rfl) ?_
  refine (rsame_calls A8 A c8 c p p _ (Kd.C_below HC8.out hHeld) (Kd.C_below HP9.out hHeld) hc8 hc).mono ?_
  rintro e w7 ⟨rfl, hb⟩
  refine ⟨_, rfl, ?_⟩
  rw [show decide (p = p) = true from decide_eq_true rfl]
  have hS1 := below_step hHeld hb
  clear hb
  refine hK.out _ _ (by exact hS1) (fun hHeld => ?_)
  clear hK K
  refine norm_ (a' := ?_) ?_ ?_
  rotate_left
  · first
    | (show Act.put _ (some 80) _ = _; simp only [Act.put, List.setIfInBounds_toArray, List.set_cons_zero, List.set_cons_succ, i64_w, i32_w]; rfl)
    | rfl
  refine pure_ (i := 18) (N := some 81) (v := ?_) (a' := ?_) #[true, true, true, true, true, true, true, true, true, true, true, true, true, true, true, true, true, true, true, false, false, false, false] rfl rfl (any_of HT_.out (by kernel_rfl)) (fun _ _ _ h => h) (Or.inl ⟨by rfl, ?_⟩) ?_ ?_
  rotate_left
  · intro w'
    go_simp
    with_reducible rfl
  rotate_left
  · simp only [Act.put, List.setIfInBounds_toArray, List.set_cons_zero, List.set_cons_succ, i64_w, i32_w]
    rfl
  refine pure_ (i := 19) (N := some 82) (v := ?_) (a' := ?_) #[true, true, true, true, true, true, true, true, true, true, true, true, true, true, true, true, true, true, true, true, false, false, false] rfl rfl (any_of HT_.out (by kernel_rfl)) (fun _ _ _ h => h) (Or.inl ⟨by rfl, ?_⟩) ?_ ?_
  rotate_left
  · intro w'
    go_simp
    with_reducible rfl
  rotate_left
  · simp only [Act.put, List.setIfInBounds_toArray, List.set_cons_zero, List.set_cons_succ, i64_w, i32_w]
    rfl
  refine one_ (i := 20) (N := some 83) #[true, true, true, true, true, true, true, true, true, true, true, true, true, true, true, true, true, true, true, true, true, false, false] rfl rfl (one_of HT_.out (by kernel_rfl)) (by decide) (fun K hK => ?_)
  refine goes_ Tryd.func9 (by kernel_rfl) rfl #[] (by rfl) rfl rfl (by (try simp only [List.map_toArray, List.map_cons, List.map_nil]); first | done | rfl) ?_
  refine (known_calls _ (HT9.out.below hHeld)).mono ?_
  rintro e w7 ⟨rfl, hb⟩
  refine ⟨_, rfl, ?_⟩
  have hS1 := below_step hHeld hb
  clear hb
  refine hK.out _ _ (by exact hS1) (fun hHeld => ?_)
  clear hK K
  refine norm_ (a' := ?_) ?_ ?_
  rotate_left
  · first
    | (show Act.put _ (some 83) _ = _; simp only [Act.put, List.setIfInBounds_toArray, List.set_cons_zero, List.set_cons_succ, i64_w, i32_w]; rfl)
    | rfl
  refine pure_ (i := 21) (N := some 84) (v := ?_) (a' := ?_) #[true, true, true, true, true, true, true, true, true, true, true, true, true, true, true, true, true, true, true, true, true, true, false] rfl rfl (any_of HT_.out (by kernel_rfl)) (fun _ _ _ h => h) (Or.inl ⟨by rfl, ?_⟩) ?_ ?_
  rotate_left
  · intro w'
    go_simp
    with_reducible rfl
  rotate_left
  · simp only [Act.put, List.setIfInBounds_toArray, List.set_cons_zero, List.set_cons_succ, i64_w, i32_w]
    rfl
  refine pure_ (i := 22) (N := some 4) (v := ?_) (a' := ?_) #[true, true, true, true, true, true, true, true, true, true, true, true, true, true, true, true, true, true, true, true, true, true, true] rfl rfl (any_of HT_.out (by kernel_rfl)) (fun _ _ _ h => h) (Or.inl ⟨by rfl, ?_⟩) ?_ ?_
  rotate_left
  · intro w'
    go_simp
    with_reducible rfl
  rotate_left
  · simp only [Act.put, List.setIfInBounds_toArray, List.set_cons_zero, List.set_cons_succ, i64_w, i32_w]
    rfl
  refine done_ (done_of HT_.out (by kernel_rfl)) ?_
  replace HB3 := Aside0.mk (below_step HB3.out hHeld)
  clear hS0 hHeld HT_ HW_
  go_wp2
  go_ret
  exact ⟨rfl, HB3.out⟩
theorem forms_walk (a0 : Option Addr) (c0 : Nat) (x0 : List Ins) (a1 : Option Addr) (c1 : Nat) (x1 : List Ins) (w : World) (hT : Tab w) (C0 : KP.C w a0 x0.length x0) (l0 : x0.length ≤ c0) (k0 : ∀ x ∈ x0, Open.okI x) (C1 : KP.C w a1 x1.length x1) (l1 : x1.length ≤ c1) (k1 : ∀ x ∈ x1, Open.okI x) :
    Calls Tryd.prog 5 #[.slice a0 x0.length c0, .slice a1 x1.length c1] w fun e w' => e = .returned (.bool true) ∧ Below w.heap.size w w' :=
  forms_calls a0 a1 c0 c1 x0 x1 w C0 C1 l0 l1 hT (fun x hx => (k0 x hx).sz)
end Go.Proofs.YtneindaodfiabaaDoor.Prog6
