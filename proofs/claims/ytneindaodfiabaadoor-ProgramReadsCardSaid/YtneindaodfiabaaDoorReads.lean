/- What calls of Go functions of this seat come to, as the rows need it: under the conditions that each theorem names. -/
import Derived.Test.YtneindaodfiabaaDoorBk
import Derived.Test.YtneindaodfiabaaDoorMoreD
namespace Go.Proofs.YtneindaodfiabaaDoor.Prog6
open Go.RowKit Go.Proofs.YtneindaodfiabaaDoorW.PrintWords Go.Proofs.YtneindaodfiabaaDoorW.PrintLast Go.Proofs.YtneindaodfiabaaDoorW.PrintMore
set_option linter.unusedVariables false
set_option linter.unusedSimpArgs false
def prd_T9 : Bool × List (List Nat × List Nat) := (true, [([], []), ([], []), ([0, 1], [0, 1]), ([2], [2]), ([], []), ([], []), ([4, 5], [4, 5]), ([6], [6]), ([3, 7], [3, 7])])
def prd_B9 : List Nat := [0, 0, 3, 7, 0, 0, 48, 112, 255]
theorem prd_tab9 : rtab .any (opsOf Tryd.f4 9) = prd_T9 := by kernel_rfl
theorem prd_bits9 : waitsOk prd_T9.2 prd_B9 = true := by kernel_rfl
set_option maxHeartbeats 3200000 in
set_option maxRecDepth 100000 in
theorem reads_calls (A : Option Addr) (c : Nat) (l : List Int) (w : World) (hr : RBy.C w A l.length l) (hc : l.length ≤ c) (hb : rbytes l) (hT : Tab w) :
    Calls Tryd.prog 4 #[.slice A l.length c] w fun e w' => e = .returned (.bool true) ∧ Below w.heap.size w w' := by
  have HR := Aside0.mk hr
  have HY := Aside0.mk hb
  have HTAB := Aside0.mk hT
  have hl63 : l.length ≤ 9223372036854775807 := hr.2.1
  clear hr hT hb
  by_cases hbig : 4000 < l.length
  · have e1 : decide ((l.length : Int) > 4000) = true := decide_eq_true (by omega)
    have e2 : decide (l.length > 4000) = true := decide_eq_true (by omega)
    clear hbig
    go_enter Tryd.func4, Tryd.ntmps4
    go_wp2_with fail
    refine (known_calls _ HTAB.out).mono ?_
    rintro e w1 ⟨rfl, hb⟩
    go_wp2
    go_ret
    exact ⟨rfl, hb⟩
  have hl4 : l.length ≤ 4000 := by omega
  clear hbig
  have e1 : decide ((l.length : Int) > 4000) = false := decide_eq_false (by omega)
  have e2 : decide (l.length > 4000) = false := decide_eq_false (by omega)
  go_enter Tryd.func4, Tryd.ntmps4
  have HLE := Aside0.mk hl4
  clear hl4
  go_upto_region 4 with (first | ((with_reducible refine gate_dst (N := 13) rfl ?_); refine Kd.R_lit RBy (w0 := w) w.heap.size 5 ?hg (N := 13) ?hd (xs := ([] : List Int)) (inner := []) (ok := fun _ => True) (okp := fun _ => True) ?hr ?hp (fun _ hk => hk) trivial (Below.refl _ _) (Nat.le_refl _) (by simp) ?_; (case hd => rfl); (case hg => rfl); (case hr => first | (go_simp; done) | (go_simp; rfl)); (case hp => exact Reps.none _ _); intro v1 w2 ho hb1 hg hnew; have HO := Aside0.mk ho; have HB := Aside0.mk hb1; clear ho hb1 hg hnew) | ((with_reducible refine gate_builtin (b := .append) (xs := #[.tmp 13, .tmp 14]) rfl ?_); at_builtin; refine Kd.R_append_rows RBy (w0 := w) w.heap.size rfl (.tmp 13) (.tmp 14) 29 5 (.int .u8 0) 1 rfl Tryd.underlying29 Hand.info5 rfl (by decide) (by omega) _ ([]) (l) _ _ _ (fun _ => True) (fun _ => False) rfl rfl HO.out (Kd.C_below HR.out HB.out) (fun _ _ h => h) (fun _ h => h.elim) (fun _ _ => trivial) HB.out HB.out.size ?aL ?_; (case aL => simp; have := HLE.out; omega); intro v2 w4 ho hb2 hg hat; rw [List.nil_append] at ho; obtain ⟨A2, c2, rfl, hc2, hr2⟩ := Kd.R_reads ho; have HO2 := Aside0.mk ho; have HCP := Aside0.mk hr2; clear hr2; have HB2 := Aside0.mk hb2; clear ho hb2 hg hat))
  clear HO HB e1 e2
  go_wp2_with fail
  refine (read_calls A2 c2 l _ HCP.out hc2 HY.out (by have := HLE.out; omega) (HTAB.out.below HB2.out)).mono ?_
  rintro e w5 ⟨pv, er, rfl, hn1, hs1, hb⟩
  have HN1 := Aside0.mk hn1
  have HS1 := Aside0.mk hs1
  have HB45 := Aside0.mk hb
  clear hn1 hs1 hb
  go_wp2_with fail
  refine (rread_calls A c l _ (Kd.C_below HR.out (below_step HB2.out HB45.out)) hc HY.out (by have := HLE.out; omega)).mono ?_
  rintro e w6 ⟨qv, fr, rfl, hn2, hs2, hb⟩
  have HN2 := Aside0.mk hn2
  have HS2 := Aside0.mk hs2
  have HB56 := Aside0.mk hb
  clear hn2 hs2 hb
  have HPQ := Aside0.mk (show ∃ P : List Ins, er = fr ∧ Kd.R KP 26 w6 w4.heap.size (fun _ => True) pv P ∧ Kd.R KP 26 w6 w5.heap.size (fun _ => True) qv P by
    cases hrp : readP l with
    | none =>
      obtain ⟨rfl, rfl⟩ := HN1.out hrp
      obtain ⟨rfl, rfl⟩ := HN2.out hrp
      exact ⟨[], rfl, Kd.R_nil _ _ _ _ _, Kd.R_nil _ _ _ _ _⟩
    | some P =>
      obtain ⟨rfl, h1⟩ := HS1.out P hrp
      obtain ⟨rfl, h2⟩ := HS2.out P hrp
      exact ⟨P, rfl, Kd.R_below h1 HB56.out, h2⟩)
  obtain ⟨P, rfl, hp1, hq1⟩ := HPQ.out
  have HP1 := Aside0.mk hp1
  have HQ1 := Aside0.mk hq1
  clear hp1 hq1 HPQ HN1 HN2 HS1 HS2
  have HG := Aside0.mk (show ∃ g, 0 < l.length → (A2 = some ⟨g, 0, none⟩ ∧ w.heap.size ≤ g ∧ Bk w6 g 0 l) by
    by_cases h0 : 0 < l.length
    · obtain ⟨g, e1, e2, e3⟩ := Bk.of HO2.out h0
      exact ⟨g, fun _ => ⟨e1, e2, (e3.below HB45.out).below HB56.out⟩⟩
    · exact ⟨0, fun h => absurd h h0⟩)
  obtain ⟨g, hg⟩ := HG.out
  have HGA := Aside0.mk (fun h => (hg h).1)
  have HGB := Aside0.mk (fun h => (hg h).2.1)
  have HBK := Aside0.mk (fun h => (hg h).2.2)
  have HB6 := Aside0.mk (below_step (below_step HB2.out HB45.out) HB56.out)
  have HTAB2 := HTAB
  clear HG hg HO2 HCP HB2 HB45 HB56
  go_wp2
  go_loopw [28] (fun v wr => ∃ i : Nat, i ≤ l.length ∧ v = .int .i64 (i : Int) ∧ Aside0 (0 < l.length → Bk wr g i l) ∧ Aside0 (Kd.R KP 26 wr w4.heap.size (fun _ => True) pv P) ∧ Aside0 (Kd.R KP 26 wr w5.heap.size (fun _ => True) qv P) ∧ Aside0 (Below w.heap.size w wr)) (fun i _ => l.length - (intOf i).toNat)
  case atStart => exact ⟨0, Nat.zero_le _, rfl, HBK, HP1, HQ1, HB6⟩
  case round =>
    clear HBK HP1 HQ1 HB6
    obtain ⟨i, hi, rfl, HBK, HP, HQ, HB⟩ := hrel
    by_cases hlt : i < l.length
    · have e1 : decide ((i : Int) < (l.length : Int)) = true := decide_eq_true (by omega)
      have e1b : decide (i < l.length) = true := decide_eq_true hlt
      obtain rfl := HGA.out (by omega)
      obtain ⟨ad, rfl, _⟩ := Hand.getB (Kd.C_below HR.out HB.out) i hlt
      have HXI := Aside0.mk (show l[i]? = some (rd l (i : Int)) by unfold rd; rw [Int.toNat_natCast, List.getD_eq_getElem?_getD, List.getElem?_eq_getElem hlt]; rfl)
      go_upto_region 9 with (fail)
      have hS0 : Below wr.heap.size wr wr.drew := below_drew1 (Below.refl _ _)
      refine start_ (n := 9) (S := fun w' => Below wr.heap.size wr w') (ds := []) #[false, false, false, false, false, false, false, false, false] (by kernel_rfl) rfl rfl (by exact hS0) (fun hHeld => ?_)
      refine with_tabW prd_tab9 prd_bits9 (fun HT_ HW_ => ?_)
      generalize wr.drew = W0 at hHeld hS0 ⊢
      refine pure_ (i := 0) (N := some 31) (v := ?_) (a' := ?_) #[true, false, false, false, false, false, false, false, false] rfl rfl (any_of HT_.out (by kernel_rfl)) (fun _ _ _ h => h) (Or.inl ⟨by rfl, ?_⟩) ?_ ?_
      rotate_left
      · intro w'
        go_simp
        with_reducible rfl
      rotate_left
      · simp only [Act.put, List.setIfInBounds_toArray, List.set_cons_zero, List.set_cons_succ, i64_w, i32_w]
        rfl
      refine pure_ (i := 1) (N := some 32) (v := ?_) (a' := ?_) #[true, true, false, false, false, false, false, false, false] rfl rfl (any_of HT_.out (by kernel_rfl)) (fun _ _ _ h => h) (Or.inl ⟨by rfl, ?_⟩) ?_ ?_
      rotate_left
      · intro w'
        go_simp
        with_reducible rfl
      rotate_left
      · simp only [Act.put, List.setIfInBounds_toArray, List.set_cons_zero, List.set_cons_succ, i64_w, i32_w]
        rfl
      refine pure_ (i := 2) (N := some 33) (v := ?_) (a' := ?_) #[true, true, true, false, false, false, false, false, false] rfl rfl (any_of HT_.out (by kernel_rfl)) (fun _ _ _ h => h) (Or.inl ⟨by rfl, ?_⟩) ?_ ?_
      rotate_left
      · intro w'
        go_simp
        with_reducible rfl
      rotate_left
      · simp only [Act.put, List.setIfInBounds_toArray, List.set_cons_zero, List.set_cons_succ, i64_w, i32_w]
        rfl
      refine pure_ (i := 4) (N := some 35) (v := ?_) (a' := ?_) #[true, true, true, false, true, false, false, false, false] rfl rfl (any_of HT_.out (by kernel_rfl)) (fun _ _ _ h => h) (Or.inl ⟨by rfl, ?_⟩) ?_ ?_
      rotate_left
      · intro w'
        go_simp
        with_reducible rfl
      rotate_left
      · simp only [Act.put, List.setIfInBounds_toArray, List.set_cons_zero, List.set_cons_succ, i64_w, i32_w]
        rfl
      refine pure_ (i := 5) (N := some 36) (v := ?_) (a' := ?_) #[true, true, true, false, true, true, false, false, false] rfl rfl (any_of HT_.out (by kernel_rfl)) (fun _ _ _ h => h) (Or.inl ⟨by rfl, ?_⟩) ?_ ?_
      rotate_left
      · intro w'
        go_simp
        with_reducible rfl
      rotate_left
      · simp only [Act.put, List.setIfInBounds_toArray, List.set_cons_zero, List.set_cons_succ, i64_w, i32_w]
        rfl
      refine pure_ (i := 6) (N := some 37) (v := ?_) (a' := ?_) #[true, true, true, false, true, true, true, false, false] rfl rfl (any_of HT_.out (by kernel_rfl)) (fun _ _ _ h => h) (Or.inl ⟨by rfl, ?_⟩) ?_ ?_
      rotate_left
      · intro w'
        go_simp
        with_reducible rfl
      rotate_left
      · simp only [Act.put, List.setIfInBounds_toArray, List.set_cons_zero, List.set_cons_succ, i64_w, i32_w]
        rfl
      refine take_ (i := 3) (N := some 34) (v := ?_) (a' := ?_) #[true, true, true, true, true, true, true, false, false] rfl rfl (take_ofW HT_.out HW_.out (by kernel_rfl)) (fun _ _ _ h => h) (Or.inl ⟨by rfl, ?_⟩) hHeld ?_ ?_
      rotate_left
      · intro w' hSt
        obtain ⟨hx0, hx1⟩ := ((HBK.out (by omega)).below hSt).cell _ HXI.out
        go_simp
        with_reducible rfl
      rotate_left
      · simp only [Act.put, List.setIfInBounds_toArray, List.set_cons_zero, List.set_cons_succ, i64_w, i32_w]
        rfl
      refine take_ (i := 7) (N := some 38) (v := ?_) (a' := ?_) #[true, true, true, true, true, true, true, true, false] rfl rfl (take_ofW HT_.out HW_.out (by kernel_rfl)) (fun _ _ _ h => h) (Or.inl ⟨by rfl, ?_⟩) hHeld ?_ ?_
      rotate_left
      · intro w' hSt
        obtain ⟨ad_, hA_, hy0⟩ := Hand.getB (Kd.C_below HR.out (below_step HB.out hSt)) i hlt
        cases hA_
        go_simp
        with_reducible rfl
      rotate_left
      · simp only [Act.put, List.setIfInBounds_toArray, List.set_cons_zero, List.set_cons_succ, i64_w, i32_w]
        rfl
      refine pure_ (i := 8) (N := some 39) (v := ?_) (a' := ?_) #[true, true, true, true, true, true, true, true, true] rfl rfl (any_of HT_.out (by kernel_rfl)) (fun _ _ _ h => h) (Or.inl ⟨by rfl, ?_⟩) ?_ ?_
      rotate_left
      · intro w'
        go_simp
        with_reducible rfl
      rotate_left
      · simp only [Act.put, List.setIfInBounds_toArray, List.set_cons_zero, List.set_cons_succ, i64_w, i32_w]
        rfl
      refine done_ (done_of HT_.out (by kernel_rfl)) ?_
      have HBa := Aside0.mk (below_step HB.out hHeld)
      have HB9 := Aside0.mk ((HBK.out (by omega)).below hHeld)
      have HP9 := Aside0.mk (Kd.R_below HP.out hHeld)
      have HQ9 := Aside0.mk (Kd.R_below HQ.out hHeld)
      obtain ⟨hx0, hx1⟩ := HB9.out.cell _ HXI.out
      have HST := Aside0.mk (show ∀ y : Int, Kd.R KP 26 (W0.setCell ⟨g, i, none⟩ (.int .u8 y)) w4.heap.size (fun _ => True) pv P ∧ Kd.R KP 26 (W0.setCell ⟨g, i, none⟩ (.int .u8 y)) w5.heap.size (fun _ => True) qv P ∧ Below w.heap.size w (W0.setCell ⟨g, i, none⟩ (.int .u8 y)) from fun y => by
        obtain ⟨cur, h1, _⟩ := HB9.out
        exact ⟨R_ch HP9.out h1 (by decide) (Ch.set g i W0 _), R_ch HQ9.out h1 (by decide) (Ch.set g i W0 _), HBa.out.setCell (p := ⟨g, i, none⟩) (HGB.out (by omega)) _⟩)
      have HLT := Aside0.mk hlt
      clear hS0 hHeld HT_ HW_ HB HBK HP HQ
      go_wp2
      go_roundw
      case rel => exact ⟨i + 1, by omega, by go_num, ⟨fun _ => HB9.out.set _⟩, ⟨(HST.out _).1⟩, ⟨(HST.out _).2.1⟩, ⟨(HST.out _).2.2⟩⟩
      case measure => simp [intOf]; omega
    · obtain rfl : i = l.length := by omega
      clear hlt hi
      have HTAB3 := Aside0.mk (HTAB.out.below HB.out)
      obtain ⟨A5, c5, rfl, hc5, hr5⟩ := Kd.R_reads HP.out
      obtain ⟨A6, c6, rfl, hc6, hr6⟩ := Kd.R_reads HQ.out
      go_wp2_with fail
      refine (rsame_calls A5 A6 c5 c6 P P _ hr5 hr6 hc5 hc6).mono ?_
      rintro e w8 ⟨rfl, hb⟩
      rw [show decide (P = P) = true from decide_eq_true rfl]
      have HT8 := Aside0.mk (HTAB3.out.below hb)
      have HB8 := Aside0.mk (below_step HB.out hb)
      clear hb hr5 hr6
      go_wp2_with fail
      refine (known_calls _ HT8.out).mono ?_
      rintro e w9 ⟨rfl, hb⟩
      go_wp2
      go_ret
      exact ⟨rfl, below_step HB8.out hb⟩
theorem reads_walk (a0 : Option Addr) (c0 : Nat) (x0 : List Int) (w : World) (hT : Tab w) (C0 : RBy.C w a0 x0.length x0) (l0 : x0.length ≤ c0) (k0 : ∀ x ∈ x0, (Lit.int .u8 x).wf = true) :
    Calls Tryd.prog 4 #[.slice a0 x0.length c0] w fun e w' => e = .returned (.bool true) ∧ Below w.heap.size w w' :=
  reads_calls a0 c0 x0 w C0 l0 (fun x hx => (by have := k0 x hx; simp [Lit.wf, IntKind.min, IntKind.max, IntKind.signed, IntKind.bits] at this; omega)) hT
end Go.Proofs.YtneindaodfiabaaDoor.Prog6
