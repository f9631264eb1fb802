/- What calls of Go functions of this seat come to, as the rows need it: under the conditions that each theorem names. -/
import Derived.Test.YtebjibkgefgalaaDoorJMore
import Derived.Test.YtebjibkgefgalaaDoorJCutP
namespace Go.Proofs.YtebjibkgefgalaaDoor.Jr
open Go.RowKit Go.Proofs.YtebjibkgefgalaaDoorW.PrintWords Go.Proofs.YtebjibkgefgalaaDoorW.PrintLast Go.Proofs.YtebjibkgefgalaaDoorW.PrintMore
set_option linter.unusedVariables false
set_option linter.unusedSimpArgs false
open Go.Proofs.YtebjibkgefgalaaDoor.Hand (B info5 rowD row_at takeB)
open Go.Proofs.YtebjibkgefgalaaDoor.Sha (Tab heap_new heap_keep cell_of)
abbrev KN : Kd Int := Kd.int .i64
theorem infoN : (Tryd.prog.info? 3).map (fun i => (i.zero, i.size, i.bytes)) = some (some (.int .i64 0), 1, 8) := by kernel_rfl
theorem mod_nat (x : Int) (L : Nat) (h0 : 0 < L) (h1 : L ≤ 1000000) : ∃ kk : Nat, kk < L ∧ wrap64 ((IntKind.u64.wrap x).tmod (L : Int)) = kk := by
  have hw : 0 ≤ IntKind.u64.wrap x := by
    simp only [IntKind.wrap, IntKind.bits, IntKind.signed]
    simp
    omega
  obtain ⟨y, hy⟩ := Int.eq_ofNat_of_zero_le hw
  rw [hy]
  have h2 : ((y : Int).tmod (L : Int)) = ((y % L : Nat) : Int) := by simp [Int.tmod]
  have h3 := Nat.mod_lt y h0
  rw [h2]
  exact ⟨y % L, h3, by unfold wrap64; omega⟩
/-- Where each record's form ends. -/
def endsL (xs : List (List Int)) (k : Nat) : List Int := (List.range k).map fun i => ((joinJ (xs.take (i + 1))).length : Int)
theorem endsL_len (xs : List (List Int)) (k : Nat) : (endsL xs k).length = k := by simp [endsL]
theorem endsL_succ (xs : List (List Int)) (k : Nat) : endsL xs (k + 1) = endsL xs k ++ [((joinJ (xs.take (k + 1))).length : Int)] := by simp [endsL, List.range_succ]
theorem endsL_rd (xs : List (List Int)) (n k : Nat) (h : k < n) : rd (endsL xs n) (k : Int) = ((joinJ (xs.take (k + 1))).length : Int) := by
  unfold rd endsL
  rw [Int.toNat_natCast, List.getD_eq_getElem?_getD, List.getElem?_map, List.getElem?_range h]
  rfl
def jct_T28 : Bool × List (List Nat × List Nat) := (true, [([], []), ([], []), ([0, 1], [0, 1]), ([2], [2]), ([3], [3]), ([], []), ([], []), ([5, 6], [5, 6]), ([7], [7]), ([8], [8]), ([4, 9], [4, 9])])
def jct_B28 : List Nat := [0, 0, 3, 7, 15, 0, 0, 96, 224, 480, 1023]
theorem jct_tab28 : rtab .any (opsOf Tryd.f5 28) = jct_T28 := by kernel_rfl
theorem jct_bits28 : waitsOk jct_T28.2 jct_B28 = true := by kernel_rfl
def jct_T20 : Bool × List (List Nat × List Nat) := (true, [([], []), ([0], [0]), ([], []), ([], []), ([2, 3], [2, 3]), ([4], [4]), ([1, 0, 1], [1]), ([5, 6, 0, 1, 2, 3, 4, 5, 6], [5])])
def jct_B20 : List Nat := [0, 1, 0, 0, 12, 28, 3, 127]
theorem jct_tab20 : rtab .any (opsOf Tryd.f5 20) = jct_T20 := by kernel_rfl
theorem jct_bits20 : waitsOk jct_T20.2 jct_B20 = true := by kernel_rfl
set_option maxHeartbeats 3200000 in
set_option maxRecDepth 100000 in
theorem cuts_calls (A : Option Addr) (c : Nat) (xs : List (List Int)) (x1 : Int) (w : World) (hr : Kd.C KB w A xs.length xs) (hc : xs.length ≤ c) (hb : ∀ x ∈ xs, bys x) (hT : Tab w) :
    Calls Tryd.prog 5 #[.slice A xs.length c, .int .i64 x1] w fun e w' => e = .returned (.bool true) ∧ Below w.heap.size w w' := by
  have HR := Aside0.mk hr
  have HY := Aside0.mk hb
  have HTAB := Aside0.mk hT
  have hl63 : xs.length ≤ 9223372036854775807 := hr.2.1
  clear hr hT hb
  by_cases hbig : 40 < xs.length
  · have e1 : decide ((xs.length : Int) > 40) = true := decide_eq_true (by omega)
    have e2 : decide (xs.length > 40) = true := decide_eq_true (by omega)
    clear hbig
    go_enter Tryd.func5, Tryd.ntmps5
    go_wp2_with fail
    refine (known_calls _ HTAB.out).mono ?_
    rintro e w1 ⟨rfl, hb⟩
    go_wp2
    go_ret
    exact ⟨rfl, hb⟩
  have e1 : decide ((xs.length : Int) > 40) = false := decide_eq_false (by omega)
  have e2 : decide (xs.length > 40) = false := decide_eq_false (by omega)
  have HN := Aside0.mk (show xs.length ≤ 40 by omega)
  clear hbig
  go_enter Tryd.func5, Tryd.ntmps5
  go_wp2_with fail
  refine (size_calls A c xs _ HR.out hc).mono ?_
  rintro e w1 ⟨z, rfl, -, hw⟩
  replace hw := hw.symm
  subst hw
  by_cases hz : z > 20000
  · have e3 : decide (z > 20000) = true := decide_eq_true hz
    clear hz
    go_wp2_with fail
    refine (known_calls _ HTAB.out).mono ?_
    rintro e w1 ⟨rfl, hb⟩
    go_wp2
    go_ret
    exact ⟨rfl, hb⟩
  have e3 : decide (z > 20000) = false := decide_eq_false hz
  clear hz
  go_wp2
  clear e1 e2 e3
  go_loopw [5, 6, 28] (fun v v6 u wr => ∃ k : Nat, k ≤ xs.length ∧ u = .int .i64 (k : Int) ∧ Aside0 (okL (xs.take k)) ∧ Aside0 (Kd.R B 5 wr w.heap.size (fun _ => True) v (joinJ (xs.take k))) ∧ Aside0 (Kd.R KN 3 wr w.heap.size (fun _ => True) v6 (endsL xs k)) ∧ Aside0 (Below w.heap.size w wr)) (fun _ _ u _ => xs.length - (intOf u).toNat)
  case atStart => exact ⟨0, Nat.zero_le _, rfl, ⟨fun x hx => by simp at hx⟩, ⟨by simpa [joinJ] using Kd.R_nil _ _ _ _ _⟩, ⟨by simpa [endsL] using Kd.R_nil _ _ _ _ _⟩, ⟨Below.refl _ _⟩⟩
  case round =>
    obtain ⟨k, hk, rfl, HOKL, HO, HE, HB⟩ := hrel
    by_cases hlt : k < xs.length
    · obtain ⟨ad, A0, c0, rfl, hcell, hc0, hC0⟩ := row_at (Kd.C_below HR.out HB.out) k hlt
      rw [rowD_get hlt] at hcell hc0 hC0
      have HJT := Aside0.mk (join_take hlt)
      have HOT := Aside0.mk (fun h => okL_take hlt HOKL.out h (HY.out _ (List.getElem_mem hlt)))
      have HYX := Aside0.mk (HY.out _ (List.getElem_mem hlt))
      have HES := Aside0.mk (endsL_succ xs k)
      have HC0 := Aside0.mk hC0
      have HJL := Aside0.mk (show (joinJ (xs.take k)).length ≤ 400000 by have h1 := join_len HOKL.out; rw [List.length_take] at h1; have := HN.out; omega)
      have hx63 : (xs[k]).length ≤ 9223372036854775807 := hC0.2.1
      clear hC0
      generalize xs[k] = x at hcell hc0 HC0 HJT HOT HYX hx63
      go_wp2_with fail
      refine (jform_calls A0 c0 x _ HC0.out hc0 HYX.out (HTAB.out.below HB.out)).mono ?_
      rintro e w2 ⟨v2, er, rfl, hn, hs, hb⟩
      have HB2 := Aside0.mk (below_step HB.out hb)
      by_cases hok : okR x
      case neg =>
        obtain ⟨rfl, rfl⟩ := hn hok
        clear hn hs hok hb
        go_wp2_with fail
        refine (known_calls _ (HTAB.out.below HB2.out)).mono ?_
        rintro e w3 ⟨rfl, hb⟩
        go_wp2
        go_ret
        exact ⟨rfl, below_step HB2.out hb⟩
      obtain ⟨rfl, ho2⟩ := hs hok
      obtain ⟨A4, c4, rfl, hc4, hr4⟩ := Kd.R_reads ho2
      have HC4 := Aside0.mk hr4
      have HO2 := Aside0.mk (Kd.R_below HO.out hb)
      have HE2 := Aside0.mk (Kd.R_below HE.out hb)
      have HOK2 := Aside0.mk (HOT.out hok)
      have HJX := Aside0.mk (show (jform x).length ≤ 8017 by have h1 := jform_len x; have h2 := (rowL_len x (by have := hok.2; omega)).2; have := hok.2; omega)
      have HEL := Aside0.mk (endsL_len xs k)
      rw [HJT.out] at HES
      generalize joinJ (xs.take k) = J at HO2 HJT HJL HES
      generalize endsL xs k = E at HE2 HES HEL
      clear hn hs hok hb ho2 hr4 HO HE HOKL HOT hcell HB
      obtain ⟨J2, hJ2⟩ : ∃ J2, J2 = J ++ jform x := ⟨_, rfl⟩
      have HJ2 := Aside0.mk hJ2
      rw [← hJ2] at HJT HES
      clear hJ2
      go_wp2_with (first | ((with_reducible refine gate_builtin (b := .append) (xs := #[.tmp 42, .tmp 43]) rfl ?_); at_builtin; refine Kd.R_append_rows B (w0 := w) w.heap.size rfl (.tmp 42) (.tmp 43) 22 5 (.int .u8 0) 1 rfl Tryd.underlying22 info5 rfl (by decide) (by omega) _ J (jform x) _ _ _ (fun _ => True) (fun _ => False) rfl rfl HO2.out HC4.out (fun _ _ h => h) (fun _ h => h.elim) (fun _ _ => trivial) HB2.out HB2.out.size ?aL ?_; (case aL => have := HJL.out; have := HJX.out; omega); intro v5 w5 ho hb2 hg hat; rw [← HJ2.out] at ho; obtain ⟨A5, c5, rfl, hc5, _⟩ := Kd.R_reads ho; have HO5 := Aside0.mk ho; have HB5 := Aside0.mk hb2; have HE5 := Aside0.mk (Kd.R_over HE2.out HO2.out (by decide) hg); clear ho hb2 hg hat) | ((with_reducible refine gate_builtin (b := .append) (xs := #[.tmp 45, .tmp 48]) rfl ?_); at_builtin; refine Kd.R_append KN (w0 := w) w.heap.size rfl (.tmp 45) (.tmp 48) 36 3 (.int .i64 0) 8 rfl Tryd.underlying36 infoN rfl (by decide) (by omega) _ E (J2.length : Int) [.int .i64 (J2.length : Int)] (fun _ => True) (fun _ => False) rfl rfl rfl (fun _ h => h.elim) (fun _ _ => trivial) HE5.out HB5.out HB5.out.size ?aM ?_; (case aM => have := HEL.out; have := HN.out; omega); intro v6 w6 ho hb2 hg hat; rw [← HES.out] at ho; have HE6 := Aside0.mk ho; have HB6 := Aside0.mk hb2; have HO6 := Aside0.mk (Kd.R_over HO5.out HE5.out (by decide) hg); clear ho hb2 hg hat))
      go_roundw
      case rel => exact ⟨k + 1, by omega, by go_num, HOK2, by rw [HJT.out]; exact HO6, HE6, HB6⟩
      case measure => simp [intOf]; omega
    · obtain rfl : k = xs.length := by omega
      rw [List.take_length] at HOKL HO
      have HJL := Aside0.mk (show (joinJ xs).length ≤ 400000 by have h1 := join_len HOKL.out; have := HN.out; omega)
      have HJB := Aside0.mk (bys_join HOKL.out)
      have HCUT := Aside0.mk (fun n j hj h1 h2 h3 => readJ_cut xs n j HOKL.out (by have := HJL.out; omega) hj h1 h2 h3)
      have HMONO := Aside0.mk (fun i j (h : i ≤ j) => join_mono xs h)
      have HTL := Aside0.mk (show joinJ (xs.take xs.length) = joinJ xs by rw [List.take_length])
      have HERD := Aside0.mk (fun i (h : i < xs.length) => endsL_rd xs xs.length i h)
      have HEL := Aside0.mk (endsL_len xs xs.length)
      obtain ⟨JT, hJT⟩ : ∃ JT : Nat → Nat, JT = fun j => (joinJ (xs.take j)).length := ⟨_, rfl⟩
      have HJ0 := Aside0.mk (show JT 0 = 0 by rw [hJT]; rfl)
      replace HMONO := Aside0.mk (show ∀ i j, i ≤ j → JT i ≤ JT j by rw [hJT]; exact HMONO.out)
      replace HERD := Aside0.mk (show ∀ i, i < xs.length → rd (endsL xs xs.length) (i : Int) = ((JT (i + 1) : Nat) : Int) by rw [hJT]; exact HERD.out)
      have HJTL := Aside0.mk (show JT xs.length = (joinJ xs).length by rw [hJT]; exact congrArg List.length HTL.out)
      replace HCUT := Aside0.mk (show ∀ n j, j ≤ xs.length → JT j ≤ n → n ≤ (joinJ xs).length → (j < xs.length → n < JT (j + 1)) → readJ ((joinJ xs).take n) = (xs.take j, JT j) by rw [hJT]; exact HCUT.out)
      clear hJT HTL
      generalize joinJ xs = J at HO HJL HJB HCUT HJTL
      generalize endsL xs xs.length = E at HE HERD HEL
      obtain ⟨A5, c5, rfl, hc5, hr5⟩ := Kd.R_reads HO.out
      have HC5 := Aside0.mk hr5
      obtain ⟨A6, c6, rfl, hc6, hr6⟩ := Kd.R_reads HE.out
      rw [HEL.out] at hc6 hr6 ⊢
      have HC6 := Aside0.mk hr6
      clear hlt hk hr5 hr6 HO HE
      have hj63 : J.length ≤ 9223372036854775807 := by have := HJL.out; omega
      go_upto_region 14 with (fail)
      go_cut [10] (fun v wc => ∃ n : Nat, n ≤ J.length ∧ v = .int .i64 (n : Int) ∧ wc = wr)
      case first =>
        have hjl := HJL.out
        go_wp2
        obtain ⟨kk, hkk, e⟩ := mod_nat x1 (J.length + 1) (by omega) (by omega)
        have e2 : ((J.length : Int) + 1) = ((J.length + 1 : Nat) : Int) := by omega
        rw [e2, e]
        go_meet
        case rel => exact ⟨kk, by omega, rfl, rfl⟩
      case rest =>
        obtain ⟨n, hnj, rfl, hwc⟩ := hcut
        replace hwc := hwc.symm
        subst hwc
        go_wp2
        obtain ⟨wo, hwo⟩ : ∃ wo, wo = wr := ⟨_, rfl⟩
        subst hwo
        go_loopw [61, 11, 12] (fun u v11 v12 wr => ∃ k j : Nat, k ≤ xs.length ∧ u = .int .i64 (k : Int) ∧ v11 = .int .i64 (j : Int) ∧ v12 = .int .i64 ((JT j : Nat) : Int) ∧ j ≤ k ∧ JT j ≤ n ∧ (j < k → n < JT (j + 1)) ∧ Aside0 (Below wo.heap.size wo wr)) (fun u _ _ _ => xs.length - (intOf u).toNat)
        case atStart => exact ⟨0, 0, Nat.zero_le _, rfl, rfl, by rw [HJ0.out]; rfl, Nat.le_refl _, by rw [HJ0.out]; exact Nat.zero_le _, fun h => absurd h (by omega), ⟨Below.refl _ _⟩⟩
        case round =>
          obtain ⟨k, j, hk, rfl, rfl, rfl, hjk, hjn, hjx, HBW⟩ := hrel
          by_cases hlt : k < xs.length
          · obtain ⟨adE, hAE, he0⟩ := Kd.at_int (Kd.C_below HC6.out HBW.out) (k : Int) (by omega) (by omega)
            subst hAE
            rw [HERD.out k hlt] at he0
            have he1 : wr.cell? (adE.add k) = some (.int .i64 ((JT (k + 1) : Nat) : Int)) := by simpa using he0
            have HE0 := Aside0.mk he1
            have hkl : decide ((k : Int) < (xs.length : Int)) = true := decide_eq_true (by omega)
            have hkl2 : decide (k < xs.length) = true := decide_eq_true hlt
            have HJX := Aside0.mk hjx
            have HMK := Aside0.mk (show JT (j + 1) ≤ JT (k + 1) from HMONO.out _ _ (by omega))
            have HMJ := Aside0.mk (show JT (k + 1) ≤ 400000 by have h1 := HMONO.out (k + 1) xs.length (by omega); rw [HJTL.out] at h1; have := HJL.out; omega)
            have HE1 := Aside0.mk (show j = k → JT (j + 1) = JT (k + 1) from fun h => by rw [h])
            clear he0 hjx
            generalize hek : JT (k + 1) = ek at HE0 HMK HMJ HE1 he1
            have HEK := Aside0.mk hek
            clear hek
            by_cases hen : ek ≤ n
            · have f1 : decide ((ek : Int) ≤ (n : Int)) = true := decide_eq_true (by omega)
              have f2 : decide (ek ≤ n) = true := decide_eq_true hen
              go_upto_region 20 with (fail)
              have hS0 : Below wr.heap.size wr wr.drew := below_drew1 (Below.refl _ _)
              refine start_ (n := 8) (S := fun w' => Below wr.heap.size wr w') (ds := []) #[false, false, false, false, false, false, false, false] (by kernel_rfl) rfl rfl (by exact hS0) (fun hHeld => ?_)
              refine with_tabW jct_tab20 jct_bits20 (fun HT_ HW_ => ?_)
              refine pure_ (i := 0) (N := some 70) (v := ?_) (a' := ?_) #[true, false, false, false, false, false, false, false] rfl rfl (any_of HT_.out (by kernel_rfl)) (fun _ _ _ h => h) (Or.inl ⟨by rfl, ?_⟩) ?_ ?_
              rotate_left
              · intro w'
                go_simp
                with_reducible rfl
              rotate_left
              · simp only [Act.put, List.setIfInBounds_toArray, List.set_cons_zero, List.set_cons_succ, i64_w, i32_w]
                rfl
              refine pure_ (i := 1) (N := some 71) (v := ?_) (a' := ?_) #[true, true, false, false, false, false, false, false] rfl rfl (any_of HT_.out (by kernel_rfl)) (fun _ _ _ h => h) (Or.inl ⟨by rfl, ?_⟩) ?_ ?_
              rotate_left
              · intro w'
                go_simp
                with_reducible rfl
              rotate_left
              · simp only [Act.put, List.setIfInBounds_toArray, List.set_cons_zero, List.set_cons_succ, i64_w, i32_w]
                rfl
              refine pure_ (i := 2) (N := some 72) (v := ?_) (a' := ?_) #[true, true, true, false, false, false, false, false] rfl rfl (any_of HT_.out (by kernel_rfl)) (fun _ _ _ h => h) (Or.inl ⟨by rfl, ?_⟩) ?_ ?_
              rotate_left
              · intro w'
                go_simp
                with_reducible rfl
              rotate_left
              · simp only [Act.put, List.setIfInBounds_toArray, List.set_cons_zero, List.set_cons_succ, i64_w, i32_w]
                rfl
              refine pure_ (i := 3) (N := some 73) (v := ?_) (a' := ?_) #[true, true, true, true, false, false, false, false] rfl rfl (any_of HT_.out (by kernel_rfl)) (fun _ _ _ h => h) (Or.inl ⟨by rfl, ?_⟩) ?_ ?_
              rotate_left
              · intro w'
                go_simp
                with_reducible rfl
              rotate_left
              · simp only [Act.put, List.setIfInBounds_toArray, List.set_cons_zero, List.set_cons_succ, i64_w, i32_w]
                rfl
              refine pure_ (i := 4) (N := some 74) (v := ?_) (a' := ?_) #[true, true, true, true, true, false, false, false] rfl rfl (any_of HT_.out (by kernel_rfl)) (fun _ _ _ h => h) (Or.inl ⟨by rfl, ?_⟩) ?_ ?_
              rotate_left
              · intro w'
                go_simp
                with_reducible rfl
              rotate_left
              · simp only [Act.put, List.setIfInBounds_toArray, List.set_cons_zero, List.set_cons_succ, i64_w, i32_w]
                rfl
              refine take_ (i := 5) (N := some 75) (v := ?_) (a' := ?_) #[true, true, true, true, true, true, false, false] rfl rfl (take_ofW HT_.out HW_.out (by kernel_rfl)) (fun _ _ _ h => h) (Or.inl ⟨by rfl, ?_⟩) hHeld ?_ ?_
              rotate_left
              · intro w' hSt
                have hx0 := cell_below HE0.out hSt
                go_simp
                with_reducible rfl
              rotate_left
              · simp only [Act.put, List.setIfInBounds_toArray, List.set_cons_zero, List.set_cons_succ, i64_w, i32_w]
                rfl
              refine pure_ (i := 6) (N := some 11) (v := ?_) (a' := ?_) #[true, true, true, true, true, true, true, false] rfl rfl (any_of HT_.out (by kernel_rfl)) (fun _ _ _ h => h) (Or.inl ⟨by rfl, ?_⟩) ?_ ?_
              rotate_left
              · intro w'
                go_simp
                with_reducible rfl
              rotate_left
              · simp only [Act.put, List.setIfInBounds_toArray, List.set_cons_zero, List.set_cons_succ, i64_w, i32_w]
                rfl
              refine pure_ (i := 7) (N := some 12) (v := ?_) (a' := ?_) #[true, true, true, true, true, true, true, true] rfl rfl (any_of HT_.out (by kernel_rfl)) (fun _ _ _ h => h) (Or.inl ⟨by rfl, ?_⟩) ?_ ?_
              rotate_left
              · intro w'
                go_simp
                with_reducible rfl
              rotate_left
              · simp only [Act.put, List.setIfInBounds_toArray, List.set_cons_zero, List.set_cons_succ, i64_w, i32_w]
                rfl
              refine done_ (done_of HT_.out (by kernel_rfl)) ?_
              have HBZ := Aside0.mk (HBW.out.trans (hHeld.mono HBW.out.size))
              clear hS0 hHeld HT_ HW_ HBW he1
              go_wp2
              go_roundw
              case rel => exact ⟨k + 1, k + 1, by omega, by first | rfl | go_num, (by refine congrArg _ ?_; have := HN.out; unfold Go.RowKit.wrap64; omega), by rw [HEK.out], Nat.le_refl _, by rw [HEK.out]; exact hen, fun h => absurd h (by omega), HBZ⟩
              case measure => simp [intOf]; omega
            · have f1 : decide ((ek : Int) ≤ (n : Int)) = false := decide_eq_false (by omega)
              have f2 : decide (ek ≤ n) = false := decide_eq_false hen
              go_wp2
              go_roundw
              case rel => exact ⟨k + 1, j, by omega, by first | rfl | go_num, rfl, rfl, by omega, hjn, (fun h => by
                by_cases hjk2 : j < k
                · exact HJX.out hjk2
                · rw [HE1.out (by omega)]; omega), HBW⟩
              case measure => simp [intOf]; omega
          · obtain rfl : k = xs.length := by omega
            have hcut := HCUT.out n j hjk hjn hnj hjx
            have HB3 := Aside0.mk (below_step HB.out HBW.out)
            obtain ⟨htk, htr, htc⟩ := takeB A5 c5 J n hnj hc5
            have HTR := Aside0.mk (htr _ (Kd.C_below HC5.out HBW.out))
            have HTB := Aside0.mk (show bys (J.take n) ∧ (J.take n).length ≤ 400000 from ⟨Hand.bytes_take HJB.out n, by rw [List.length_take]; have := HJL.out; omega⟩)
            have HKJ := Aside0.mk hjk
            clear hlt hk htr
            obtain ⟨tn, htn⟩ : ∃ tn, J.take n = tn := ⟨_, rfl⟩
            rw [htn] at hcut htk HTR htc HTB
            have HCU := Aside0.mk hcut
            clear htn hcut
            go_wp2_with fail
            refine (read_calls A5 c5 tn _ HTR.out htc HTB.out.1 (by have := HTB.out.2; omega) (HTAB.out.below HB3.out)).mono ?_
            rintro e w9 ⟨v9, rfl, hrs, hb⟩
            rw [HCU.out] at hrs ⊢
            replace hrs : Recs w9 wr.heap.size v9 (xs.take j) := hrs
            have HB9 := Aside0.mk (below_step HB3.out hb)
            obtain ⟨AG, cG, hvG, hcG, hCG⟩ := Recs.C hrs (fun x hx => by have := (HOKL.out x (List.mem_of_mem_take hx)).1.2; omega) (by rw [List.length_take]; omega)
            subst hvG
            obtain ⟨gs, hgs⟩ : ∃ gs, gs = xs.take j := ⟨_, rfl⟩
            have HGS := Aside0.mk hgs
            have HGN := Aside0.mk (show gs.length = j by rw [hgs, List.length_take]; have := HKJ.out; omega)
            rw [← hgs] at hCG hcG ⊢
            have HCG := Aside0.mk hCG
            clear hrs hb hgs hCG htk htc HTR hjn hjx
            have n1 : ((gs.length : Int) != (j : Int)) = false := by rw [bne_eq_false_iff_eq, HGN.out]
            have hg63 : gs.length ≤ 9223372036854775807 := by have := HGN.out; have := HKJ.out; omega
            generalize JT j = wj
            go_wp2
            obtain ⟨wo2, hwo2⟩ : ∃ wo2, wo2 = wr := ⟨_, rfl⟩
            subst hwo2
            clear n1
            go_loopw [95] (fun v wr => ∃ i : Nat, i ≤ gs.length ∧ v = .int .i64 (i : Int) ∧ Aside0 (Below w9.heap.size w9 wr)) (fun i _ => gs.length - (intOf i).toNat)
            case atStart => exact ⟨0, Nat.zero_le _, rfl, ⟨Below.refl _ _⟩⟩
            case round =>
              obtain ⟨i, hi, rfl, HBL⟩ := hrel
              by_cases hly : i < gs.length
              · have e1 : decide ((i : Int) < (gs.length : Int)) = true := decide_eq_true (by omega)
                have e1b : decide (i < gs.length) = true := decide_eq_true hly
                have hix : i < xs.length := by have := HGN.out; have := HKJ.out; omega
                obtain ⟨adG, AX, cX, rfl, hx0, hcX, hxC⟩ := row_at (Kd.C_below HCG.out HBL.out) i hly
                rw [rowD_get hly] at hx0 hcX hxC
                have HX0 := Aside0.mk hx0
                have HXC := Aside0.mk hxC
                have hx63 : (gs[i]).length ≤ 9223372036854775807 := hxC.2.1
                have HYI := Aside0.mk (show gs[i]? = some gs[i] from List.getElem?_eq_getElem hly)
                clear hx0 hxC
                generalize gs[i] = x at HX0 HXC HYI hcX hx63
                have HXI := Aside0.mk (show xs[i]? = some x by have h := HYI.out; rwa [HGS.out, List.getElem?_take_of_lt (by have := HGN.out; omega)] at h)
                obtain ⟨adU, AU, cU, hAU, hu0, hcU, huC⟩ := row_at (Kd.C_below HR.out (below_step HB9.out HBL.out)) i hix
                rw [rowD_get hix, show xs[i] = x from Option.some.inj ((List.getElem?_eq_getElem hix).symm.trans HXI.out)] at hu0 hcU huC
                subst hAU
                have HU0 := Aside0.mk hu0
                have HUC := Aside0.mk huC
                clear hu0 huC
                go_upto_region 28 with (fail)
                have hS0 : Below wr.heap.size wr wr.drew := below_drew1 (Below.refl _ _)
                refine start_ (n := 11) (S := fun w' => Below wr.heap.size wr w') (ds := []) #[false, false, false, false, false, false, false, false, false, false, false] (by kernel_rfl) rfl rfl (by exact hS0) (fun hHeld => ?_)
                refine with_tabW jct_tab28 jct_bits28 (fun HT_ HW_ => ?_)
                refine pure_ (i := 0) (N := some 98) (v := ?_) (a' := ?_) #[true, false, false, false, false, false, false, false, false, false, false] rfl rfl (any_of HT_.out (by kernel_rfl)) (fun _ _ _ h => h) (Or.inl ⟨by rfl, ?_⟩) ?_ ?_
                rotate_left
                · intro w'
                  go_simp
                  with_reducible rfl
                rotate_left
                · simp only [Act.put, List.setIfInBounds_toArray, List.set_cons_zero, List.set_cons_succ, i64_w, i32_w]
                  rfl
                refine pure_ (i := 1) (N := some 99) (v := ?_) (a' := ?_) #[true, true, false, false, false, false, false, false, false, false, false] rfl rfl (any_of HT_.out (by kernel_rfl)) (fun _ _ _ h => h) (Or.inl ⟨by rfl, ?_⟩) ?_ ?_
                rotate_left
                · intro w'
                  go_simp
                  with_reducible rfl
                rotate_left
                · simp only [Act.put, List.setIfInBounds_toArray, List.set_cons_zero, List.set_cons_succ, i64_w, i32_w]
                  rfl
                refine pure_ (i := 2) (N := some 100) (v := ?_) (a' := ?_) #[true, true, true, false, false, false, false, false, false, false, false] rfl rfl (any_of HT_.out (by kernel_rfl)) (fun _ _ _ h => h) (Or.inl ⟨by rfl, ?_⟩) ?_ ?_
                rotate_left
                · intro w'
                  go_simp
                  with_reducible rfl
                rotate_left
                · simp only [Act.put, List.setIfInBounds_toArray, List.set_cons_zero, List.set_cons_succ, i64_w, i32_w]
                  rfl
                refine pure_ (i := 5) (N := some 103) (v := ?_) (a' := ?_) #[true, true, true, false, false, true, false, false, false, false, false] rfl rfl (any_of HT_.out (by kernel_rfl)) (fun _ _ _ h => h) (Or.inl ⟨by rfl, ?_⟩) ?_ ?_
                rotate_left
                · intro w'
                  go_simp
                  with_reducible rfl
                rotate_left
                · simp only [Act.put, List.setIfInBounds_toArray, List.set_cons_zero, List.set_cons_succ, i64_w, i32_w]
                  rfl
                refine pure_ (i := 6) (N := some 104) (v := ?_) (a' := ?_) #[true, true, true, false, false, true, true, false, false, false, false] rfl rfl (any_of HT_.out (by kernel_rfl)) (fun _ _ _ h => h) (Or.inl ⟨by rfl, ?_⟩) ?_ ?_
                rotate_left
                · intro w'
                  go_simp
                  with_reducible rfl
                rotate_left
                · simp only [Act.put, List.setIfInBounds_toArray, List.set_cons_zero, List.set_cons_succ, i64_w, i32_w]
                  rfl
                refine pure_ (i := 7) (N := some 105) (v := ?_) (a' := ?_) #[true, true, true, false, false, true, true, true, false, false, false] rfl rfl (any_of HT_.out (by kernel_rfl)) (fun _ _ _ h => h) (Or.inl ⟨by rfl, ?_⟩) ?_ ?_
                rotate_left
                · intro w'
                  go_simp
                  with_reducible rfl
                rotate_left
                · simp only [Act.put, List.setIfInBounds_toArray, List.set_cons_zero, List.set_cons_succ, i64_w, i32_w]
                  rfl
                refine take_ (i := 3) (N := some 101) (v := ?_) (a' := ?_) #[true, true, true, true, false, true, true, true, false, false, false] rfl rfl (take_ofW HT_.out HW_.out (by kernel_rfl)) (fun _ _ _ h => h) (Or.inl ⟨by rfl, ?_⟩) hHeld ?_ ?_
                rotate_left
                · intro w' hSt
                  have hx0 := cell_below HX0.out hSt
                  go_simp
                  with_reducible rfl
                rotate_left
                · simp only [Act.put, List.setIfInBounds_toArray, List.set_cons_zero, List.set_cons_succ, i64_w, i32_w]
                  rfl
                refine take_ (i := 4) (N := some 102) (v := ?_) (a' := ?_) #[true, true, true, true, true, true, true, true, false, false, false] rfl rfl (take_ofW HT_.out HW_.out (by kernel_rfl)) (fun _ _ _ h => h) (Or.inl ⟨by rfl, ?_⟩) hHeld ?_ ?_
                rotate_left
                · intro w' hSt
                  have hcv : (convert 22 9 (.slice AX x.length cX)).run Tryd.prog w' = .ok (.string (strOfNums x)) w' := Kd.C_string Tryd.underlying22 Tryd.underlying5 Tryd.underlying9 (Kd.C_below HXC.out hSt)
                  go_simp
                  with_reducible rfl
                rotate_left
                · simp only [Act.put, List.setIfInBounds_toArray, List.set_cons_zero, List.set_cons_succ, i64_w, i32_w]
                  rfl
                refine take_ (i := 8) (N := some 106) (v := ?_) (a' := ?_) #[true, true, true, true, true, true, true, true, true, false, false] rfl rfl (take_ofW HT_.out HW_.out (by kernel_rfl)) (fun _ _ _ h => h) (Or.inl ⟨by rfl, ?_⟩) hHeld ?_ ?_
                rotate_left
                · intro w' hSt
                  have hx1 := cell_below HU0.out hSt
                  go_simp
                  with_reducible rfl
                rotate_left
                · simp only [Act.put, List.setIfInBounds_toArray, List.set_cons_zero, List.set_cons_succ, i64_w, i32_w]
                  rfl
                refine take_ (i := 9) (N := some 107) (v := ?_) (a' := ?_) #[true, true, true, true, true, true, true, true, true, true, false] rfl rfl (take_ofW HT_.out HW_.out (by kernel_rfl)) (fun _ _ _ h => h) (Or.inl ⟨by rfl, ?_⟩) hHeld ?_ ?_
                rotate_left
                · intro w' hSt
                  have hcv : (convert 22 9 (.slice AU x.length cU)).run Tryd.prog w' = .ok (.string (strOfNums x)) w' := Kd.C_string Tryd.underlying22 Tryd.underlying5 Tryd.underlying9 (Kd.C_below HUC.out hSt)
                  go_simp
                  with_reducible rfl
                rotate_left
                · simp only [Act.put, List.setIfInBounds_toArray, List.set_cons_zero, List.set_cons_succ, i64_w, i32_w]
                  rfl
                refine pure_ (i := 10) (N := some 108) (v := ?_) (a' := ?_) #[true, true, true, true, true, true, true, true, true, true, true] rfl rfl (any_of HT_.out (by kernel_rfl)) (fun _ _ _ h => h) (Or.inl ⟨by rfl, ?_⟩) ?_ ?_
                rotate_left
                · intro w'
                  go_simp
                  with_reducible rfl
                rotate_left
                · simp only [Act.put, List.setIfInBounds_toArray, List.set_cons_zero, List.set_cons_succ, i64_w, i32_w]
                  rfl
                refine done_ (done_of HT_.out (by kernel_rfl)) ?_
                have HBZ := Aside0.mk (HBL.out.trans (hHeld.mono HBL.out.size))
                clear hS0 hHeld HT_ HW_ HBL
                go_wp2
                go_roundw
                case rel => exact ⟨i + 1, by omega, by go_num, HBZ⟩
                case measure => simp [intOf]; omega
              · obtain rfl : i = gs.length := by omega
                have HBF := Aside0.mk (below_step HB9.out HBL.out)
                clear hly hi
                go_wp2_with fail
                refine (known_calls _ (HTAB.out.below HBF.out)).mono ?_
                rintro e w8 ⟨rfl, hb⟩
                go_wp2
                go_ret
                exact ⟨rfl, below_step HBF.out hb⟩
theorem cuts_walk (a0 : Option Addr) (c0 : Nat) (x0 : List (List Int)) (a1 : Int) (w : World) (hT : Tab w) (C0 : Kd.C KB w a0 x0.length x0) (l0 : x0.length ≤ c0) (k0 : ∀ l ∈ x0, ∀ x ∈ l, (Lit.int .u8 x).wf = true) (k1 : (Lit.int .i64 a1).wf = true) :
    Calls Tryd.prog 5 #[.slice a0 x0.length c0, .int .i64 a1] w fun e w' => e = .returned (.bool true) ∧ Below w.heap.size w w' :=
  cuts_calls a0 c0 x0 a1 w C0 l0 (fun x hx => wf_bys (k0 x hx)) hT
end Go.Proofs.YtebjibkgefgalaaDoor.Jr
