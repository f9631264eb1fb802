/- What calls of Go functions of this seat come to, as the rows need it: under the conditions that each theorem names. -/
import Derived.Test.YticpifhnfpnibaaSameW
namespace Go.Proofs.Yticpifhnfpnibaa.Mem
open Go.RowKit Go.Proofs.YticpifhnfpnibaaW.PrintWords Go.Proofs.YticpifhnfpnibaaW.PrintLast Go.Proofs.YticpifhnfpnibaaW.PrintMore
set_option linter.unusedVariables false
set_option linter.unusedSimpArgs false
def plays_T17 : Bool × List (List Nat × List Nat) := (true, [([], []), ([], []), ([1], [1]), ([2], [2]), ([0, 3], [0, 3]), ([], []), ([], []), ([6], [6]), ([7], [7]), ([5, 8, 4], [5, 8]), ([4, 9], [4, 9])])
def plays_B17 : List Nat := [0, 0, 2, 6, 15, 0, 0, 64, 192, 511, 1023]
theorem plays_tab17 : rtab .any (opsOf Try.f6 17) = plays_T17 := by kernel_rfl
theorem plays_bits17 : waitsOk plays_T17.2 plays_B17 = true := by kernel_rfl
def plays_T20 : Bool × List (List Nat × List Nat) := (true, [([], []), ([], []), ([1], [1]), ([2], [2]), ([0, 3], [0, 3]), ([], []), ([], []), ([6], [6]), ([7], [7]), ([5, 8, 4], [5, 8]), ([4, 9], [4, 9])])
def plays_B20 : List Nat := [0, 0, 2, 6, 15, 0, 0, 64, 192, 511, 1023]
theorem plays_tab20 : rtab .any (opsOf Try.f6 20) = plays_T20 := by kernel_rfl
theorem plays_bits20 : waitsOk plays_T20.2 plays_B20 = true := by kernel_rfl
set_option maxHeartbeats 6400000 in
set_option maxRecDepth 100000 in
theorem plays_calls (s n inc : Int) (A3 : Option Addr) (c3 : Nat) (xs : List (Int × U)) (w : World) (hr3 : KO.C w A3 xs.length xs) (hc3 : xs.length ≤ c3) (hinc : 0 ≤ inc) (hxs : ∀ o ∈ xs, 0 ≤ o.2.2.2) :
    Calls Try.prog 6 #[.int .i64 s, .int .i64 n, .int .u64 inc, .slice A3 xs.length c3] w fun e w' => e = .returned (.bool true) ∧ Below w.heap.size w w' := by
  have HR3 := Aside0.mk hr3
  have hl3 : xs.length ≤ 9223372036854775807 := hr3.2.1
  have HXS := Aside0.mk hxs
  clear hr3 hxs
  by_cases hmay : mayNew s n inc
  rotate_left
  · have H := Aside0.mk (new_nil s n inc w hmay)
    have H2 := Aside0.mk (rnew_nil s n inc w hmay)
    clear hmay
    by_cases hbig : 200 < xs.length
    · have hb1 : decide ((xs.length : Int) > 200) = true := decide_eq_true (by omega)
      go_enter Try.func6, Try.ntmps6
      go_wp2_with fail
      refine H.out.mono ?_
      rintro e w1 ⟨rfl, rfl⟩
      go_wp2_with fail
      refine H2.out.mono ?_
      rintro e w2 ⟨rfl, rfl⟩
      go_wp2_with fail
      refine (known_calls _).mono ?_
      rintro e w3 ⟨rfl, hb⟩
      go_wp2
      go_ret
      exact ⟨rfl, hb⟩
    · have hb1 : decide ((xs.length : Int) > 200) = false := decide_eq_false (by omega)
      go_enter Try.func6, Try.ntmps6
      go_wp2_with fail
      refine H.out.mono ?_
      rintro e w1 ⟨rfl, rfl⟩
      go_wp2_with fail
      refine H2.out.mono ?_
      rintro e w2 ⟨rfl, rfl⟩
      go_wp2_with fail
      refine (known_calls _).mono ?_
      rintro e w3 ⟨rfl, hb⟩
      go_wp2
      go_ret
      exact ⟨rfl, hb⟩
  have H1 := fun w => new_calls s n inc w hmay hinc
  have H2 := fun w => rnew_calls s n inc w hmay
  obtain ⟨h1, h2, h3, h4, h5⟩ := hmay
  obtain ⟨s, rfl⟩ := Int.eq_ofNat_of_zero_le h3
  obtain ⟨n, rfl⟩ := Int.eq_ofNat_of_zero_le (a := n) (by omega)
  simp only [Int.toNat_natCast] at H1 H2
  have HNEW := Aside0.mk H1
  have HRNEW := Aside0.mk H2
  have hn0 : 0 < n := by omega
  have hn16 : n ≤ 16 := by omega
  have hsn : s < n := by omega
  have HG := Aside0.mk (good_first s n inc h5)
  have HA := Aside0.mk (first_alive s n inc hsn)
  generalize first s n inc = f0 at HNEW HRNEW HG HA
  clear H1 H2 h1 h2 h3 h4 h5
  by_cases hbig : 200 < xs.length
  · have hb1 : decide ((xs.length : Int) > 200) = true := decide_eq_true (by omega)
    go_enter Try.func6, Try.ntmps6
    go_wp2_with fail
    refine (HNEW.out _).mono ?_
    rintro e w1 ⟨rfl, hb, hm⟩
    have HB := Aside0.mk hb
    clear hb hm
    go_wp2_with fail
    refine (HRNEW.out _).mono ?_
    rintro e w2 ⟨rfl, hb, hm⟩
    replace HB := Aside0.mk (below_step HB.out hb)
    clear hb hm
    go_wp2_with fail
    refine (known_calls _).mono ?_
    rintro e w3 ⟨rfl, hb⟩
    go_wp2
    go_ret
    exact ⟨rfl, below_step HB.out hb⟩
  have hb1 : decide ((xs.length : Int) > 200) = false := decide_eq_false (by omega)
  clear hbig
  go_enter Try.func6, Try.ntmps6
  go_wp2_with fail
  refine (HNEW.out _).mono ?_
  rintro e w1 ⟨rfl, hb, hm⟩
  have HB := Aside0.mk hb
  have HM := Aside0.mk hm
  clear hb hm
  generalize hg1 : w.heap.size = m0 at HM ⊢
  have hwm0 : w.heap.size ≤ m0 := Nat.le_of_eq hg1
  clear hg1
  have hlt := HM.out.lt
  go_wp2_with fail
  refine (HRNEW.out _).mono ?_
  rintro e w2 ⟨rfl, hb, g, cap, hgl, hm⟩
  replace HB := Aside0.mk (below_step HB.out hb)
  replace HM := Aside0.mk (HM.out.below hb)
  have HR := Aside0.mk hm
  clear hb hm
  generalize w1.heap.size = r at HR hgl hlt ⊢
  have hwg : w.heap.size ≤ g := by omega
  have hwr : w.heap.size ≤ r := by omega
  have hmr0 : m0 ≠ r := by omega
  have hmg0 : m0 ≠ g := by omega
  clear hlt hgl HNEW HRNEW
  go_wp2
  go_loopw [9, 52] (fun p i wr => ∃ (k : Nat) (f : Nat → U) (m : Nat), k ≤ xs.length ∧ i = .int .i64 k ∧ p = .pointer (some ⟨m, 0, none⟩) ∧ Aside0 (Below w.heap.size w wr) ∧ Aside0 (Mem wr m s n f) ∧ Aside0 (RM wr r g cap s n f) ∧ Aside0 (Good n f ∧ (f s).2.1 = 1) ∧ w.heap.size ≤ m ∧ m ≠ r ∧ m ≠ g) (fun _ i _ => xs.length - (intOf i).toNat)
  case atStart => exact ⟨0, f0, m0, Nat.zero_le _, rfl, rfl, HB, HM, HR, ⟨HG.out, HA.out⟩, hwm0, hmr0, hmg0⟩
  case round =>
    clear HB HM HR HG HA hwm0 hmr0 hmg0
    obtain ⟨k, f, m, hk, rfl, rfl, HB, HM, HR, HP, hwm, hmr, hmg⟩ := hrel
    by_cases hlt : k < xs.length
    · obtain ⟨ad, rfl, x0, x1, x2, x3⟩ := row_co (Kd.C_below HR3.out HB.out) k hlt xs[k] (List.getElem?_eq_getElem hlt)
      have HU := Aside0.mk (HXS.out xs[k] (List.getElem_mem hlt))
      generalize xs[k] = o at x0 x1 x2 x3 HU
      go_upto_region 11 with (fail)
      have hb := (Below.refl wr.heap.size wr).alloc (Nat.le_refl _) (.cells #[.int .i64 o.1, .int .i64 o.2.1, .int .u8 o.2.2.1, .int .u64 o.2.2.2] 39 (0, 0))
      have HO := Aside0.mk (show BoxO (wr.alloc (.cells #[.int .i64 o.1, .int .i64 o.2.1, .int .u8 o.2.2.1, .int .u64 o.2.2.2] 39 (0, 0))) wr.heap.size o from heap_new _ _)
      have hmb := HM.out.lt
      have hgb := HR.out.lt.2
      replace HB := Aside0.mk (below_step HB.out hb)
      replace HM := Aside0.mk (HM.out.below hb)
      replace HR := Aside0.mk (HR.out.below hb)
      clear hb x0 x1 x2 x3
      generalize wr.alloc _ = w3 at HB HM HR HO ⊢
      generalize wr.heap.size = b at HO hmb hgb ⊢
      have hbm : b ≠ m := by omega
      have hbg : b ≠ g := by omega
      clear hmb hgb
      obtain ⟨o0, o1, o2, o3⟩ := HO.out.cu
      go_upto_block 2 with (fail)
      go_cut [9] (fun p wc => ∃ f' m', p = .pointer (some ⟨m', 0, none⟩) ∧ Aside0 (Below w.heap.size w wc) ∧ Aside0 (Mem wc m' s n f') ∧ Aside0 (RM wc r g cap s n f') ∧ Aside0 (Good n f' ∧ (f' s).2.1 = 1) ∧ w.heap.size ≤ m' ∧ m' ≠ r ∧ m' ≠ g)
      case first =>
        by_cases hk1 : o.1 = 1
        · have hk1' : (o.1 == 1) = true := by simp [hk1]
          clear hk1
          go_wp2_with fail
          have HST := Aside0.mk (step_turn HP.out.1 HP.out.2 o.2.1 1 2 (by omega))
          have hD := below_drew1 (Below.refl w3.heap.size w3)
          replace HB := Aside0.mk (below_step HB.out hD)
          replace HM := Aside0.mk (HM.out.below hD)
          replace HR := Aside0.mk (HR.out.below hD)
          have hS0 := HO.out.below hD
          clear hD HO
          refine start_ (n := 11) (S := fun w' => BoxO w' b o) (ds := []) #[false, false, false, false, false, false, false, false, false, false, false] (by kernel_rfl) rfl rfl (by exact hS0) (fun hHeld => ?_)
          refine with_tabW plays_tab17 plays_bits17 (fun HT_ HW_ => ?_)
          generalize w3.drew = wE at hHeld HB HM HR ⊢
          refine pure_ (i := 0) (N := some 85) (v := ?_) (a' := ?_) #[true, false, false, false, false, false, false, false, false, false, false] rfl rfl (any_of HT_.out (by kernel_rfl)) (fun _ _ _ h => h) (Or.inl ⟨by rfl, ?_⟩) ?_ ?_
          rotate_left
          · intro w'
            go_simp
            with_reducible rfl
          rotate_left
          · simp only [Act.put, List.setIfInBounds_toArray, List.set_cons_zero, List.set_cons_succ, i64_w, i32_w]
            rfl
          refine pure_ (i := 1) (N := some 86) (v := ?_) (a' := ?_) #[true, true, false, false, false, false, false, false, false, false, false] rfl rfl (any_of HT_.out (by kernel_rfl)) (fun _ _ _ h => h) (Or.inl ⟨by rfl, ?_⟩) ?_ ?_
          rotate_left
          · intro w'
            go_simp
            with_reducible rfl
          rotate_left
          · simp only [Act.put, List.setIfInBounds_toArray, List.set_cons_zero, List.set_cons_succ, i64_w, i32_w]
            rfl
          refine pure_ (i := 2) (N := some 87) (v := ?_) (a' := ?_) #[true, true, true, false, false, false, false, false, false, false, false] rfl rfl (any_of HT_.out (by kernel_rfl)) (fun _ _ _ h => h) (Or.inl ⟨by rfl, ?_⟩) ?_ ?_
          rotate_left
          · intro w'
            go_simp
            with_reducible rfl
          rotate_left
          · simp only [Act.put, List.setIfInBounds_toArray, List.set_cons_zero, List.set_cons_succ, i64_w, i32_w]
            rfl
          refine take_ (i := 3) (N := some 88) (v := ?_) (a' := ?_) #[true, true, true, true, false, false, false, false, false, false, false] rfl rfl (take_ofW HT_.out HW_.out (by kernel_rfl)) (fun _ _ _ h => h) (Or.inl ⟨by rfl, ?_⟩) hHeld ?_ ?_
          rotate_left
          · intro w' hSt
            obtain ⟨o0, o1, o2, o3⟩ := hSt.cu
            go_simp
            with_reducible rfl
          rotate_left
          · simp only [Act.put, List.setIfInBounds_toArray, List.set_cons_zero, List.set_cons_succ, i64_w, i32_w]
            rfl
          refine pure_ (i := 5) (N := some 90) (v := ?_) (a' := ?_) #[true, true, true, true, false, true, false, false, false, false, false] rfl rfl (any_of HT_.out (by kernel_rfl)) (fun _ _ _ h => h) (Or.inl ⟨by rfl, ?_⟩) ?_ ?_
          rotate_left
          · intro w'
            go_simp
            with_reducible rfl
          rotate_left
          · simp only [Act.put, List.setIfInBounds_toArray, List.set_cons_zero, List.set_cons_succ, i64_w, i32_w]
            rfl
          refine pure_ (i := 6) (N := some 91) (v := ?_) (a' := ?_) #[true, true, true, true, false, true, true, false, false, false, false] rfl rfl (any_of HT_.out (by kernel_rfl)) (fun _ _ _ h => h) (Or.inl ⟨by rfl, ?_⟩) ?_ ?_
          rotate_left
          · intro w'
            go_simp
            with_reducible rfl
          rotate_left
          · simp only [Act.put, List.setIfInBounds_toArray, List.set_cons_zero, List.set_cons_succ, i64_w, i32_w]
            rfl
          refine pure_ (i := 7) (N := some 92) (v := ?_) (a' := ?_) #[true, true, true, true, false, true, true, true, false, false, false] rfl rfl (any_of HT_.out (by kernel_rfl)) (fun _ _ _ h => h) (Or.inl ⟨by rfl, ?_⟩) ?_ ?_
          rotate_left
          · intro w'
            go_simp
            with_reducible rfl
          rotate_left
          · simp only [Act.put, List.setIfInBounds_toArray, List.set_cons_zero, List.set_cons_succ, i64_w, i32_w]
            rfl
          refine take_ (i := 8) (N := some 93) (v := ?_) (a' := ?_) #[true, true, true, true, false, true, true, true, true, false, false] rfl rfl (take_ofW HT_.out HW_.out (by kernel_rfl)) (fun _ _ _ h => h) (Or.inl ⟨by rfl, ?_⟩) hHeld ?_ ?_
          rotate_left
          · intro w' hSt
            obtain ⟨o0, o1, o2, o3⟩ := hSt.cu
            go_simp
            with_reducible rfl
          rotate_left
          · simp only [Act.put, List.setIfInBounds_toArray, List.set_cons_zero, List.set_cons_succ, i64_w, i32_w]
            rfl
          refine one_ (i := 4) (N := some 89) #[true, true, true, true, true, true, true, true, true, false, false] rfl rfl (one_of HT_.out (by kernel_rfl)) (by decide) (fun K hK => ?_)
          refine goes_ Try.func13 (by kernel_rfl) rfl #[.pointer (some ⟨m, 0, none⟩), .int .i64 o.2.1] (by rfl) rfl rfl (by simp only [List.map_toArray, List.map_cons, List.map_nil]; rfl) ?_
          refine (suspect_calls m s n f o.2.1 _ HM.out hn16).mono ?_
          rintro e w6 ⟨rfl, hch, hm⟩
          refine ⟨_, rfl, ?_⟩
          have hS1 := hHeld.ch hch hbm
          have HB6 := Aside0.mk (below_chg HB.out hch hwm HM.out.lt)
          have HR6 := Aside0.mk (HR.out.ch hch hmr hmg)
          have HM6 := Aside0.mk hm
          clear hch hm
          refine hK.out _ _ (by exact hS1) (fun hHeld => ?_)
          clear hK K
          refine norm_ (a' := ?_) ?_ ?_
          rotate_left
          · first
            | (show Act.put _ (some 89) _ = _; simp only [Act.put, List.setIfInBounds_toArray, List.set_cons_zero, List.set_cons_succ, i64_w, i32_w]; rfl)
            | rfl
          refine one_ (i := 9) (N := some 94) #[true, true, true, true, true, true, true, true, true, true, false] rfl rfl (one_of HT_.out (by kernel_rfl)) (by decide) (fun K hK => ?_)
          refine goes_ Try.func17 (by kernel_rfl) rfl #[.pointer (some ⟨r, 0, none⟩), .int .i64 o.2.1, .int .u8 1, .int .u8 2] (by rfl) rfl rfl (by simp only [List.map_toArray, List.map_cons, List.map_nil]; rfl) ?_
          refine (rturn_calls r g cap s n f o.2.1 1 2 _ HR6.out hn16).mono ?_
          rintro e w7 ⟨rfl, hch, hm⟩
          refine ⟨_, rfl, ?_⟩
          have hS1 := hHeld.ch hch hbg
          have HB7 := Aside0.mk (below_chg HB6.out hch hwg HR6.out.lt.2)
          have HM7 := Aside0.mk (HM6.out.ch hch hmg)
          have HR7 := Aside0.mk hm
          clear hch hm
          refine hK.out _ _ (by exact hS1) (fun hHeld => ?_)
          clear hK K
          refine norm_ (a' := ?_) ?_ ?_
          rotate_left
          · first
            | (show Act.put _ (some 94) _ = _; simp only [Act.put, List.setIfInBounds_toArray, List.set_cons_zero, List.set_cons_succ, i64_w, i32_w]; rfl)
            | rfl
          refine pure_ (i := 10) (N := some 95) (v := ?_) (a' := ?_) #[true, true, true, true, true, true, true, true, true, true, true] rfl rfl (any_of HT_.out (by kernel_rfl)) (fun _ _ _ h => h) (Or.inl ⟨by rfl, ?_⟩) ?_ ?_
          rotate_left
          · intro w'
            go_simp
            with_reducible rfl
          rotate_left
          · simp only [Act.put, List.setIfInBounds_toArray, List.set_cons_zero, List.set_cons_succ, i64_w, i32_w]
            rfl
          refine done_ (done_of HT_.out (by kernel_rfl)) ?_
          clear hS0 hHeld HT_ HW_
          generalize (if (0 ≤ o.2.1 ∧ o.2.1 < (n : Int)) ∧ o.2.1 ≠ (s : Int) ∧ (f o.2.1.toNat).2.1 = 1 then upd f o.2.1.toNat ((f o.2.1.toNat).1, 2, (f o.2.1.toNat).2.2) else f) = f' at HST HM7 HR7
          go_wp2
          go_meet
          case rel => exact ⟨f', m, rfl, HB7, HM7, HR7, ⟨HST.out.1, HST.out.2.1⟩, hwm, hmr, hmg⟩
        have hk1' : (o.1 == 1) = false := by simp [hk1]
        by_cases hk2 : o.1 = 2
        · have hk2' : (o.1 == 2) = true := by simp [hk2]
          clear hk1 hk2
          go_wp2_with fail
          have HST := Aside0.mk (step_turn HP.out.1 HP.out.2 o.2.1 2 3 (by omega))
          have hD := below_drew1 (Below.refl w3.heap.size w3)
          replace HB := Aside0.mk (below_step HB.out hD)
          replace HM := Aside0.mk (HM.out.below hD)
          replace HR := Aside0.mk (HR.out.below hD)
          have hS0 := HO.out.below hD
          clear hD HO
          refine start_ (n := 11) (S := fun w' => BoxO w' b o) (ds := []) #[false, false, false, false, false, false, false, false, false, false, false] (by kernel_rfl) rfl rfl (by exact hS0) (fun hHeld => ?_)
          refine with_tabW plays_tab20 plays_bits20 (fun HT_ HW_ => ?_)
          generalize w3.drew = wE at hHeld HB HM HR ⊢
          refine pure_ (i := 0) (N := some 98) (v := ?_) (a' := ?_) #[true, false, false, false, false, false, false, false, false, false, false] rfl rfl (any_of HT_.out (by kernel_rfl)) (fun _ _ _ h => h) (Or.inl ⟨by rfl, ?_⟩) ?_ ?_
          rotate_left
          · intro w'
            go_simp
            with_reducible rfl
          rotate_left
          · simp only [Act.put, List.setIfInBounds_toArray, List.set_cons_zero, List.set_cons_succ, i64_w, i32_w]
            rfl
          refine pure_ (i := 1) (N := some 99) (v := ?_) (a' := ?_) #[true, true, false, false, false, false, false, false, false, false, false] rfl rfl (any_of HT_.out (by kernel_rfl)) (fun _ _ _ h => h) (Or.inl ⟨by rfl, ?_⟩) ?_ ?_
          rotate_left
          · intro w'
            go_simp
            with_reducible rfl
          rotate_left
          · simp only [Act.put, List.setIfInBounds_toArray, List.set_cons_zero, List.set_cons_succ, i64_w, i32_w]
            rfl
          refine pure_ (i := 2) (N := some 100) (v := ?_) (a' := ?_) #[true, true, true, false, false, false, false, false, false, false, false] rfl rfl (any_of HT_.out (by kernel_rfl)) (fun _ _ _ h => h) (Or.inl ⟨by rfl, ?_⟩) ?_ ?_
          rotate_left
          · intro w'
            go_simp
            with_reducible rfl
          rotate_left
          · simp only [Act.put, List.setIfInBounds_toArray, List.set_cons_zero, List.set_cons_succ, i64_w, i32_w]
            rfl
          refine take_ (i := 3) (N := some 101) (v := ?_) (a' := ?_) #[true, true, true, true, false, false, false, false, false, false, false] rfl rfl (take_ofW HT_.out HW_.out (by kernel_rfl)) (fun _ _ _ h => h) (Or.inl ⟨by rfl, ?_⟩) hHeld ?_ ?_
          rotate_left
          · intro w' hSt
            obtain ⟨o0, o1, o2, o3⟩ := hSt.cu
            go_simp
            with_reducible rfl
          rotate_left
          · simp only [Act.put, List.setIfInBounds_toArray, List.set_cons_zero, List.set_cons_succ, i64_w, i32_w]
            rfl
          refine pure_ (i := 5) (N := some 103) (v := ?_) (a' := ?_) #[true, true, true, true, false, true, false, false, false, false, false] rfl rfl (any_of HT_.out (by kernel_rfl)) (fun _ _ _ h => h) (Or.inl ⟨by rfl, ?_⟩) ?_ ?_
          rotate_left
          · intro w'
            go_simp
            with_reducible rfl
          rotate_left
          · simp only [Act.put, List.setIfInBounds_toArray, List.set_cons_zero, List.set_cons_succ, i64_w, i32_w]
            rfl
          refine pure_ (i := 6) (N := some 104) (v := ?_) (a' := ?_) #[true, true, true, true, false, true, true, false, false, false, false] rfl rfl (any_of HT_.out (by kernel_rfl)) (fun _ _ _ h => h) (Or.inl ⟨by rfl, ?_⟩) ?_ ?_
          rotate_left
          · intro w'
            go_simp
            with_reducible rfl
          rotate_left
          · simp only [Act.put, List.setIfInBounds_toArray, List.set_cons_zero, List.set_cons_succ, i64_w, i32_w]
            rfl
          refine pure_ (i := 7) (N := some 105) (v := ?_) (a' := ?_) #[true, true, true, true, false, true, true, true, false, false, false] rfl rfl (any_of HT_.out (by kernel_rfl)) (fun _ _ _ h => h) (Or.inl ⟨by rfl, ?_⟩) ?_ ?_
          rotate_left
          · intro w'
            go_simp
            with_reducible rfl
          rotate_left
          · simp only [Act.put, List.setIfInBounds_toArray, List.set_cons_zero, List.set_cons_succ, i64_w, i32_w]
            rfl
          refine take_ (i := 8) (N := some 106) (v := ?_) (a' := ?_) #[true, true, true, true, false, true, true, true, true, false, false] rfl rfl (take_ofW HT_.out HW_.out (by kernel_rfl)) (fun _ _ _ h => h) (Or.inl ⟨by rfl, ?_⟩) hHeld ?_ ?_
          rotate_left
          · intro w' hSt
            obtain ⟨o0, o1, o2, o3⟩ := hSt.cu
            go_simp
            with_reducible rfl
          rotate_left
          · simp only [Act.put, List.setIfInBounds_toArray, List.set_cons_zero, List.set_cons_succ, i64_w, i32_w]
            rfl
          refine one_ (i := 4) (N := some 102) #[true, true, true, true, true, true, true, true, true, false, false] rfl rfl (one_of HT_.out (by kernel_rfl)) (by decide) (fun K hK => ?_)
          refine goes_ Try.func14 (by kernel_rfl) rfl #[.pointer (some ⟨m, 0, none⟩), .int .i64 o.2.1] (by rfl) rfl rfl (by simp only [List.map_toArray, List.map_cons, List.map_nil]; rfl) ?_
          refine (kill_calls m s n f o.2.1 _ HM.out hn16).mono ?_
          rintro e w6 ⟨rfl, hch, hm⟩
          refine ⟨_, rfl, ?_⟩
          have hS1 := hHeld.ch hch hbm
          have HB6 := Aside0.mk (below_chg HB.out hch hwm HM.out.lt)
          have HR6 := Aside0.mk (HR.out.ch hch hmr hmg)
          have HM6 := Aside0.mk hm
          clear hch hm
          refine hK.out _ _ (by exact hS1) (fun hHeld => ?_)
          clear hK K
          refine norm_ (a' := ?_) ?_ ?_
          rotate_left
          · first
            | (show Act.put _ (some 102) _ = _; simp only [Act.put, List.setIfInBounds_toArray, List.set_cons_zero, List.set_cons_succ, i64_w, i32_w]; rfl)
            | rfl
          refine one_ (i := 9) (N := some 107) #[true, true, true, true, true, true, true, true, true, true, false] rfl rfl (one_of HT_.out (by kernel_rfl)) (by decide) (fun K hK => ?_)
          refine goes_ Try.func17 (by kernel_rfl) rfl #[.pointer (some ⟨r, 0, none⟩), .int .i64 o.2.1, .int .u8 2, .int .u8 3] (by rfl) rfl rfl (by simp only [List.map_toArray, List.map_cons, List.map_nil]; rfl) ?_
          refine (rturn_calls r g cap s n f o.2.1 2 3 _ HR6.out hn16).mono ?_
          rintro e w7 ⟨rfl, hch, hm⟩
          refine ⟨_, rfl, ?_⟩
          have hS1 := hHeld.ch hch hbg
          have HB7 := Aside0.mk (below_chg HB6.out hch hwg HR6.out.lt.2)
          have HM7 := Aside0.mk (HM6.out.ch hch hmg)
          have HR7 := Aside0.mk hm
          clear hch hm
          refine hK.out _ _ (by exact hS1) (fun hHeld => ?_)
          clear hK K
          refine norm_ (a' := ?_) ?_ ?_
          rotate_left
          · first
            | (show Act.put _ (some 107) _ = _; simp only [Act.put, List.setIfInBounds_toArray, List.set_cons_zero, List.set_cons_succ, i64_w, i32_w]; rfl)
            | rfl
          refine pure_ (i := 10) (N := some 108) (v := ?_) (a' := ?_) #[true, true, true, true, true, true, true, true, true, true, true] rfl rfl (any_of HT_.out (by kernel_rfl)) (fun _ _ _ h => h) (Or.inl ⟨by rfl, ?_⟩) ?_ ?_
          rotate_left
          · intro w'
            go_simp
            with_reducible rfl
          rotate_left
          · simp only [Act.put, List.setIfInBounds_toArray, List.set_cons_zero, List.set_cons_succ, i64_w, i32_w]
            rfl
          refine done_ (done_of HT_.out (by kernel_rfl)) ?_
          clear hS0 hHeld HT_ HW_
          generalize (if (0 ≤ o.2.1 ∧ o.2.1 < (n : Int)) ∧ o.2.1 ≠ (s : Int) ∧ (f o.2.1.toNat).2.1 = 2 then upd f o.2.1.toNat ((f o.2.1.toNat).1, 3, (f o.2.1.toNat).2.2) else f) = f' at HST HM7 HR7
          go_wp2
          go_meet
          case rel => exact ⟨f', m, rfl, HB7, HM7, HR7, ⟨HST.out.1, HST.out.2.1⟩, hwm, hmr, hmg⟩
        have hk2' : (o.1 == 2) = false := by simp [hk2]
        by_cases hk3 : o.1 = 3
        · have hk3' : (o.1 == 3) = true := by simp [hk3]
          clear hk1 hk2 hk3
          go_wp2_with fail
          refine (copy_calls m s n f _ HM.out hn0).mono ?_
          rintro e w6 ⟨m', hm'1, rfl, hb, hm'⟩
          have hlm := HM.out.lt
          have hlr := HR.out.lt
          replace HB := Aside0.mk (below_step HB.out hb)
          replace HM := Aside0.mk (HM.out.below hb)
          replace HR := Aside0.mk (HR.out.below hb)
          have HM' := Aside0.mk hm'
          have hmm : m' ≠ m := by omega
          have hmr' : m' ≠ r := by omega
          have hmg' : m' ≠ g := by omega
          have hwm' : w.heap.size ≤ m' := by omega
          clear hb hm' hm'1 hlm hlr o0 o1 o2 o3
          go_wp2
          go_loopw [116] (fun i wr => ∃ (j : Nat) (ff : Nat → U), j ≤ n ∧ i = .int .i64 j ∧ Aside0 (Below w.heap.size w wr) ∧ Aside0 (Mem wr m s n ff) ∧ Aside0 (Mem wr m' s n f) ∧ Aside0 (RM wr r g cap s n f)) (fun i _ => n - (intOf i).toNat)
          case atStart => exact ⟨0, f, Nat.zero_le _, rfl, HB, HM, HM', HR⟩
          case round =>
            clear HB HM HM' HR
            obtain ⟨j, ff, hj, rfl, HB, HM, HM', HR⟩ := hrel
            by_cases hj1 : j < n
            · go_wp2_with fail
              refine (hear_calls m s n ff j 3 1099511627776 _ HM.out hn0 hn16 (by omega)).mono ?_
              rintro e w7 ⟨rfl, hch, hm⟩
              replace HB := Aside0.mk (below_chg HB.out hch hwm HM.out.lt)
              replace HM' := Aside0.mk (HM'.out.ch hch hmm)
              replace HR := Aside0.mk (HR.out.ch hch hmr hmg)
              replace HM := Aside0.mk hm
              clear hch hm
              go_wp2
              go_roundw
              case rel => exact ⟨j + 1, _, by omega, by go_num, HB, HM, HM', HR⟩
              case measure => simp [intOf]; omega
            · obtain rfl : j = n := by omega
              clear hj1 hj
              go_wp2
              go_meet
              case rel => exact ⟨f, m', rfl, HB, HM', HR, HP, hwm', hmr', hmg'⟩
        have hk3' : (o.1 == 3) = false := by simp [hk3]
        clear hk1 hk2 hk3
        go_wp2_with fail
        refine (hear_calls m s n f o.2.1 o.2.2.1 o.2.2.2 _ HM.out hn0 hn16 HU.out).mono ?_
        rintro e w5 ⟨rfl, hch, hm⟩
        have HST := Aside0.mk (step_hear HP.out.1 HP.out.2 o.2)
        replace HB := Aside0.mk (below_chg HB.out hch hwm HM.out.lt)
        replace HO := Aside0.mk (HO.out.ch hch hbm)
        replace HR := Aside0.mk (HR.out.ch hch hmr hmg)
        replace HM := Aside0.mk (show Mem w5 m s n (hearF s n f o.2) from hm)
        clear hch hm o0 o1 o2 o3
        obtain ⟨o0, o1, o2, o3⟩ := HO.out.cu
        go_wp2_with fail
        refine (rhear_calls r g cap s n f o.2.1 o.2.2.1 o.2.2.2 _ HR.out hn16 HU.out).mono ?_
        rintro e w6 ⟨rfl, hch, hm⟩
        replace HB := Aside0.mk (below_chg HB.out hch hwg HR.out.lt.2)
        replace HM := Aside0.mk (HM.out.ch hch hmg)
        replace HR := Aside0.mk (show RM w6 r g cap s n (hearF s n f o.2) from hm)
        clear hch hm o0 o1 o2 o3 HO
        generalize hearF s n f o.2 = f' at HST HM HR
        generalize hearB s n f (o.2.1, o.2.2.1, o.2.2.2) = bb
        generalize hearE n (o.2.1, o.2.2.1, o.2.2.2) = ee
        go_wp2
        go_meet
        case rel => exact ⟨f', m, rfl, HB, HM, HR, ⟨HST.out.1, HST.out.2.1⟩, hwm, hmr, hmg⟩
      case rest =>
        obtain ⟨f', m', rfl, HB, HM, HR, HP, hwm', hmr', hmg'⟩ := hcut
        go_wp2_with fail
        refine (same_calls m' r g cap s n f' _ HM.out HR.out HP.out.1 hsn hn16).mono ?_
        rintro e w8 ⟨rfl, hb⟩
        replace HB := Aside0.mk (below_step HB.out hb)
        replace HM := Aside0.mk (HM.out.below hb)
        replace HR := Aside0.mk (HR.out.below hb)
        clear hb
        go_wp2
        go_roundw
        case rel => exact ⟨k + 1, f', m', by omega, by go_num, rfl, HB, HM, HR, HP, hwm', hmr', hmg'⟩
        case measure => simp [intOf]; omega
    · obtain rfl : k = xs.length := by omega
      clear hlt hk
      go_wp2_with fail
      refine (same_calls m r g cap s n f _ HM.out HR.out HP.out.1 hsn hn16).mono ?_
      rintro e w8 ⟨rfl, hb⟩
      replace HB := Aside0.mk (below_step HB.out hb)
      clear hb
      go_wp2_with fail
      refine (known_calls _).mono ?_
      rintro e w9 ⟨rfl, hbk⟩
      go_wp2
      go_ret
      exact ⟨rfl, below_step HB.out hbk⟩
theorem plays_walk (a0 a1 a2 : Int) (a3 : Option Addr) (c3 : Nat) (x3 : List (Int × U)) (w : World)
    (k0 : (Lit.int .i64 a0).wf = true) (k1 : (Lit.int .i64 a1).wf = true) (k2 : (Lit.int .u64 a2).wf = true) (C3 : KO.C w a3 x3.length x3) (l3 : x3.length ≤ c3) (k3 : ∀ o ∈ x3, Open.okU o.2) :
    Calls Try.prog 6 #[.int .i64 a0, .int .i64 a1, .int .u64 a2, .slice a3 x3.length c3] w fun e w' => e = .returned (.bool true) ∧ Below w.heap.size w w' :=
  plays_calls a0 a1 a2 a3 c3 x3 w C3 l3 (Open.bounds_u64' k2) (fun o ho => Open.bounds_u64' (k3 o ho).2.2)
end Go.Proofs.Yticpifhnfpnibaa.Mem
