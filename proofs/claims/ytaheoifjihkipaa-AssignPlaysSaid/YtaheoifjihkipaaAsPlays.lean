/- What calls of Go functions of this seat come to, as the rows need it: under the conditions that each theorem names. -/
import Derived.Test.YtaheoifjihkipaaAsPA
import Derived.Test.YtaheoifjihkipaaWTab
namespace Go.Proofs.Ytaheoifjihkipaa.As
open Go.RowKit Go.Proofs.YtaheoifjihkipaaW.PrintWords Go.Proofs.YtaheoifjihkipaaW.PrintLast Go.Proofs.YtaheoifjihkipaaW.PrintMore
set_option linter.unusedVariables false
set_option linter.unusedSimpArgs false
open Go.Proofs.Ytaheoifjihkipaa.Open (Op4)
set_option maxHeartbeats 3200000 in
set_option maxRecDepth 100000 in
theorem plays_out (a0 a1 a2 a3 : Int) (a4 : Option Addr) (c4 : Nat) (x4 : List Op4) (w : World) (h : mayB a0 a1 a2 a3 = false) :
    Calls Try.prog 7 #[.int .i64 a0, .int .i64 a1, .int .i64 a2, .int .i64 a3, .slice a4 x4.length c4] w fun e w' => e = .returned (.bool true) ∧ Below w.heap.size w w' := by
  have H := Aside0.mk (new_no a0 a1 a2 a3 w h)
  have H2 := Aside0.mk (rmay_calls a0 a1 a2 a3 w)
  rw [h] at H2
  clear h
  generalize x4.length = len
  go_enter Try.func7, Try.ntmps7
  go_wp2_with fail
  refine H.out.mono ?_
  rintro e w1 ⟨rfl, hw⟩
  replace hw := hw.symm
  subst hw
  go_wp2_with fail
  refine H2.out.mono ?_
  rintro e w1 ⟨rfl, hw⟩
  replace hw := hw.symm
  subst hw
  go_wp2_with fail
  refine (known_calls _).mono ?_
  rintro e w2 ⟨rfl, hb⟩
  have HB2 := Aside0.mk hb
  clear hb
  go_wp2
  go_ret
  exact ⟨rfl, HB2.out⟩
set_option maxHeartbeats 3200000 in
set_option maxRecDepth 100000 in
theorem plays_long (n m : Nat) (win tm : Int) (a4 : Option Addr) (c4 len : Nat) (w : World) (h : mayB n m win tm = true) (hl : 150 < len) :
    Calls Try.prog 7 #[.int .i64 n, .int .i64 m, .int .i64 win, .int .i64 tm, .slice a4 len c4] w fun e w' => e = .returned (.bool true) ∧ Below w.heap.size w w' := by
  have H := Aside0.mk (new_at n m win tm w h)
  have H2 := Aside0.mk (fun w' => rmay_calls (n : Int) (m : Int) win tm w')
  rw [h] at H2
  have e1 : decide ((len : Int) > 150) = true := decide_eq_true (by omega)
  have e2 : decide (len > 150) = true := decide_eq_true (by omega)
  clear h hl
  go_enter Try.func7, Try.ntmps7
  go_wp2_with fail
  refine H.out.mono ?_
  rintro e w1 ⟨p, gc, gd, gm, cc, cd, rfl, hpw, hb, l1, l2, l3, l4⟩
  have HB := Aside0.mk hb
  clear hb hpw l1 l2 l3 l4
  go_wp2_with fail
  refine (H2.out _).mono ?_
  rintro e w2 ⟨rfl, hw⟩
  replace hw := hw.symm
  subst hw
  go_wp2_with fail
  refine (known_calls _).mono ?_
  rintro e w2 ⟨rfl, hb⟩
  have HB2 := Aside0.mk (below_step HB.out hb)
  clear hb
  go_wp2
  go_ret
  exact ⟨rfl, HB2.out⟩
def plays_T20 : Bool × List (List Nat × List Nat) := (true, [([], []), ([], []), ([1], [1]), ([0, 2], [0, 2]), ([], []), ([], []), ([5], [5]), ([4, 6, 3], [4, 6]), ([3, 7], [3, 7])])
def plays_B20 : List Nat := [0, 0, 2, 7, 0, 0, 32, 127, 255]
theorem plays_tab20 : rtab .any (opsOf Try.f7 20) = plays_T20 := by kernel_rfl
theorem plays_bits20 : waitsOk plays_T20.2 plays_B20 = true := by kernel_rfl
def plays_T23 : Bool × List (List Nat × List Nat) := (true, [([], []), ([], []), ([1], [1]), ([], []), ([3], [3]), ([0, 2, 4], [0, 2, 4]), ([], []), ([], []), ([7], [7]), ([], []), ([9], [9]), ([6, 8, 10, 5], [6, 8, 10]), ([5, 11], [5, 11])])
def plays_B23 : List Nat := [0, 0, 2, 0, 8, 31, 0, 0, 128, 0, 512, 2047, 4095]
theorem plays_tab23 : rtab .any (opsOf Try.f7 23) = plays_T23 := by kernel_rfl
theorem plays_bits23 : waitsOk plays_T23.2 plays_B23 = true := by kernel_rfl
set_option maxHeartbeats 6400000 in
set_option maxRecDepth 100000 in
theorem plays_in (n m : Nat) (win tm : Int) (a4 : Option Addr) (c4 : Nat) (x4 : List Op4) (w : World) (h : mayB n m win tm = true) (hl : x4.length ≤ 150) (C4 : KO.C w a4 x4.length x4) (l4 : x4.length ≤ c4) (k4 : ∀ o ∈ x4, Open.okO o) :
    Calls Try.prog 7 #[.int .i64 n, .int .i64 m, .int .i64 win, .int .i64 tm, .slice a4 x4.length c4] w fun e w' => e = .returned (.bool true) ∧ Below w.heap.size w w' := by
  have H := Aside0.mk (new_at n m win tm w h)
  have H2 := Aside0.mk (fun w' => rmay_calls (n : Int) (m : Int) win tm w')
  rw [h] at H2
  have HC := Aside0.mk C4
  have HK := Aside0.mk k4
  have e1 : decide ((x4.length : Int) > 150) = false := decide_eq_false (by omega)
  have e2 : decide (x4.length > 150) = false := decide_eq_false (by omega)
  clear h C4 k4
  go_enter Try.func7, Try.ntmps7
  go_wp2_with fail
  refine H.out.mono ?_
  rintro e w1 ⟨p, gc, gd, gm, cc, cd, rfl, hpw, hb, l1, l2, l3, l4'⟩
  have HP1 := Aside0.mk hpw
  have HB1 := Aside0.mk hb
  have HF1 := Aside0.mk (And.intro l2 (And.intro l3 l4'))
  have hn := hpw.pl.n1
  have hm := hpw.pl.m1
  have HT := Aside0.mk (And.intro hpw.t1 hpw.t2)
  clear hpw hb l1 l2 l3 l4' H
  go_wp2_with fail
  refine (H2.out _).mono ?_
  rintro e w2 ⟨rfl, hw⟩
  replace hw := hw.symm
  subst hw
  go_wp2_with fail
  refine (rplan_new n m win tm w1 hn hm).mono ?_
  rintro e w2 ⟨r, L, c0, c1, c2, c4', rfl, hr, hb, hr1, hL⟩
  have HR2 := Aside0.mk hr
  have HB2 := Aside0.mk (below_step HB1.out hb)
  have HP2 := Aside0.mk (HP1.out.below hb)
  have HA2 : Aside0 (Ap p gc gd gm r L n) := ⟨by
    have q := HP1.out.lts
    refine ⟨by omega, fun a ha hg => ?_⟩
    have := hL a ha
    omega⟩
  have HL : Aside0 (∀ a, a < n + 5 → (a ≤ 2 ∨ a = 4 → 0 < n) → w.heap.size ≤ L a) := ⟨fun a ha _ => Nat.le_trans HB1.out.size (hL a ha)⟩
  clear hr hb hr1 hL HB1 HP1 H2 e1 e2
  go_wp2
  go_loopw [11, 63] (fun v11 v wr => ∃ (k : Nat) (s : St) (p gc gd gm cc cd : Nat), k ≤ x4.length ∧ v = .int .i64 (k : Int) ∧ v11 = .pointer (some ⟨p, 0, none⟩) ∧ Aside0 (PW wr p gc gd gm cc cd n m win tm k s) ∧ Aside0 (RPs wr r L n m c0 c1 c2 c4' win tm s) ∧ Aside0 (Ap p gc gd gm r L n) ∧ Aside0 (w.heap.size ≤ gc ∧ w.heap.size ≤ gd ∧ w.heap.size ≤ gm) ∧ Aside0 (Below w.heap.size w wr)) (fun _ v _ => x4.length - (intOf v).toNat)
  case atStart => exact ⟨0, ks0, p, gc, gd, gm, cc, cd, Nat.zero_le _, rfl, rfl, HP2, HR2, HA2, HF1, HB2⟩
  case round =>
    clear HP2 HR2 HA2 HF1 HB2
    obtain ⟨k, s, p, gc, gd, gm, cc, cd, hk, rfl, rfl, HP, HR, HA, HF, HB⟩ := hrel
    by_cases hlt : k < x4.length
    · obtain ⟨ad, rfl, x0, x1, x2, x3⟩ := row_op (Kd.C_below HC.out HB.out) k hlt x4[k] (List.getElem?_eq_getElem hlt)
      generalize x4[k] = o at x0 x1 x2 x3
      obtain ⟨oa, ob, oc, od⟩ := o
      simp only [] at x0 x1 x2 x3
      go_upto_region 12 with (fail)
      obtain ⟨gx, hgx⟩ : ∃ gx, wr.heap.size = gx := ⟨_, rfl⟩
      obtain ⟨w3, hw3⟩ : ∃ w3, wr.alloc (.cells #[.int .i64 oa, .int .i64 ob, .int .i64 oc, .int .i64 od] 37) = w3 := ⟨_, rfl⟩
      have hb3 : Below wr.heap.size wr w3 := by rw [← hw3]; exact (Below.refl _ _).alloc (Nat.le_refl _) _
      have HX := Aside0.mk (show BoxO w3 gx (oa, ob, oc, od) by rw [← hw3, ← hgx]; exact heap_new _ _)
      have HGX := Aside0.mk (show (gx ≠ gc ∧ gx ≠ gd ∧ gx ≠ gm) ∧ ∀ a, a < n + 5 → (a ≤ 2 ∨ a = 4 → 0 < n) → gx ≠ L a by
        have h1 := HP.out.lts
        obtain ⟨R, _, hp⟩ := HR.out
        have h2 := hp.lts.2
        refine ⟨by omega, fun a ha hg => ?_⟩
        have := h2 a ha hg
        omega)
      replace HP := Aside0.mk (HP.out.below hb3)
      replace HR := Aside0.mk (HR.out.below hb3)
      replace HB := Aside0.mk (below_step HB.out hb3)
      rw [hw3, hgx]
      clear hw3 hgx hb3 x0 x1 x2 x3
      obtain ⟨o0, o1, o2, o3⟩ := HX.out.cu
      simp only [] at o0 o1 o2 o3
      have hn150 : k < 150 := by omega
      by_cases hbig : od > 1152921504606846976 ∨ od < -1152921504606846976
      · have HPS := Aside0.mk (HP.out.same)
        by_cases hb1 : od > 1152921504606846976
        · have f1 : decide (od > 1152921504606846976) = true := decide_eq_true hb1
          have f1' : decide (1152921504606846976 < od) = true := decide_eq_true hb1
          clear hbig hb1
          go_wp2
          go_roundw
          case rel => exact ⟨k + 1, s, p, gc, gd, gm, cc, cd, by omega, by first | rfl | go_num, rfl, HPS, HR, HA, HF, HB⟩
          case measure => simp [intOf]; omega
        · have f1 : decide (od > 1152921504606846976) = false := decide_eq_false hb1
          have f1' : decide (1152921504606846976 < od) = false := decide_eq_false hb1
          have f2 : decide (od < -1152921504606846976) = true := decide_eq_true (by omega)
          clear hbig hb1
          go_wp2
          go_roundw
          case rel => exact ⟨k + 1, s, p, gc, gd, gm, cc, cd, by omega, by first | rfl | go_num, rfl, HPS, HR, HA, HF, HB⟩
          case measure => simp [intOf]; omega
      have HN := Aside0.mk (show -1152921504606846976 ≤ od ∧ od ≤ 1152921504606846976 by omega)
      have f1 : decide (od > 1152921504606846976) = false := decide_eq_false (by omega)
      have f1' : decide (1152921504606846976 < od) = false := decide_eq_false (by omega)
      have f2 : decide (od < -1152921504606846976) = false := decide_eq_false (by omega)
      clear hbig
      go_upto_region 13 with (fail)
      clear f1 f1' f2
      go_upto_block 2 with (fail)
      go_cut [11] (fun v11 wc => ∃ (s' : St) (p' gc' gd' gm' cc' cd' : Nat), v11 = .pointer (some ⟨p', 0, none⟩) ∧ Aside0 (PW wc p' gc' gd' gm' cc' cd' n m win tm (k + 1) s') ∧ Aside0 (RPs wc r L n m c0 c1 c2 c4' win tm s') ∧ Aside0 (Ap p' gc' gd' gm' r L n) ∧ Aside0 (w.heap.size ≤ gc' ∧ w.heap.size ≤ gd' ∧ w.heap.size ≤ gm') ∧ Aside0 (Below w.heap.size w wc))
      case first =>
        by_cases hk1 : oa = 1
        · have hk1' : (oa == 1) = true := by simp [hk1]
          clear hk1
          obtain ⟨y, hy⟩ : ∃ y, (nextF od win tm n m s).1 = y := ⟨_, rfl⟩
          obtain ⟨s', hs'⟩ : ∃ s', (nextF od win tm n m s).2 = s' := ⟨_, rfl⟩
          have HY := Aside0.mk hy
          have HS := Aside0.mk hs'
          have HG := Aside0.mk HP.out.good
          have HTB := Aside0.mk HP.out.tb
          clear hy hs'
          obtain ⟨y1, y2, y3⟩ := y
          go_wp2_with fail
          refine (next_at od w3 HP.out (by omega) HN.out HY.out HS.out).mono ?_
          rintro e w4 ⟨rfl, hp, hc⟩
          have HX4 := Aside0.mk (HX.out.chg hc HGX.out.1.1 HGX.out.1.2.1 HGX.out.1.2.2)
          have HP4 := Aside0.mk hp
          have HR4 := Aside0.mk (HR.out.chg hc HA.out)
          have HB4 := Aside0.mk (hc.of_new HB.out HF.out.1 HF.out.2.1 HF.out.2.2)
          clear hp hc HP HR HB o0 o1 o2 o3
          obtain ⟨o0, o1, o2, o3⟩ := HX4.out.cu
          simp only [] at o0 o1 o2 o3
          go_wp2_with fail
          refine (rnext_at od w4 HR4.out HG.out (by omega) (fun i k => by have := HTB.out i k; omega) HT.out HN.out HY.out HS.out).mono ?_
          rintro e w5 ⟨rfl, hp, hc⟩
          have HP5 := Aside0.mk (HP4.out.chG hc HA.out)
          have HR5 := Aside0.mk hp
          have HB5 := Aside0.mk (hc.of_new HB4.out HL.out)
          clear hp hc o0 o1 o2 o3
          go_wp2
          go_meet
          case rel => exact ⟨s', p, gc, gd, gm, cc, cd, rfl, HP5, HR5, HA, HF, HB5⟩
        have hk1' : (oa == 1) = false := by simp [hk1]
        by_cases hk2 : oa = 2
        · have hk2' : (oa == 2) = true := by simp [hk2]
          clear hk1 hk2
          go_upto_region 20 with (fail)
          obtain ⟨rr, hrr⟩ : ∃ rr, hadR n s ob = rr := ⟨_, rfl⟩
          obtain ⟨s', hs'⟩ : ∃ s', hadS n s ob = s' := ⟨_, rfl⟩
          have HR1 := Aside0.mk hrr
          have HR2 := Aside0.mk hs'
          clear hrr hs'
          have hD := below_drew1 (Below.refl w3.heap.size w3)
          replace HB := Aside0.mk (below_step HB.out hD)
          replace HP := Aside0.mk (HP.out.below hD)
          replace HR := Aside0.mk (HR.out.below hD)
          have hS0 := HX.out.below hD
          clear hD HX o0 o1 o2 o3
          refine start_ (n := 9) (S := fun w' => BoxO w' gx (oa, ob, oc, od)) (ds := []) #[false, false, false, false, false, false, false, false, false] (by kernel_rfl) rfl rfl (by exact hS0) (fun hHeld => ?_)
          refine with_tabW plays_tab20 plays_bits20 (fun HT_ HW_ => ?_)
          generalize w3.drew = wE at hHeld HB HP HR ⊢
          refine pure_ (i := 0) (N := some 110) (v := ?_) (a' := ?_) #[true, false, false, false, false, false, false, false, false] rfl rfl (any_of HT_.out (by kernel_rfl)) (fun _ _ _ h => h) (Or.inl ⟨by rfl, ?_⟩) ?_ ?_
          rotate_left
          · intro w'
            go_simp
            with_reducible rfl
          rotate_left
          · simp only [Act.put, List.setIfInBounds_toArray, List.set_cons_zero, List.set_cons_succ, i64_w, i32_w]
            rfl
          refine pure_ (i := 1) (N := some 111) (v := ?_) (a' := ?_) #[true, true, false, false, false, false, false, false, false] rfl rfl (any_of HT_.out (by kernel_rfl)) (fun _ _ _ h => h) (Or.inl ⟨by rfl, ?_⟩) ?_ ?_
          rotate_left
          · intro w'
            go_simp
            with_reducible rfl
          rotate_left
          · simp only [Act.put, List.setIfInBounds_toArray, List.set_cons_zero, List.set_cons_succ, i64_w, i32_w]
            rfl
          refine pure_ (i := 4) (N := some 114) (v := ?_) (a' := ?_) #[true, true, false, false, true, false, false, false, false] rfl rfl (any_of HT_.out (by kernel_rfl)) (fun _ _ _ h => h) (Or.inl ⟨by rfl, ?_⟩) ?_ ?_
          rotate_left
          · intro w'
            go_simp
            with_reducible rfl
          rotate_left
          · simp only [Act.put, List.setIfInBounds_toArray, List.set_cons_zero, List.set_cons_succ, i64_w, i32_w]
            rfl
          refine pure_ (i := 5) (N := some 115) (v := ?_) (a' := ?_) #[true, true, false, false, true, true, false, false, false] rfl rfl (any_of HT_.out (by kernel_rfl)) (fun _ _ _ h => h) (Or.inl ⟨by rfl, ?_⟩) ?_ ?_
          rotate_left
          · intro w'
            go_simp
            with_reducible rfl
          rotate_left
          · simp only [Act.put, List.setIfInBounds_toArray, List.set_cons_zero, List.set_cons_succ, i64_w, i32_w]
            rfl
          refine take_ (i := 2) (N := some 112) (v := ?_) (a' := ?_) #[true, true, true, false, true, true, false, false, false] rfl rfl (take_ofW HT_.out HW_.out (by kernel_rfl)) (fun _ _ _ h => h) (Or.inl ⟨by rfl, ?_⟩) hHeld ?_ ?_
          rotate_left
          · intro w' hSt
            obtain ⟨o0, o1, o2, o3⟩ := hSt.cu
            simp only [] at o0 o1 o2 o3
            go_simp
            with_reducible rfl
          rotate_left
          · simp only [Act.put, List.setIfInBounds_toArray, List.set_cons_zero, List.set_cons_succ, i64_w, i32_w]
            rfl
          refine take_ (i := 6) (N := some 116) (v := ?_) (a' := ?_) #[true, true, true, false, true, true, true, false, false] rfl rfl (take_ofW HT_.out HW_.out (by kernel_rfl)) (fun _ _ _ h => h) (Or.inl ⟨by rfl, ?_⟩) hHeld ?_ ?_
          rotate_left
          · intro w' hSt
            obtain ⟨o0, o1, o2, o3⟩ := hSt.cu
            simp only [] at o0 o1 o2 o3
            go_simp
            with_reducible rfl
          rotate_left
          · simp only [Act.put, List.setIfInBounds_toArray, List.set_cons_zero, List.set_cons_succ, i64_w, i32_w]
            rfl
          refine one_ (i := 3) (N := some 113) #[true, true, true, true, true, true, true, false, false] rfl rfl (one_of HT_.out (by kernel_rfl)) (by decide) (fun K hK => ?_)
          refine goes_ Try.func13 (by kernel_rfl) rfl #[.pointer (some ⟨p, 0, none⟩), .int .i64 ob] (by rfl) rfl rfl (by (try simp only [List.map_toArray, List.map_cons, List.map_nil]); first | done | rfl) ?_
          refine (had_at ob _ HP.out HR1.out HR2.out).mono ?_
          rintro e w4 ⟨rfl, hp, hc⟩
          refine ⟨_, rfl, ?_⟩
          have hS1 := hHeld.chg hc HGX.out.1.1 HGX.out.1.2.1 HGX.out.1.2.2
          have HP4 := Aside0.mk hp
          have HR4 := Aside0.mk (HR.out.chg hc HA.out)
          have HB4 := Aside0.mk (hc.of_new HB.out HF.out.1 HF.out.2.1 HF.out.2.2)
          clear hp hc
          refine hK.out _ _ (by exact hS1) (fun hHeld => ?_)
          clear hK K
          refine norm_ (a' := ?_) ?_ ?_
          rotate_left
          · first
            | (show Act.put _ (some 113) _ = _; simp only [Act.put, List.setIfInBounds_toArray, List.set_cons_zero, List.set_cons_succ, i64_w, i32_w]; rfl)
            | rfl
          refine one_ (i := 7) (N := some 117) #[true, true, true, true, true, true, true, true, false] rfl rfl (one_of HT_.out (by kernel_rfl)) (by decide) (fun K hK => ?_)
          refine goes_ Try.func22 (by kernel_rfl) rfl #[.pointer (some ⟨r, 0, none⟩), .int .i64 ob] (by rfl) rfl rfl (by (try simp only [List.map_toArray, List.map_cons, List.map_nil]); first | done | rfl) ?_
          refine (rhad_at ob _ HR4.out HR1.out HR2.out).mono ?_
          rintro e w5 ⟨rfl, hp, hc⟩
          refine ⟨_, rfl, ?_⟩
          have hS1 := hHeld.chG hc HGX.out.2
          have HP5 := Aside0.mk (HP4.out.chG hc HA.out)
          have HR5 := Aside0.mk hp
          have HB5 := Aside0.mk (hc.of_new HB4.out HL.out)
          clear hp hc
          refine hK.out _ _ (by exact hS1) (fun hHeld => ?_)
          clear hK K
          refine norm_ (a' := ?_) ?_ ?_
          rotate_left
          · first
            | (show Act.put _ (some 117) _ = _; simp only [Act.put, List.setIfInBounds_toArray, List.set_cons_zero, List.set_cons_succ, i64_w, i32_w]; rfl)
            | rfl
          refine pure_ (i := 8) (N := some 118) (v := ?_) (a' := ?_) #[true, true, true, true, true, true, true, true, true] rfl rfl (any_of HT_.out (by kernel_rfl)) (fun _ _ _ h => h) (Or.inl ⟨by rfl, ?_⟩) ?_ ?_
          rotate_left
          · intro w'
            go_simp
            with_reducible rfl
          rotate_left
          · simp only [Act.put, List.setIfInBounds_toArray, List.set_cons_zero, List.set_cons_succ, i64_w, i32_w]
            rfl
          refine done_ (done_of HT_.out (by kernel_rfl)) ?_
          clear hS0 hHeld HT_ HW_
          go_wp2
          go_meet
          case rel => exact ⟨s', p, gc, gd, gm, cc, cd, rfl, HP5, HR5, HA, HF, HB5⟩
        have hk2' : (oa == 2) = false := by simp [hk2]
        by_cases hk3 : oa = 3
        · have hk3' : (oa == 3) = true := by simp [hk3]
          clear hk1 hk2 hk3
          go_upto_region 23 with (fail)
          obtain ⟨rr, hrr⟩ : ∃ rr, badR n m s ob oc = rr := ⟨_, rfl⟩
          obtain ⟨s', hs'⟩ : ∃ s', badS n m s ob oc = s' := ⟨_, rfl⟩
          have HR1 := Aside0.mk hrr
          have HR2 := Aside0.mk hs'
          have HDB : Aside0 (∀ k, 0 ≤ s.2.1 k ∧ s.2.1 k ≤ 1000000000) := ⟨fun q => by have := HP.out.good.2 q; omega⟩
          clear hrr hs'
          have hD := below_drew1 (Below.refl w3.heap.size w3)
          replace HB := Aside0.mk (below_step HB.out hD)
          replace HP := Aside0.mk (HP.out.below hD)
          replace HR := Aside0.mk (HR.out.below hD)
          have hS0 := HX.out.below hD
          clear hD HX o0 o1 o2 o3
          refine start_ (n := 13) (S := fun w' => BoxO w' gx (oa, ob, oc, od)) (ds := []) #[false, false, false, false, false, false, false, false, false, false, false, false, false] (by kernel_rfl) rfl rfl (by exact hS0) (fun hHeld => ?_)
          refine with_tabW plays_tab23 plays_bits23 (fun HT_ HW_ => ?_)
          generalize w3.drew = wE at hHeld HB HP HR ⊢
          refine pure_ (i := 0) (N := some 121) (v := ?_) (a' := ?_) #[true, false, false, false, false, false, false, false, false, false, false, false, false] rfl rfl (any_of HT_.out (by kernel_rfl)) (fun _ _ _ h => h) (Or.inl ⟨by rfl, ?_⟩) ?_ ?_
          rotate_left
          · intro w'
            go_simp
            with_reducible rfl
          rotate_left
          · simp only [Act.put, List.setIfInBounds_toArray, List.set_cons_zero, List.set_cons_succ, i64_w, i32_w]
            rfl
          refine pure_ (i := 1) (N := some 122) (v := ?_) (a' := ?_) #[true, true, false, false, false, false, false, false, false, false, false, false, false] rfl rfl (any_of HT_.out (by kernel_rfl)) (fun _ _ _ h => h) (Or.inl ⟨by rfl, ?_⟩) ?_ ?_
          rotate_left
          · intro w'
            go_simp
            with_reducible rfl
          rotate_left
          · simp only [Act.put, List.setIfInBounds_toArray, List.set_cons_zero, List.set_cons_succ, i64_w, i32_w]
            rfl
          refine pure_ (i := 3) (N := some 124) (v := ?_) (a' := ?_) #[true, true, false, true, false, false, false, false, false, false, false, false, false] rfl rfl (any_of HT_.out (by kernel_rfl)) (fun _ _ _ h => h) (Or.inl ⟨by rfl, ?_⟩) ?_ ?_
          rotate_left
          · intro w'
            go_simp
            with_reducible rfl
          rotate_left
          · simp only [Act.put, List.setIfInBounds_toArray, List.set_cons_zero, List.set_cons_succ, i64_w, i32_w]
            rfl
          refine pure_ (i := 6) (N := some 127) (v := ?_) (a' := ?_) #[true, true, false, true, false, false, true, false, false, false, false, false, false] rfl rfl (any_of HT_.out (by kernel_rfl)) (fun _ _ _ h => h) (Or.inl ⟨by rfl, ?_⟩) ?_ ?_
          rotate_left
          · intro w'
            go_simp
            with_reducible rfl
          rotate_left
          · simp only [Act.put, List.setIfInBounds_toArray, List.set_cons_zero, List.set_cons_succ, i64_w, i32_w]
            rfl
          refine pure_ (i := 7) (N := some 128) (v := ?_) (a' := ?_) #[true, true, false, true, false, false, true, true, false, false, false, false, false] rfl rfl (any_of HT_.out (by kernel_rfl)) (fun _ _ _ h => h) (Or.inl ⟨by rfl, ?_⟩) ?_ ?_
          rotate_left
          · intro w'
            go_simp
            with_reducible rfl
          rotate_left
          · simp only [Act.put, List.setIfInBounds_toArray, List.set_cons_zero, List.set_cons_succ, i64_w, i32_w]
            rfl
          refine pure_ (i := 9) (N := some 130) (v := ?_) (a' := ?_) #[true, true, false, true, false, false, true, true, false, true, false, false, false] rfl rfl (any_of HT_.out (by kernel_rfl)) (fun _ _ _ h => h) (Or.inl ⟨by rfl, ?_⟩) ?_ ?_
          rotate_left
          · intro w'
            go_simp
            with_reducible rfl
          rotate_left
          · simp only [Act.put, List.setIfInBounds_toArray, List.set_cons_zero, List.set_cons_succ, i64_w, i32_w]
            rfl
          refine take_ (i := 2) (N := some 123) (v := ?_) (a' := ?_) #[true, true, true, true, false, false, true, true, false, true, false, false, false] rfl rfl (take_ofW HT_.out HW_.out (by kernel_rfl)) (fun _ _ _ h => h) (Or.inl ⟨by rfl, ?_⟩) hHeld ?_ ?_
          rotate_left
          · intro w' hSt
            obtain ⟨o0, o1, o2, o3⟩ := hSt.cu
            simp only [] at o0 o1 o2 o3
            go_simp
            with_reducible rfl
          rotate_left
          · simp only [Act.put, List.setIfInBounds_toArray, List.set_cons_zero, List.set_cons_succ, i64_w, i32_w]
            rfl
          refine take_ (i := 4) (N := some 125) (v := ?_) (a' := ?_) #[true, true, true, true, true, false, true, true, false, true, false, false, false] rfl rfl (take_ofW HT_.out HW_.out (by kernel_rfl)) (fun _ _ _ h => h) (Or.inl ⟨by rfl, ?_⟩) hHeld ?_ ?_
          rotate_left
          · intro w' hSt
            obtain ⟨o0, o1, o2, o3⟩ := hSt.cu
            simp only [] at o0 o1 o2 o3
            go_simp
            with_reducible rfl
          rotate_left
          · simp only [Act.put, List.setIfInBounds_toArray, List.set_cons_zero, List.set_cons_succ, i64_w, i32_w]
            rfl
          refine take_ (i := 8) (N := some 129) (v := ?_) (a' := ?_) #[true, true, true, true, true, false, true, true, true, true, false, false, false] rfl rfl (take_ofW HT_.out HW_.out (by kernel_rfl)) (fun _ _ _ h => h) (Or.inl ⟨by rfl, ?_⟩) hHeld ?_ ?_
          rotate_left
          · intro w' hSt
            obtain ⟨o0, o1, o2, o3⟩ := hSt.cu
            simp only [] at o0 o1 o2 o3
            go_simp
            with_reducible rfl
          rotate_left
          · simp only [Act.put, List.setIfInBounds_toArray, List.set_cons_zero, List.set_cons_succ, i64_w, i32_w]
            rfl
          refine take_ (i := 10) (N := some 131) (v := ?_) (a' := ?_) #[true, true, true, true, true, false, true, true, true, true, true, false, false] rfl rfl (take_ofW HT_.out HW_.out (by kernel_rfl)) (fun _ _ _ h => h) (Or.inl ⟨by rfl, ?_⟩) hHeld ?_ ?_
          rotate_left
          · intro w' hSt
            obtain ⟨o0, o1, o2, o3⟩ := hSt.cu
            simp only [] at o0 o1 o2 o3
            go_simp
            with_reducible rfl
          rotate_left
          · simp only [Act.put, List.setIfInBounds_toArray, List.set_cons_zero, List.set_cons_succ, i64_w, i32_w]
            rfl
          refine one_ (i := 5) (N := some 126) #[true, true, true, true, true, true, true, true, true, true, true, false, false] rfl rfl (one_of HT_.out (by kernel_rfl)) (by decide) (fun K hK => ?_)
          refine goes_ Try.func14 (by kernel_rfl) rfl #[.pointer (some ⟨p, 0, none⟩), .int .i64 ob, .int .i64 oc] (by rfl) rfl rfl (by (try simp only [List.map_toArray, List.map_cons, List.map_nil]); first | done | rfl) ?_
          refine (bad_at ob oc _ HP.out (by omega) HR1.out HR2.out).mono ?_
          rintro e w4 ⟨rfl, hp, hc⟩
          refine ⟨_, rfl, ?_⟩
          have hS1 := hHeld.chg hc HGX.out.1.1 HGX.out.1.2.1 HGX.out.1.2.2
          have HP4 := Aside0.mk hp
          have HR4 := Aside0.mk (HR.out.chg hc HA.out)
          have HB4 := Aside0.mk (hc.of_new HB.out HF.out.1 HF.out.2.1 HF.out.2.2)
          clear hp hc
          refine hK.out _ _ (by exact hS1) (fun hHeld => ?_)
          clear hK K
          refine norm_ (a' := ?_) ?_ ?_
          rotate_left
          · first
            | (show Act.put _ (some 126) _ = _; simp only [Act.put, List.setIfInBounds_toArray, List.set_cons_zero, List.set_cons_succ, i64_w, i32_w]; rfl)
            | rfl
          refine one_ (i := 11) (N := some 132) #[true, true, true, true, true, true, true, true, true, true, true, true, false] rfl rfl (one_of HT_.out (by kernel_rfl)) (by decide) (fun K hK => ?_)
          refine goes_ Try.func23 (by kernel_rfl) rfl #[.pointer (some ⟨r, 0, none⟩), .int .i64 ob, .int .i64 oc] (by rfl) rfl rfl (by (try simp only [List.map_toArray, List.map_cons, List.map_nil]); first | done | rfl) ?_
          refine (rbad_at ob oc _ HR4.out HDB.out HR1.out HR2.out).mono ?_
          rintro e w5 ⟨rfl, hp, hc⟩
          refine ⟨_, rfl, ?_⟩
          have hS1 := hHeld.chG hc HGX.out.2
          have HP5 := Aside0.mk (HP4.out.chG hc HA.out)
          have HR5 := Aside0.mk hp
          have HB5 := Aside0.mk (hc.of_new HB4.out HL.out)
          clear hp hc
          refine hK.out _ _ (by exact hS1) (fun hHeld => ?_)
          clear hK K
          refine norm_ (a' := ?_) ?_ ?_
          rotate_left
          · first
            | (show Act.put _ (some 132) _ = _; simp only [Act.put, List.setIfInBounds_toArray, List.set_cons_zero, List.set_cons_succ, i64_w, i32_w]; rfl)
            | rfl
          refine pure_ (i := 12) (N := some 133) (v := ?_) (a' := ?_) #[true, true, true, true, true, true, true, true, true, true, true, true, true] rfl rfl (any_of HT_.out (by kernel_rfl)) (fun _ _ _ h => h) (Or.inl ⟨by rfl, ?_⟩) ?_ ?_
          rotate_left
          · intro w'
            go_simp
            with_reducible rfl
          rotate_left
          · simp only [Act.put, List.setIfInBounds_toArray, List.set_cons_zero, List.set_cons_succ, i64_w, i32_w]
            rfl
          refine done_ (done_of HT_.out (by kernel_rfl)) ?_
          clear hS0 hHeld HT_ HW_
          go_wp2
          go_meet
          case rel => exact ⟨s', p, gc, gd, gm, cc, cd, rfl, HP5, HR5, HA, HF, HB5⟩
        have hk3' : (oa == 3) = false := by simp [hk3]
        by_cases hk4 : oa = 4
        · have hk4' : (oa == 4) = true := by simp [hk4]
          clear hk1 hk2 hk3 hk4 o0 o1 o2 o3
          go_wp2_with fail
          refine (copy_calls w3 HP.out).mono ?_
          rintro e w4 ⟨p', gc', gd', gm', cc', cd', rfl, hp, hb, l1, l2, l3, l4'⟩
          have HP4 := Aside0.mk (HP.out.below hb)
          have HN4 := Aside0.mk hp
          have HR4 := Aside0.mk (HR.out.below hb)
          have HB4 := Aside0.mk (below_step HB.out hb)
          have HA4 : Aside0 (Ap p' gc' gd' gm' r L n) := ⟨Ap.fresh HR.out l1 l2 l3 l4'⟩
          have HF4 := Aside0.mk (show w.heap.size ≤ gc' ∧ w.heap.size ≤ gd' ∧ w.heap.size ≤ gm' from by have := HB.out.size; omega)
          have HD4 : Aside0 (∀ x, x = gc ∨ x = gd ∨ x = gm → p' ≠ x ∧ gc' ≠ x ∧ gd' ≠ x ∧ gm' ≠ x) := ⟨fun x hx => by
            have q := HP.out.lts
            omega⟩
          clear hp hb l1 l2 l3 l4' HP HR HB HX
          go_wp2_with fail
          refine (had_at 0 w4 HP4.out rfl rfl).mono ?_
          rintro e w5 ⟨rfl, hp, hc⟩
          have HP5 := Aside0.mk hp
          have HN5 := Aside0.mk (HN4.out.chg hc HD4.out)
          have HR5 := Aside0.mk (HR4.out.chg hc HA.out)
          have HB5 := Aside0.mk (hc.of_new HB4.out HF.out.1 HF.out.2.1 HF.out.2.2)
          clear hp hc HP4 HN4 HR4 HB4
          generalize hadR n s 0 = rr
          generalize hadS n s 0 = s0 at HP5
          go_wp2_with fail
          refine (next_at 0 w5 HP5.out (by omega) (by omega) rfl rfl).mono ?_
          rintro e w6 ⟨rfl, hp, hc⟩
          have HN6 := Aside0.mk ((HN5.out.chg hc HD4.out).same)
          have HR6 := Aside0.mk (HR5.out.chg hc HA.out)
          have HB6 := Aside0.mk (hc.of_new HB5.out HF.out.1 HF.out.2.1 HF.out.2.2)
          clear hp hc HP5 HN5 HR5 HB5
          generalize (nextF 0 win tm n m s0).1 = y
          go_wp2
          go_meet
          case rel => exact ⟨s, p', gc', gd', gm', cc', cd', rfl, HN6, HR6, HA4, HF4, HB6⟩
        have hk4' : (oa == 4) = false := by simp [hk4]
        have HPS := Aside0.mk (HP.out.same)
        clear hk1 hk2 hk3 hk4 o0 o1 o2 o3
        go_wp2
        go_meet
        case rel => exact ⟨s, p, gc, gd, gm, cc, cd, rfl, HPS, HR, HA, HF, HB⟩
      case rest =>
        clear HP HR HA HF HB HX HGX o0 o1 o2 o3
        obtain ⟨s2, p, gc, gd, gm, cc, cd, rfl, HP, HR, HA, HF, HB⟩ := hcut
        go_wp2_with fail
        refine (looked_at _ HP.out HR.out).mono ?_
        rintro e w5 ⟨rfl, hb⟩
        have HP5 := Aside0.mk (HP.out.below hb)
        have HR5 := Aside0.mk (HR.out.below hb)
        have HB5 := Aside0.mk (below_step HB.out hb)
        clear hb
        go_wp2
        go_roundw
        case rel => exact ⟨k + 1, s2, p, gc, gd, gm, cc, cd, by omega, by first | rfl | go_num, rfl, HP5, HR5, HA, HF, HB5⟩
        case measure => simp [intOf]; omega
    · obtain rfl : k = x4.length := by omega
      go_wp2_with fail
      refine (known_calls _).mono ?_
      rintro e w2 ⟨rfl, hb⟩
      have HB2 := Aside0.mk (below_step HB.out hb)
      clear hb
      go_wp2
      go_ret
      exact ⟨rfl, HB2.out⟩
theorem plays_walk (a0 a1 a2 a3 : Int) (a4 : Option Addr) (c4 : Nat) (x4 : List Op4) (w : World) (k0 : (Lit.int .i64 a0).wf = true) (k1 : (Lit.int .i64 a1).wf = true) (k2 : (Lit.int .i64 a2).wf = true) (k3 : (Lit.int .i64 a3).wf = true) (C4 : KO.C w a4 x4.length x4) (l4 : x4.length ≤ c4) (k4 : ∀ o ∈ x4, Open.okO o) :
    Calls Try.prog 7 #[.int .i64 a0, .int .i64 a1, .int .i64 a2, .int .i64 a3, .slice a4 x4.length c4] w fun e w' => e = .returned (.bool true) ∧ Below w.heap.size w w' := by
  rcases hm : mayB a0 a1 a2 a3 with _ | _
  · exact plays_out a0 a1 a2 a3 a4 c4 x4 w hm
  · have hh := hm
    unfold mayB inB at hh
    simp only [Bool.and_eq_true, decide_eq_true_eq] at hh
    obtain ⟨n, rfl⟩ := Int.eq_ofNat_of_zero_le (show 0 ≤ a0 by omega)
    obtain ⟨m, rfl⟩ := Int.eq_ofNat_of_zero_le (show 0 ≤ a1 by omega)
    by_cases hl : x4.length ≤ 150
    · exact plays_in n m a2 a3 a4 c4 x4 w hm hl C4 l4 k4
    · exact plays_long n m a2 a3 a4 c4 x4.length w hm (by omega)
end Go.Proofs.Ytaheoifjihkipaa.As
