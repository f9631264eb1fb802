/- What calls of Go functions of this seat come to, as the rows need it: under the conditions that each theorem names. -/
import Derived.Test.YtaheoifjihkipaaAsW
namespace Go.Proofs.Ytaheoifjihkipaa.As
open Go.RowKit Go.Proofs.YtaheoifjihkipaaW.PrintWords Go.Proofs.YtaheoifjihkipaaW.PrintLast Go.Proofs.YtaheoifjihkipaaW.PrintMore
set_option linter.unusedVariables false
set_option linter.unusedSimpArgs false
open Go.Proofs.Ytaheoifjihkipaa.Open (Op4)
theorem new_out (n m win tm : Int) (w : World) (h : mayB n m win tm = false) : Calls Try.prog 9 #[.int .i64 n, .int .i64 m, .int .i64 win, .int .i64 tm] w fun e w' => e = .returned (.tuple #[.pointer none, .int .i64 2]) ∧ w' = w := new_no n m win tm w h
set_option maxHeartbeats 3200000 in
set_option maxRecDepth 100000 in
theorem had_out (a0 a1 a2 a3 : Int) (a4 : Option Addr) (c4 : Nat) (x4 : List Op4) (w : World) (h : mayB a0 a1 a2 a3 = false) :
    Calls Try.prog 4 #[.int .i64 a0, .int .i64 a1, .int .i64 a2, .int .i64 a3, .slice a4 x4.length c4] w fun e w' => e = .returned (.bool true) ∧ Below w.heap.size w w' := by
  have H := Aside0.mk (new_no a0 a1 a2 a3 w h)
  clear h
  generalize x4.length = len
  go_enter Try.func4, Try.ntmps4
  go_wp2_with fail
  refine H.out.mono ?_
  rintro e w1 ⟨rfl, hw⟩
  replace hw := hw.symm
  subst hw
  go_wp2_with fail
  refine (known_calls _).mono ?_
  rintro e w2 ⟨rfl, hb⟩
  have HB2 := Aside0.mk hb
  clear hb
  go_wp2
  go_ret
  exact ⟨rfl, HB2.out⟩
set_option maxHeartbeats 3200000 in
set_option maxRecDepth 100000 in
theorem had_long (n m : Nat) (a2 a3 : Int) (a4 : Option Addr) (c4 len : Nat) (w : World) (h : mayB n m a2 a3 = true) (hl : 150 < len) :
    Calls Try.prog 4 #[.int .i64 n, .int .i64 m, .int .i64 a2, .int .i64 a3, .slice a4 len c4] w fun e w' => e = .returned (.bool true) ∧ Below w.heap.size w w' := by
  have H := Aside0.mk (new_at n m a2 a3 w h)
  have e1 : decide ((len : Int) > 150) = true := decide_eq_true (by omega)
  have e2 : decide (len > 150) = true := decide_eq_true (by omega)
  clear h hl
  go_enter Try.func4, Try.ntmps4
  go_wp2_with fail
  refine H.out.mono ?_
  rintro e w1 ⟨p, gc, gd, gm, rfl, hpw, hb, l1, l2, l3, l4⟩
  have HB := Aside0.mk hb
  clear hb hpw l1 l2 l3 l4
  go_wp2_with fail
  refine (known_calls _).mono ?_
  rintro e w2 ⟨rfl, hb⟩
  have HB2 := Aside0.mk (below_step HB.out hb)
  clear hb
  go_wp2
  go_ret
  exact ⟨rfl, HB2.out⟩
/-- What the law counts: one for each chunk that is had. -/
def Hrel (n : Nat) (s : St) (H : Nat → Int) : Prop := ∀ i, i < n → H i = if (s.1 i).1 = 2 then 1 else 0
theorem Hrel.congr {n : Nat} {s s' : St} {H : Nat → Int} (h : Hrel n s H) (hs : ∀ j, (s'.1 j).1 = 2 ↔ (s.1 j).1 = 2) : Hrel n s' H := fun i hi => by
  rw [h i hi]
  by_cases e : (s.1 i).1 = 2
  · rw [if_pos e, if_pos ((hs i).2 e)]
  · rw [if_neg e, if_neg (fun h2 => e ((hs i).1 h2))]
theorem state_at {p gc gd gm n m : Nat} {win tm : Int} {S : Nat → U} {D : Nat → Int} {x : Int} (i : Int) (w : World) (h : Pl w p gc gd gm n m win tm S D) (hx : stOf S n i = x) :
    Calls Try.prog 16 #[.pointer (some ⟨p, 0, none⟩), .int .i64 i] w fun e w' => e = .returned (.int .i64 x) ∧ w' = w := by
  subst hx
  exact state_calls i w h
theorem tick_rng (now x : Int) (h : 0 ≤ now) (h2 : now ≤ 10000) : 0 ≤ Go.RowKit.wrap64 (now + Go.RowKit.wrap64 ((IntKind.u64.wrap x).tmod 9)) ∧ Go.RowKit.wrap64 (now + Go.RowKit.wrap64 ((IntKind.u64.wrap x).tmod 9)) ≤ now + 8 := by
  have hu : 0 ≤ IntKind.u64.wrap x := by
    simp only [IntKind.wrap, IntKind.bits, IntKind.signed]
    simp
    omega
  rw [Int.tmod_eq_emod_of_nonneg hu]
  unfold Go.RowKit.wrap64
  omega
theorem leftF_start : ∀ n, leftF ks0.1 n = n
  | 0 => rfl
  | n + 1 => by unfold leftF; rw [leftF_start n]; rfl
set_option maxHeartbeats 6400000 in
set_option maxRecDepth 100000 in
theorem had_in (n m : Nat) (win tm : Int) (a4 : Option Addr) (c4 : Nat) (x4 : List Op4) (w : World) (h : mayB n m win tm = true) (hl : x4.length ≤ 150) (C4 : KO.C w a4 x4.length x4) (l4 : x4.length ≤ c4) (k4 : ∀ o ∈ x4, Open.okO o) :
    Calls Try.prog 4 #[.int .i64 n, .int .i64 m, .int .i64 win, .int .i64 tm, .slice a4 x4.length c4] w fun e w' => e = .returned (.bool true) ∧ Below w.heap.size w w' := by
  have H := Aside0.mk (new_at n m win tm w h)
  have HC := Aside0.mk C4
  have HK := Aside0.mk k4
  have e1 : decide ((x4.length : Int) > 150) = false := decide_eq_false (by omega)
  have e2 : decide (x4.length > 150) = false := decide_eq_false (by omega)
  clear h C4 k4
  go_enter Try.func4, Try.ntmps4
  go_wp2_with fail
  refine H.out.mono ?_
  rintro e w1 ⟨p, gc, gd, gm, rfl, hpw, hb, l1, l2, l3, l4'⟩
  have HP1 := Aside0.mk hpw
  have HB1 := Aside0.mk hb
  have HL := Aside0.mk (And.intro l1 (And.intro l2 (And.intro l3 l4')))
  have hn := hpw.pl.n1
  have hmk := make_I n hn
  clear hpw hb l1 l2 l3 l4' H
  go_upto_region 5 with (fail)
  clear e1 e2 hmk
  obtain ⟨gh, hgh⟩ : ∃ gh, w1.heap.size = gh := ⟨_, rfl⟩
  obtain ⟨w2, hw2⟩ : ∃ w2, w1.alloc (.cells (zI n) 3) = w2 := ⟨_, rfl⟩
  have hb2 : Below w1.heap.size w1 w2 := by rw [← hw2]; exact (Below.refl _ _).alloc (Nat.le_refl _) _
  have HD2 : Aside0 (Dem w2 gh n (fun _ => 0)) := ⟨zI n, by rw [← hw2, ← hgh]; exact heap_new _ _, by simp [zI, size_madeCells], fun k hk => zI_at _ _ hk⟩
  have HP2 := Aside0.mk (HP1.out.below hb2)
  have HB2 := Aside0.mk (below_step HB1.out hb2)
  have HGH := Aside0.mk (show (gh ≠ p ∧ gh ≠ gc ∧ gh ≠ gd ∧ gh ≠ gm) ∧ w.heap.size ≤ gh by
    have h1 := HP1.out.lts
    have h2 := HB1.out.size
    omega)
  rw [hw2, hgh]
  clear hw2 hgh hb2 HP1 HB1
  go_wp2
  go_loopw [14, 15, 46] (fun v14 v15 v wr => ∃ (k : Nat) (s : St) (now : Int) (Hd : Nat → Int), k ≤ x4.length ∧ v = .int .i64 (k : Int) ∧ v14 = .int .i64 now ∧ v15 = .int .i64 ((n : Int) - (leftF s.1 n : Nat)) ∧ 0 ≤ now ∧ now ≤ 8 * k ∧ Aside0 (PW wr p gc gd gm n m win tm k s) ∧ Aside0 (Dem wr gh n Hd) ∧ Aside0 (Hrel n s Hd) ∧ Aside0 (Below w.heap.size w wr)) (fun _ _ v _ => x4.length - (intOf v).toNat)
  case atStart => exact ⟨0, ks0, 0, fun _ => 0, Nat.zero_le _, rfl, rfl, by rw [show leftF ks0.1 n = n from leftF_start n, Int.sub_self], by omega, by omega, HP2, HD2, ⟨fun i hi => rfl⟩, HB2⟩
  case round =>
    clear HP2 HD2 HB2
    obtain ⟨k, s, now, Hd, hk, rfl, rfl, rfl, hnow1, hnow2, HP, HD, HR, HB⟩ := hrel
    by_cases hlt : k < x4.length
    · obtain ⟨ad, rfl, x0, x1, x2, x3⟩ := row_op (Kd.C_below HC.out HB.out) k hlt x4[k] (List.getElem?_eq_getElem hlt)
      have HO := Aside0.mk (HK.out x4[k] (List.getElem_mem hlt))
      generalize x4[k] = o at x0 x1 x2 x3 HO
      obtain ⟨oa, ob, oc, od⟩ := o
      simp only [] at x0 x1 x2 x3
      go_upto_region 9 with (fail)
      obtain ⟨gx, hgx⟩ : ∃ gx, wr.heap.size = gx := ⟨_, rfl⟩
      obtain ⟨w3, hw3⟩ : ∃ w3, wr.alloc (.cells #[.int .i64 oa, .int .i64 ob, .int .i64 oc, .int .i64 od] 37) = w3 := ⟨_, rfl⟩
      have hb3 : Below wr.heap.size wr w3 := by rw [← hw3]; exact (Below.refl _ _).alloc (Nat.le_refl _) _
      have HX := Aside0.mk (show BoxO w3 gx (oa, ob, oc, od) by rw [← hw3, ← hgx]; exact heap_new _ _)
      have HGX := Aside0.mk (show gx ≠ gc ∧ gx ≠ gd ∧ gx ≠ gm ∧ gx ≠ gh ∧ w.heap.size ≤ gx by
        have h1 := HP.out.lts
        have h2 := HD.out.lt
        have h3 := HB.out.size
        omega)
      replace HP := Aside0.mk (HP.out.below hb3)
      replace HD := Aside0.mk (HD.out.below hb3)
      replace HB := Aside0.mk (below_step HB.out hb3)
      rw [hw3, hgx]
      clear hw3 hgx hb3 x0 x1 x2 x3
      obtain ⟨o0, o1, o2, o3⟩ := HX.out.cu
      simp only [] at o0 o1 o2 o3
      have hn150 : k < 150 := by omega
      go_upto_block 2 with (fail)
      go_cut [14, 15] (fun v14 v15 wc => ∃ (s' : St) (now' : Int) (Hd' : Nat → Int), v14 = .int .i64 now' ∧ v15 = .int .i64 ((n : Int) - (leftF s'.1 n : Nat)) ∧ 0 ≤ now' ∧ now' ≤ 8 * (k + 1) ∧ Aside0 (PW wc p gc gd gm n m win tm (k + 1) s') ∧ Aside0 (Dem wc gh n Hd') ∧ Aside0 (Hrel n s' Hd') ∧ Aside0 (Below w.heap.size w wc))
      case first =>
        by_cases hk1 : oa = 1
        · have hk1' : (oa == 1) = true := by simp [hk1]
          clear hk1
          go_upto_region 13 with (fail)
          have htk := tick_rng now od hnow1 (by omega)
          generalize Go.RowKit.wrap64 (now + Go.RowKit.wrap64 ((IntKind.u64.wrap od).tmod 9)) = now2 at htk ⊢
          obtain ⟨ht1, ht2⟩ := htk
          rcases hok : (nextF now2 win tm n m s).1.2.2 with _ | _
          · have HNN := Aside0.mk (next_none hok)
            have HNH := Aside0.mk (next_had now2 win tm n m s)
            clear hok
            go_wp2_with fail
            refine (next_at now2 w3 HP.out (by omega) (by omega) HNN.out rfl).mono ?_
            rintro e w4 ⟨rfl, hp, hc⟩
            have HP4 := Aside0.mk hp
            have HD4 := Aside0.mk (HD.out.chg hc HGH.out.1.2.1 HGH.out.1.2.2.1 HGH.out.1.2.2.2)
            have HB4 := Aside0.mk (hc.of_new HB.out HL.out.2.1 HL.out.2.2.1 HL.out.2.2.2)
            have HR4 := Aside0.mk (HR.out.congr HNH.out)
            have HE4 := Aside0.mk (leftF_congr n (fun j _ => HNH.out j))
            clear hp hc HP HD HB HR HNH HNN
            generalize (nextF now2 win tm n m s).2 = s2 at HP4 HR4 HE4
            go_wp2
            go_meet
            case rel => exact ⟨s2, now2, Hd, rfl, by rw [HE4.out], ht1, by omega, HP4, HD4, HR4, HB4⟩
          · obtain ⟨i, q, hi, hq, hr1, h0, hs2, hb⟩ := next_asks hok
            have HNN := Aside0.mk hr1
            have HNH := Aside0.mk (next_had now2 win tm n m s)
            have hnh : (s.1 i).1 ≠ 2 := fun h2 => by
              have := (lateF_had now2 tm s.1 s.2.1 n i).2 h2
              omega
            have hz := HR.out i hi
            rw [if_neg hnh] at hz
            have y0 := HD.out.cu i hi
            rw [hz] at y0
            clear hok hr1 h0 hs2 hb hnh hz y0
            have HZ : Aside0 (∀ w', Dem w' gh n Hd → w'.cell? ⟨gh, i, none⟩ = some (.int .i64 0)) := ⟨fun w' hd => by
              have y := hd.cu i hi
              have hnh : (s.1 i).1 ≠ 2 := fun h2 => by
                have h3 := (lateF_had now2 tm s.1 s.2.1 n i).2 h2
                have h4 := (next_asks (now := now2) (win := win) (tm := tm) (n := n) (m := m) (s := s) (by rw [HNN.out]))
                obtain ⟨i', q', _, _, e1, e0, _⟩ := h4
                rw [HNN.out] at e1
                simp only [Prod.mk.injEq, Int.natCast_inj] at e1
                obtain ⟨e1, _⟩ := e1
                subst e1
                omega
              have hz := HR.out i hi
              rw [if_neg hnh] at hz
              rwa [hz] at y⟩
            go_wp2_with fail
            refine (next_at now2 w3 HP.out (by omega) (by omega) HNN.out rfl).mono ?_
            rintro e w4 ⟨rfl, hp, hc⟩
            have HP4 := Aside0.mk hp
            have HD4 := Aside0.mk (HD.out.chg hc HGH.out.1.2.1 HGH.out.1.2.2.1 HGH.out.1.2.2.2)
            have HB4 := Aside0.mk (hc.of_new HB.out HL.out.2.1 HL.out.2.2.1 HL.out.2.2.2)
            have HR4 := Aside0.mk (HR.out.congr HNH.out)
            have HE4 := Aside0.mk (leftF_congr n (fun j _ => HNH.out j))
            have y0 := HZ.out w4 HD4.out
            clear hp hc HP HD HB HR HNH HNN HZ
            generalize (nextF now2 win tm n m s).2 = s2 at HP4 HR4 HE4
            have e1 : decide ((i : Int) < 0) = false := decide_eq_false (by omega)
            have e2 : decide ((i : Int) ≥ (n : Int)) = false := decide_eq_false (by omega)
            have e3 : decide (i ≥ n) = false := decide_eq_false (by omega)
            have e4 : decide (n ≤ i) = false := decide_eq_false (by omega)
            go_wp2
            go_meet
            case rel => exact ⟨s2, now2, Hd, rfl, by rw [HE4.out], ht1, by omega, HP4, HD4, HR4, HB4⟩
        have hk1' : (oa == 1) = false := by simp [hk1]
        by_cases hk2 : oa = 2
        · have hk2' : (oa == 2) = true := by simp [hk2]
          clear hk1 hk2
          go_wp2_with fail
          by_cases hin : isIn n ob ∧ (s.1 ob.toNat).1 ≠ 2
          · obtain ⟨j, rfl⟩ := Int.eq_ofNat_of_zero_le hin.1.1
            have hj : j < n := by have := hin.1.2; omega
            have h2 := hin.2
            rw [Int.toNat_natCast] at h2
            have HHS : Aside0 (hadS n s (j : Int) = (upd s.1 j (2, 0, 0), s.2.1, s.2.2)) := ⟨by unfold hadS; rw [if_pos hin, Int.toNat_natCast]⟩
            refine (had_at (j : Int) w3 HP.out (show hadR n s (j : Int) = 0 by unfold hadR; rw [if_pos hin.1]; exact if_neg hin.2) HHS.out).mono ?_
            rintro e w4 ⟨rfl, hp, hc⟩
            have HP4 := Aside0.mk hp
            have HD4 := Aside0.mk (HD.out.chg hc HGH.out.1.2.1 HGH.out.1.2.2.1 HGH.out.1.2.2.2)
            have HB4 := Aside0.mk (hc.of_new HB.out HL.out.2.1 HL.out.2.2.1 HL.out.2.2.2)
            have HX4 := Aside0.mk (HX.out.chg hc HGX.out.1 HGX.out.2.1 HGX.out.2.2.1)
            have hz := HR.out j hj
            rw [if_neg h2] at hz
            have HZ := Aside0.mk hz
            have hle := leftF_upd s.1 j (2, 0, 0) rfl h2 n
            rw [if_pos hj] at hle
            have hl2 := leftF_le (upd s.1 j (2, 0, 0)) n
            have HE4 := Aside0.mk hle
            have HR4 : Aside0 (Hrel n (upd s.1 j (2, 0, 0), s.2.1, s.2.2) (updD Hd j 1)) := ⟨fun i hi => by
              show updD Hd j 1 i = if (upd s.1 j (2, 0, 0) i).1 = 2 then 1 else 0
              by_cases e : i = j
              · subst e
                rw [updD_same, upd_same]
                rfl
              · rw [updD_other _ _ _ _ e, upd_other _ _ _ _ e]
                exact HR.out i hi⟩
            clear hp hc HP HD HB HR HX hin h2 hz hle
            obtain ⟨p0, p1, p2, p3⟩ := HX4.out.cu
            simp only [] at p0 p1 p2 p3
            have y0 := HD4.out.cu j hj
            rw [HZ.out] at y0
            have z0 := HD4.out.fz j
            have e1 : decide ((j : Int) < 0) = false := decide_eq_false (by omega)
            have e2 : decide ((j : Int) ≥ (n : Int)) = false := decide_eq_false (by omega)
            have e3 : decide (j ≥ n) = false := decide_eq_false (by omega)
            have e4 : decide (n ≤ j) = false := decide_eq_false (by omega)
            clear o0 o1 o2 o3
            have HD5 := Aside0.mk (HD4.out.put j hj 1)
            have HP5 := Aside0.mk (HP4.out.far (g := gh) j (.int .i64 1) HGH.out.1.1 HGH.out.1.2.1 HGH.out.1.2.2.1 HGH.out.1.2.2.2)
            have HB5 := Aside0.mk (HB4.out.setCell (p := ⟨gh, j, none⟩) HGH.out.2 (.int .i64 1))
            generalize hl2e : leftF (upd s.1 j (2, 0, 0)) n = l2 at hl2 HE4
            replace hl2e := Aside0.mk hl2e
            have hl1 : leftF s.1 n = l2 + 1 := by have := HE4.out; omega
            rw [hl1]
            go_wp2
            go_meet
            case rel => exact ⟨(upd s.1 j (2, 0, 0), s.2.1, s.2.2), now, updD Hd j 1, rfl, by rw [show leftF (upd s.1 j (2, 0, 0), s.2.1, s.2.2).1 n = l2 from hl2e.out]; simp; omega, hnow1, by omega, HP5, HD5, HR4, HB5⟩
          · have hne : (hadR n s ob == 0) = false := by
              rw [beq_eq_false_iff_ne]
              unfold hadR
              by_cases hi : isIn n ob
              · rw [if_pos hi, if_pos (Classical.byContradiction fun h => hin ⟨hi, h⟩)]
                decide
              · rw [if_neg hi]
                decide
            have HHS : Aside0 (hadS n s ob = s) := ⟨by unfold hadS; rw [if_neg hin]⟩
            refine (had_at ob w3 HP.out rfl HHS.out).mono ?_
            rintro e w4 ⟨rfl, hp, hc⟩
            have HP4 := Aside0.mk hp
            have HD4 := Aside0.mk (HD.out.chg hc HGH.out.1.2.1 HGH.out.1.2.2.1 HGH.out.1.2.2.2)
            have HB4 := Aside0.mk (hc.of_new HB.out HL.out.2.1 HL.out.2.2.1 HL.out.2.2.2)
            clear hp hc HP HD HB hin HHS o0 o1 o2 o3
            generalize hadR n s ob = rr at hne ⊢
            go_wp2
            go_meet
            case rel => exact ⟨s, now, Hd, rfl, rfl, hnow1, by omega, HP4, HD4, HR, HB4⟩
        have hk2' : (oa == 2) = false := by simp [hk2]
        clear hk1 hk2
        go_wp2_with fail
        refine (bad_at ob oc w3 HP.out (by omega) rfl rfl).mono ?_
        rintro e w4 ⟨rfl, hp, hc⟩
        have HP4 := Aside0.mk hp
        have HD4 := Aside0.mk (HD.out.chg hc HGH.out.1.2.1 HGH.out.1.2.2.1 HGH.out.1.2.2.2)
        have HB4 := Aside0.mk (hc.of_new HB.out HL.out.2.1 HL.out.2.2.1 HL.out.2.2.2)
        have HR4 := Aside0.mk (HR.out.congr (bad_had n m s ob oc))
        have HE4 := Aside0.mk (leftF_congr n (fun j _ => bad_had n m s ob oc j))
        clear hp hc HP HD HB HR o0 o1 o2 o3
        generalize badR n m s ob oc = rr
        generalize badS n m s ob oc = s2 at HP4 HR4 HE4
        go_wp2
        go_meet
        case rel => exact ⟨s2, now, Hd, rfl, by rw [HE4.out], hnow1, by omega, HP4, HD4, HR4, HB4⟩
      case rest =>
        clear HP HD HR HB HX o0 o1 o2 o3
        obtain ⟨s2, now2, Hd2, rfl, rfl, hn1, hn2, HP, HD, HR, HB⟩ := hcut
        go_wp2
        obtain ⟨wo, hwo⟩ : ∃ wo, wo = wc := ⟨_, rfl⟩
        subst hwo
        go_loopw [126] (fun v wr => ∃ j : Nat, j ≤ n ∧ v = .int .i64 (j : Int) ∧ Aside0 (Below wo.heap.size wo wr)) (fun v _ => n - (intOf v).toNat)
        case atStart => exact ⟨0, Nat.zero_le _, rfl, ⟨Below.refl _ _⟩⟩
        case round =>
          obtain ⟨j, hj, rfl, HBJ⟩ := hrel
          by_cases hjlt : j < n
          · have hz := HR.out j hjlt
            have y0 := (HD.out.below HBJ.out).cu j hjlt
            have HPJ := Aside0.mk (HP.out.below HBJ.out)
            have e1 : decide ((j : Int) < (n : Int)) = true := decide_eq_true (by omega)
            by_cases h2 : (s2.1 j).1 = 2
            · rw [if_pos h2] at hz
              rw [hz] at y0
              have HST : Aside0 (stOf s2.1 n (j : Int) = 2) := ⟨by rw [stOf_in hjlt]; exact h2⟩
              clear hz h2
              go_upto_region 25 with (fail)
              go_quiet ((go_at_call 16; exact Calls.quiet_of_same (state_at _ _ (HPJ.out.pl.below (pw_below_drewN (Below.refl _ _) _)) HST.out)))
              have HBN := Aside0.mk (pw_below_drewN HBJ.out nq)
              go_wp2
              go_roundw
              case rel => exact ⟨j + 1, by omega, by first | rfl | go_num, HBN⟩
              case measure => simp [intOf]; omega
            · rw [if_neg h2] at hz
              rw [hz] at y0
              have HST : Aside0 (stOf s2.1 n (j : Int) = (s2.1 j).1) := ⟨stOf_in hjlt⟩
              have hst : ((s2.1 j).1 == 2) = false := by rw [beq_eq_false_iff_ne]; exact h2
              clear hz h2
              generalize (s2.1 j).1 = stj at HST hst
              go_upto_region 25 with (fail)
              go_quiet ((go_at_call 16; exact Calls.quiet_of_same (state_at _ _ (HPJ.out.pl.below (pw_below_drewN (Below.refl _ _) _)) HST.out)))
              have HBN := Aside0.mk (pw_below_drewN HBJ.out nq)
              go_wp2
              go_roundw
              case rel => exact ⟨j + 1, by omega, by first | rfl | go_num, HBN⟩
              case measure => simp [intOf]; omega
          · obtain rfl : j = n := by omega
            have hl := leftF_le s2.1 j
            go_wp2_with fail
            refine (left_calls _ (HP.out.below HBJ.out).pl).mono ?_
            rintro e w5 ⟨rfl, hb⟩
            have hb5 := below_step HBJ.out hb
            have HP5 := Aside0.mk (HP.out.below hb5)
            have HD5 := Aside0.mk (HD.out.below hb5)
            have HB5 := Aside0.mk (below_step HB.out hb5)
            clear hb hb5 HP HD HB HBJ
            generalize hl2e : leftF s2.1 j = l2 at hl HP5 ⊢
            replace hl2e := Aside0.mk hl2e
            go_wp2
            go_roundw
            case rel => exact ⟨k + 1, s2, now2, Hd2, by omega, by first | rfl | go_num, rfl, by rw [hl2e.out], hn1, by omega, HP5, HD5, HR, HB5⟩
            case measure => simp [intOf]; omega
    · obtain rfl : k = x4.length := by omega
      go_wp2_with fail
      refine (known_calls _).mono ?_
      rintro e w2 ⟨rfl, hb⟩
      have HB2 := Aside0.mk (below_step HB.out hb)
      clear hb
      go_wp2
      go_ret
      exact ⟨rfl, HB2.out⟩
theorem had_walk (a0 a1 a2 a3 : Int) (a4 : Option Addr) (c4 : Nat) (x4 : List Op4) (w : World) (k0 : (Lit.int .i64 a0).wf = true) (k1 : (Lit.int .i64 a1).wf = true) (k2 : (Lit.int .i64 a2).wf = true) (k3 : (Lit.int .i64 a3).wf = true) (C4 : KO.C w a4 x4.length x4) (l4 : x4.length ≤ c4) (k4 : ∀ o ∈ x4, Open.okO o) :
    Calls Try.prog 4 #[.int .i64 a0, .int .i64 a1, .int .i64 a2, .int .i64 a3, .slice a4 x4.length c4] w fun e w' => e = .returned (.bool true) ∧ Below w.heap.size w w' := by
  rcases hm : mayB a0 a1 a2 a3 with _ | _
  · exact had_out a0 a1 a2 a3 a4 c4 x4 w hm
  · have hh := hm
    unfold mayB inB at hh
    simp only [Bool.and_eq_true, decide_eq_true_eq] at hh
    obtain ⟨n, rfl⟩ := Int.eq_ofNat_of_zero_le (show 0 ≤ a0 by omega)
    obtain ⟨m, rfl⟩ := Int.eq_ofNat_of_zero_le (show 0 ≤ a1 by omega)
    by_cases hl : x4.length ≤ 150
    · exact had_in n m a2 a3 a4 c4 x4 w hm hl C4 l4 k4
    · exact had_long n m a2 a3 a4 c4 x4.length w hm (by omega)
end Go.Proofs.Ytaheoifjihkipaa.As
