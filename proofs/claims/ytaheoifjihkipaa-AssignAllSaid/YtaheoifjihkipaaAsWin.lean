/- What calls of Go functions of this seat come to, as the rows need it: under the conditions that each theorem names. -/
import Derived.Test.YtaheoifjihkipaaAsHad
namespace Go.Proofs.Ytaheoifjihkipaa.As
open Go.RowKit Go.Proofs.YtaheoifjihkipaaW.PrintWords Go.Proofs.YtaheoifjihkipaaW.PrintLast Go.Proofs.YtaheoifjihkipaaW.PrintMore
set_option linter.unusedVariables false
set_option linter.unusedSimpArgs false
open Go.Proofs.Ytaheoifjihkipaa.Open (Op4)

/-- Of no peer are more than window chunks asked. -/
def Wrel (n m : Nat) (win : Int) (s : St) : Prop := ∀ k : Nat, k < m → (loadF s.1 (k : Int) n : Int) ≤ win
theorem loadF_mono {S S' : Nat → U} (k : Int) : ∀ n, (∀ j, j < n → (S' j).1 = 1 → (S j).1 = 1 ∧ (S' j).2.1 = (S j).2.1) → loadF S' k n ≤ loadF S k n
  | 0, _ => Nat.le_refl _
  | n + 1, h => by
    have ih := loadF_mono k n (fun j hj => h j (by omega))
    have h1 := h n (by omega)
    unfold loadF
    by_cases e : (S' n).1 = 1 ∧ (S' n).2.1 = k
    · obtain ⟨a, b⟩ := h1 e.1
      rw [if_pos e, if_pos ⟨a, by rw [← b]; exact e.2⟩]
      omega
    · rw [if_neg e]
      omega
theorem loadF_upd (S : Nat → U) (i : Nat) (x : U) (h0 : (S i).1 ≠ 1) (k : Int) : ∀ n, loadF (upd S i x) k n ≤ loadF S k n + (if x.1 = 1 ∧ x.2.1 = k then 1 else 0)
  | 0 => Nat.zero_le _
  | n + 1 => by
    have ih := loadF_upd S i x h0 k n
    unfold loadF
    by_cases e : n = i
    · subst e
      have hc : ∀ N, N ≤ n → loadF (upd S n x) k N = loadF S k N := by
        intro N
        induction N with
        | zero => intro _; rfl
        | succ N ihN =>
          intro hN
          unfold loadF
          rw [ihN (by omega), upd_other _ _ _ _ (by omega)]
      rw [hc n (Nat.le_refl _), upd_same, if_neg (c := (S n).1 = 1 ∧ (S n).2.1 = k) (fun h => h0 h.1)]
      omega
    · rw [upd_other _ _ _ _ e]
      generalize (if (S n).1 = 1 ∧ (S n).2.1 = k then 1 else 0) = z
      omega
theorem lateF_st (now tm : Int) (S : Nat → U) (D : Nat → Int) : ∀ i j, ((lateF now tm S D i).1 j).1 = 1 → (S j).1 = 1 ∧ ((lateF now tm S D i).1 j).2.1 = (S j).2.1
  | 0, _ => fun h => ⟨h, rfl⟩
  | i + 1, j => by
    have ih := lateF_st now tm S D i j
    unfold lateF
    split
    · show (upd _ i _ j).1 = 1 → _ ∧ (upd _ i _ j).2.1 = _
      by_cases e : j = i
      · subst e
        rw [upd_same]
        intro h
        cases h
      · rw [upd_other _ _ _ _ e]
        exact ih
    · exact ih
theorem bestF_may {S : Nat → U} {D : Nat → Int} {T : Nat → Nat → Int} {win : Int} {n i q : Nat} : ∀ {k}, bestF S D T win n i k = (q : Int) → mayF S D win n q
  | 0, h => by unfold bestF at h; omega
  | k + 1, h => by
    unfold bestF at h
    split at h
    · rename_i hc
      have : k = q := by omega
      rw [← this]
      exact hc.1
    · exact bestF_may h
theorem wrel_late {n m : Nat} {win now tm : Int} {s : St} (h : Wrel n m win s) : Wrel n m win ((lateF now tm s.1 s.2.1 n).1, (lateF now tm s.1 s.2.1 n).2, s.2.2) := fun k hk => by
  have h1 := h k hk
  have h2 := loadF_mono (S := s.1) (S' := (lateF now tm s.1 s.2.1 n).1) (k : Int) n (fun j _ hj => lateF_st now tm s.1 s.2.1 n j hj)
  show (loadF (lateF now tm s.1 s.2.1 n).1 (k : Int) n : Int) ≤ win
  omega
theorem wrel_next {n m : Nat} {win now tm : Int} {s : St} (h : Wrel n m win s) : Wrel n m win (nextF now win tm n m s).2 := by
  have hl := wrel_late (now := now) (tm := tm) h
  rcases hok : (nextF now win tm n m s).1.2.2 with _ | _
  · have : (nextF now win tm n m s).2 = ((lateF now tm s.1 s.2.1 n).1, (lateF now tm s.1 s.2.1 n).2, s.2.2) := by
      unfold nextF at hok ⊢
      simp only [] at hok ⊢
      split
      · rename_i hc
        rw [if_pos hc] at hok
        cases hok
      · rfl
    rw [this]
    exact hl
  · obtain ⟨i, q, hi, hq, hr1, h0, hs2, hb⟩ := next_asks hok
    rw [hs2]
    intro k hk
    have h1 := hl k hk
    have h2 := loadF_upd (lateF now tm s.1 s.2.1 n).1 i (1, (q : Int), now) (by rw [h0]; decide) (k : Int) n
    have h3 := (bestF_may hb).2
    show (loadF (upd (lateF now tm s.1 s.2.1 n).1 i (1, (q : Int), now)) (k : Int) n : Int) ≤ win
    simp only [] at h1 h2
    by_cases e : q = k
    · subst e
      rw [if_pos ⟨trivial, rfl⟩] at h2
      omega
    · rw [if_neg (fun h => e (by have := h.2; omega))] at h2
      omega
theorem wrel_had {n m : Nat} {win : Int} {s : St} (h : Wrel n m win s) (i : Int) : Wrel n m win (hadS n s i) := fun k hk => by
  have h1 := h k hk
  have h2 : loadF (hadS n s i).1 (k : Int) n ≤ loadF s.1 (k : Int) n := loadF_mono _ n (fun j _ hj => by
    unfold hadS at hj ⊢
    split
    · rename_i hc
      rw [if_pos hc] at hj
      by_cases e : j = i.toNat
      · rw [e] at hj
        simp only [upd_same] at hj
        cases hj
      · simp only [upd_other _ _ _ _ e] at hj ⊢
        exact ⟨hj, trivial⟩
    · rename_i hc
      rw [if_neg hc] at hj
      exact ⟨hj, rfl⟩)
  omega
theorem wrel_bad {n m : Nat} {win : Int} {s : St} (h : Wrel n m win s) (i q : Int) : Wrel n m win (badS n m s i q) := fun k hk => by
  have h1 := h k hk
  have h2 : loadF (badS n m s i q).1 (k : Int) n ≤ loadF s.1 (k : Int) n := loadF_mono _ n (fun j _ hj => by
    unfold badS at hj ⊢
    split
    · rename_i hc
      rw [if_pos hc] at hj
      by_cases e : j = i.toNat
      · rw [e] at hj
        simp only [upd_same] at hj
        cases hj
      · simp only [upd_other _ _ _ _ e] at hj ⊢
        exact ⟨hj, trivial⟩
    · rename_i hc
      rw [if_neg hc] at hj
      exact ⟨hj, rfl⟩)
  omega
theorem asked_at {p gc gd gm n m : Nat} {win tm : Int} {S : Nat → U} {D : Nat → Int} {T : Nat → Nat → Int} {x : Int × Int × Bool} (i : Int) (w : World) (h : Pl w p gc gd gm n m win tm S D) (hx : askR n (S, D, T) i = x) :
    Calls Try.prog 18 #[.pointer (some ⟨p, 0, none⟩), .int .i64 i] w fun e w' => e = .returned (.tuple #[.int .i64 x.1, .int .i64 x.2.1, .bool x.2.2]) ∧ Below w.heap.size w w' := by
  subst hx
  exact asked_calls T i w h
theorem Dem.congr {w : World} {g m : Nat} {D D' : Nat → Int} (h : Dem w g m D) (hd : ∀ k, k < m → D k = D' k) : Dem w g m D' := by
  obtain ⟨cs, a, b, c⟩ := h
  exact ⟨cs, a, b, fun k hk => by rw [← hd k hk]; exact c k hk⟩
theorem wrel_start (n m : Nat) (win : Int) (h : 1 ≤ win) : Wrel n m win ks0 := fun k _ => by
  have : ∀ N, loadF ks0.1 (k : Int) N = 0 := fun N => by
    induction N with
    | zero => rfl
    | succ N ih => unfold loadF; rw [ih]; rfl
  rw [this]
  omega
set_option maxHeartbeats 3200000 in
set_option maxRecDepth 100000 in
theorem win_out (a0 a1 a2 a3 : Int) (a4 : Option Addr) (c4 : Nat) (x4 : List Op4) (w : World) (h : mayB a0 a1 a2 a3 = false) :
    Calls Try.prog 6 #[.int .i64 a0, .int .i64 a1, .int .i64 a2, .int .i64 a3, .slice a4 x4.length c4] w fun e w' => e = .returned (.bool true) ∧ Below w.heap.size w w' := by
  have H := Aside0.mk (new_no a0 a1 a2 a3 w h)
  clear h
  generalize x4.length = len
  go_enter Try.func6, Try.ntmps6
  go_wp2_with fail
  refine H.out.mono ?_
  rintro e w1 ⟨rfl, hw⟩
  replace hw := hw.symm
  subst hw
  go_wp2_with fail
  refine (known_calls _).mono ?_
  rintro e w2 ⟨rfl, hb⟩
  have HB2 := Aside0.mk hb
  clear hb
  go_wp2
  go_ret
  exact ⟨rfl, HB2.out⟩
set_option maxHeartbeats 3200000 in
set_option maxRecDepth 100000 in
theorem win_long (n m : Nat) (a2 a3 : Int) (a4 : Option Addr) (c4 len : Nat) (w : World) (h : mayB n m a2 a3 = true) (hl : 150 < len) :
    Calls Try.prog 6 #[.int .i64 n, .int .i64 m, .int .i64 a2, .int .i64 a3, .slice a4 len c4] w fun e w' => e = .returned (.bool true) ∧ Below w.heap.size w w' := by
  have H := Aside0.mk (new_at n m a2 a3 w h)
  have e1 : decide ((len : Int) > 150) = true := decide_eq_true (by omega)
  have e2 : decide (len > 150) = true := decide_eq_true (by omega)
  clear h hl
  go_enter Try.func6, Try.ntmps6
  go_wp2_with fail
  refine H.out.mono ?_
  rintro e w1 ⟨p, gc, gd, gm, rfl, hpw, hb, l1, l2, l3, l4⟩
  have HB := Aside0.mk hb
  clear hb hpw l1 l2 l3 l4
  go_wp2_with fail
  refine (known_calls _).mono ?_
  rintro e w2 ⟨rfl, hb⟩
  have HB2 := Aside0.mk (below_step HB.out hb)
  clear hb
  go_wp2
  go_ret
  exact ⟨rfl, HB2.out⟩
set_option maxHeartbeats 6400000 in
set_option maxRecDepth 100000 in
theorem win_in (n m : Nat) (win tm : Int) (a4 : Option Addr) (c4 : Nat) (x4 : List Op4) (w : World) (h : mayB n m win tm = true) (hl : x4.length ≤ 150) (C4 : KO.C w a4 x4.length x4) (l4 : x4.length ≤ c4) (k4 : ∀ o ∈ x4, Open.okO o) :
    Calls Try.prog 6 #[.int .i64 n, .int .i64 m, .int .i64 win, .int .i64 tm, .slice a4 x4.length c4] w fun e w' => e = .returned (.bool true) ∧ Below w.heap.size w w' := by
  have H := Aside0.mk (new_at n m win tm w h)
  have HMAY := Aside0.mk h
  have HC := Aside0.mk C4
  have HK := Aside0.mk k4
  have e1 : decide ((x4.length : Int) > 150) = false := decide_eq_false (by omega)
  have e2 : decide (x4.length > 150) = false := decide_eq_false (by omega)
  clear h C4 k4
  go_enter Try.func6, Try.ntmps6
  go_wp2_with fail
  refine H.out.mono ?_
  rintro e w1 ⟨p, gc, gd, gm, rfl, hpw, hb, l1, l2, l3, l4'⟩
  have HP1 := Aside0.mk hpw
  have HB1 := Aside0.mk hb
  have HL := Aside0.mk (And.intro l1 (And.intro l2 (And.intro l3 l4')))
  have hn := hpw.pl.n1
  have hmk := make_I n hn
  clear hpw hb l1 l2 l3 l4' H
  have HW1 : Aside0 (Wrel n m win ks0) := ⟨wrel_start n m win (by
    have := HMAY.out
    unfold mayB inB at this
    simp only [Bool.and_eq_true, decide_eq_true_eq] at this
    omega)⟩
  go_wp2
  go_loopw [13, 50] (fun v13 v wr => ∃ (k : Nat) (s : St) (now : Int), k ≤ x4.length ∧ v = .int .i64 (k : Int) ∧ v13 = .int .i64 now ∧ 0 ≤ now ∧ now ≤ 8 * k ∧ Aside0 (PW wr p gc gd gm n m win tm k s) ∧ Aside0 (Wrel n m win s) ∧ Aside0 (Below w.heap.size w wr)) (fun _ v _ => x4.length - (intOf v).toNat)
  case atStart => exact ⟨0, ks0, 0, Nat.zero_le _, rfl, rfl, by omega, by omega, HP1, HW1, HB1⟩
  case round =>
    clear HP1 HW1 HB1
    obtain ⟨k, s, now, hk, rfl, rfl, hnow1, hnow2, HP, HW, HB⟩ := hrel
    by_cases hlt : k < x4.length
    · obtain ⟨ad, rfl, x0, x1, x2, x3⟩ := row_op (Kd.C_below HC.out HB.out) k hlt x4[k] (List.getElem?_eq_getElem hlt)
      have HO := Aside0.mk (HK.out x4[k] (List.getElem_mem hlt))
      generalize x4[k] = o at x0 x1 x2 x3 HO
      obtain ⟨oa, ob, oc, od⟩ := o
      simp only [] at x0 x1 x2 x3
      go_upto_region 8 with (fail)
      obtain ⟨gx, hgx⟩ : ∃ gx, wr.heap.size = gx := ⟨_, rfl⟩
      obtain ⟨w3, hw3⟩ : ∃ w3, wr.alloc (.cells #[.int .i64 oa, .int .i64 ob, .int .i64 oc, .int .i64 od] 37) = w3 := ⟨_, rfl⟩
      have hb3 : Below wr.heap.size wr w3 := by rw [← hw3]; exact (Below.refl _ _).alloc (Nat.le_refl _) _
      have HX := Aside0.mk (show BoxO w3 gx (oa, ob, oc, od) by rw [← hw3, ← hgx]; exact heap_new _ _)
      have HGX := Aside0.mk (show gx ≠ gc ∧ gx ≠ gd ∧ gx ≠ gm ∧ w.heap.size ≤ gx by
        have h1 := HP.out.lts
        have h3 := HB.out.size
        omega)
      replace HP := Aside0.mk (HP.out.below hb3)
      replace HB := Aside0.mk (below_step HB.out hb3)
      rw [hw3, hgx]
      clear hw3 hgx hb3 x0 x1 x2 x3
      obtain ⟨o0, o1, o2, o3⟩ := HX.out.cu
      simp only [] at o0 o1 o2 o3
      have hn150 : k < 150 := by omega
      go_upto_block 2 with (fail)
      go_cut [13] (fun v13 wc => ∃ (s' : St) (now' : Int), v13 = .int .i64 now' ∧ 0 ≤ now' ∧ now' ≤ 8 * (k + 1) ∧ Aside0 (PW wc p gc gd gm n m win tm (k + 1) s') ∧ Aside0 (Wrel n m win s') ∧ Aside0 (Below w.heap.size w wc))
      case first =>
        by_cases hk1 : oa = 1
        · have hk1' : (oa == 1) = true := by simp [hk1]
          clear hk1
          go_upto_region 12 with (fail)
          have htk := tick_rng now od hnow1 (by omega)
          generalize Go.RowKit.wrap64 (now + Go.RowKit.wrap64 ((IntKind.u64.wrap od).tmod 9)) = now2 at htk ⊢
          obtain ⟨ht1, ht2⟩ := htk
          rcases hok : (nextF now2 win tm n m s).1.2.2 with _ | _
          · have HNN := Aside0.mk (next_none hok)
            clear hok
            go_wp2_with fail
            refine (next_at now2 w3 HP.out (by omega) (by omega) HNN.out rfl).mono ?_
            rintro e w4 ⟨rfl, hp, hc⟩
            have HP4 := Aside0.mk hp
            have HB4 := Aside0.mk (hc.of_new HB.out HL.out.2.1 HL.out.2.2.1 HL.out.2.2.2)
            have HW4 := Aside0.mk (wrel_next (now := now2) (tm := tm) HW.out)
            clear hp hc HP HB HW HNN
            generalize (nextF now2 win tm n m s).2 = s2 at HP4 HW4
            go_wp2
            go_roundw
            case rel => exact ⟨k + 1, s2, now2, by omega, by first | rfl | go_num, rfl, ht1, by omega, HP4, HW4, HB4⟩
            case measure => simp [intOf]; omega
          · obtain ⟨i, q, hi, hq, hr1, h0, hs2, hb⟩ := next_asks hok
            have HNN := Aside0.mk hr1
            have HS2 := Aside0.mk hs2
            have hdm := (bestF_may hb).1
            have HDM := Aside0.mk hdm
            clear hok hr1 h0 hs2 hb hdm
            go_wp2_with fail
            refine (next_at now2 w3 HP.out (by omega) (by omega) HNN.out HS2.out).mono ?_
            rintro e w4 ⟨rfl, hp, hc⟩
            have HP4 := Aside0.mk hp
            have HB4 := Aside0.mk (hc.of_new HB.out HL.out.2.1 HL.out.2.2.1 HL.out.2.2.2)
            have HW4 := Aside0.mk (wrel_next (now := now2) (tm := tm) HW.out)
            rw [HS2.out] at HW4
            clear hp hc HP HB HW HNN
            generalize (lateF now2 tm s.1 s.2.1 n).1 = S1 at HP4 HW4 HDM HS2
            generalize (lateF now2 tm s.1 s.2.1 n).2 = D1 at HP4 HW4 HDM HS2
            clear HS2
            go_wp2_with fail
            have HAS : Aside0 (askR n (upd S1 i (1, (q : Int), now2), D1, updT s.2.2 i q (s.2.2 i q + 1)) (i : Int) = ((q : Int), now2, true)) := ⟨by
              unfold askR
              rw [if_pos (by rw [stOf_in hi]; simp [upd])]
              simp [upd]⟩
            refine (asked_at (i : Int) w4 HP4.out.pl HAS.out).mono ?_
            rintro e w5 ⟨rfl, hb⟩
            have HP5 := Aside0.mk (HP4.out.below hb)
            have HB5 := Aside0.mk (below_step HB4.out hb)
            have HDE := Aside0.mk (show deOf D1 m (q : Int) = D1 q by unfold deOf; rw [if_pos ⟨by omega, by omega⟩, Int.toNat_natCast])
            have e5 : decide (D1 q ≥ 3) = false := decide_eq_false (by have := HDM.out; omega)
            clear hb HP4 HB4
            go_wp2_with fail
            refine (dem_at (q : Int) w5 HP5.out.pl HDE.out).mono ?_
            rintro e w6 ⟨rfl, hw⟩
            replace hw := hw.symm
            subst hw
            go_wp2
            go_meet
            case rel => exact ⟨_, now2, rfl, ht1, by omega, HP5, HW4, HB5⟩
        have hk1' : (oa == 1) = false := by simp [hk1]
        by_cases hk2 : oa = 2
        · have hk2' : (oa == 2) = true := by simp [hk2]
          clear hk1 hk2
          go_wp2_with fail
          refine (had_at ob w3 HP.out rfl rfl).mono ?_
          rintro e w4 ⟨rfl, hp, hc⟩
          have HP4 := Aside0.mk hp
          have HB4 := Aside0.mk (hc.of_new HB.out HL.out.2.1 HL.out.2.2.1 HL.out.2.2.2)
          have HW4 := Aside0.mk (wrel_had HW.out ob)
          clear hp hc HP HB HW
          generalize hadR n s ob = rr
          generalize hadS n s ob = s2 at HP4 HW4
          go_wp2
          go_meet
          case rel => exact ⟨s2, now, rfl, hnow1, by omega, HP4, HW4, HB4⟩
        have hk2' : (oa == 2) = false := by simp [hk2]
        clear hk1 hk2
        go_wp2_with fail
        refine (bad_at ob oc w3 HP.out (by omega) rfl rfl).mono ?_
        rintro e w4 ⟨rfl, hp, hc⟩
        have HP4 := Aside0.mk hp
        have HB4 := Aside0.mk (hc.of_new HB.out HL.out.2.1 HL.out.2.2.1 HL.out.2.2.2)
        have HW4 := Aside0.mk (wrel_bad HW.out ob oc)
        clear hp hc HP HB HW
        generalize badR n m s ob oc = rr
        generalize badS n m s ob oc = s2 at HP4 HW4
        go_wp2
        go_meet
        case rel => exact ⟨s2, now, rfl, hnow1, by omega, HP4, HW4, HB4⟩
      case rest =>
        clear HP HW HB HX o0 o1 o2 o3
        obtain ⟨s2, now2, rfl, hn1, hn2, HP, HW, HB⟩ := hcut
        have hm := HP.out.pl.m1
        have hmk := make_I m (by omega)
        go_upto_region 20 with (fail)
        obtain ⟨gl, hgl⟩ : ∃ gl, wc.heap.size = gl := ⟨_, rfl⟩
        obtain ⟨w5, hw5⟩ : ∃ w5, wc.alloc (.cells (zI m) 3) = w5 := ⟨_, rfl⟩
        have hb5 : Below wc.heap.size wc w5 := by rw [← hw5]; exact (Below.refl _ _).alloc (Nat.le_refl _) _
        have HD5 : Aside0 (Dem w5 gl m (fun k => (loadF s2.1 (k : Int) 0 : Int))) := ⟨zI m, by rw [← hw5, ← hgl]; exact heap_new _ _, by simp [zI, size_madeCells], fun k hk => zI_at _ _ hk⟩
        have HP5 := Aside0.mk (HP.out.below hb5)
        have HB5 := Aside0.mk (below_step HB.out hb5)
        have HGL := Aside0.mk (show (gl ≠ p ∧ gl ≠ gc ∧ gl ≠ gd ∧ gl ≠ gm) ∧ w.heap.size ≤ gl by
          have h1 := HP.out.lts
          have h2 := HB.out.size
          omega)
        rw [hw5, hgl]
        clear hw5 hgl hb5 HP HB hmk
        go_wp2
        go_loopw [115] (fun v wr => ∃ i : Nat, i ≤ n ∧ v = .int .i64 (i : Int) ∧ Aside0 (PW wr p gc gd gm n m win tm (k + 1) s2) ∧ Aside0 (Dem wr gl m (fun k => (loadF s2.1 (k : Int) i : Int))) ∧ Aside0 (Below w.heap.size w wr)) (fun v _ => n - (intOf v).toNat)
        case atStart => exact ⟨0, Nat.zero_le _, rfl, HP5, HD5, HB5⟩
        case round =>
          clear HP5 HD5 HB5
          obtain ⟨i, hi, rfl, HP, HD, HB⟩ := hrel
          by_cases hilt : i < n
          · have e1 : decide ((i : Int) < (n : Int)) = true := decide_eq_true (by omega)
            have HLS : Aside0 (∀ q : Nat, loadF s2.1 (q : Int) (i + 1) = loadF s2.1 (q : Int) i + (if (s2.1 i).1 = 1 ∧ (s2.1 i).2.1 = (q : Int) then 1 else 0)) := ⟨fun q => rfl⟩
            go_wp2_with fail
            by_cases h1 : (s2.1 i).1 = 1
            · have hgd := (HP.out.good.1 i hilt h1).1
              obtain ⟨pk, hpk⟩ := Int.eq_ofNat_of_zero_le hgd.1
              have hpm : pk < m := by omega
              have HAS : Aside0 (askR n (s2.1, s2.2.1, s2.2.2) (i : Int) = ((pk : Int), (s2.1 i).2.2, true)) := ⟨by
                unfold askR
                rw [if_pos (by rw [stOf_in hilt]; exact h1), Int.toNat_natCast, hpk]⟩
              refine (asked_at (i : Int) _ HP.out.pl HAS.out).mono ?_
              rintro e w6 ⟨rfl, hb⟩
              have HP6 := Aside0.mk (HP.out.below hb)
              have HD6 := Aside0.mk (HD.out.below hb)
              have HB6 := Aside0.mk (below_step HB.out hb)
              have hle := loadF_le s2.1 (pk : Int) i
              have y0 := HD6.out.cu pk hpm
              have z0 := HD6.out.fz pk
              have HDP := Aside0.mk (HD6.out.put pk hpm ((loadF s2.1 (pk : Int) i : Int) + 1))
              have HD7 := Aside0.mk (HDP.out.congr (D' := fun k => (loadF s2.1 (k : Int) (i + 1) : Int)) (fun q hq => by
                show updD _ pk _ q = ((loadF s2.1 (q : Int) (i + 1) : Nat) : Int)
                rw [HLS.out q]
                by_cases e : q = pk
                · subst e
                  rw [updD_same, if_pos ⟨h1, hpk⟩]
                  omega
                · rw [updD_other _ _ _ _ e, if_neg (fun h => e (by have := h.2; omega))]
                  rfl))
              have HP7 := Aside0.mk (HP6.out.far (g := gl) pk (.int .i64 ((loadF s2.1 (pk : Int) i : Int) + 1)) HGL.out.1.1 HGL.out.1.2.1 HGL.out.1.2.2.1 HGL.out.1.2.2.2)
              have HB7 := Aside0.mk (HB6.out.setCell (p := ⟨gl, pk, none⟩) HGL.out.2 (.int .i64 ((loadF s2.1 (pk : Int) i : Int) + 1)))
              have e2 : decide ((pk : Int) < 0) = false := decide_eq_false (by omega)
              have e3 : decide ((pk : Int) ≥ (m : Int)) = false := decide_eq_false (by omega)
              have e4 : decide (m ≤ pk) = false := decide_eq_false (by omega)
              clear hb HP HD HB HP6 HD6 HB6 h1 hgd hpk HDP
              generalize (loadF s2.1 (pk : Int) i) = lo at hle y0 z0 HD7 HP7 HB7
              go_wp2
              go_roundw
              case rel => exact ⟨i + 1, by omega, by first | rfl | go_num, HP7, HD7, HB7⟩
              case measure => simp [intOf]; omega
            · have HAS : Aside0 (askR n (s2.1, s2.2.1, s2.2.2) (i : Int) = (0, 0, false)) := ⟨by
                unfold askR
                rw [if_neg (by rw [stOf_in hilt]; exact h1)]⟩
              refine (asked_at (i : Int) _ HP.out.pl HAS.out).mono ?_
              rintro e w6 ⟨rfl, hb⟩
              have HP6 := Aside0.mk (HP.out.below hb)
              have HD6 := Aside0.mk ((HD.out.below hb).congr (D' := fun k => (loadF s2.1 (k : Int) (i + 1) : Int)) (fun q hq => by
                show _ = ((loadF s2.1 (q : Int) (i + 1) : Nat) : Int)
                rw [HLS.out q, if_neg (fun h => h1 h.1)]
                rfl))
              have HB6 := Aside0.mk (below_step HB.out hb)
              clear hb HP HD HB h1
              go_wp2
              go_roundw
              case rel => exact ⟨i + 1, by omega, by first | rfl | go_num, HP6, HD6, HB6⟩
              case measure => simp [intOf]; omega
          · obtain rfl : i = n := by omega
            have e1 : decide ((i : Int) < (i : Int)) = false := decide_eq_false (by omega)
            go_wp2
            obtain ⟨wo, hwo⟩ : ∃ wo, wo = wr := ⟨_, rfl⟩
            subst hwo
            go_loopw [142] (fun v wr => ∃ q : Nat, q ≤ m ∧ v = .int .i64 (q : Int) ∧ wr = wo) (fun v _ => m - (intOf v).toNat)
            case atStart => exact ⟨0, Nat.zero_le _, rfl, rfl⟩
            case round =>
              obtain ⟨q, hq, rfl, hww⟩ := hrel
              replace hww := hww.symm
              subst hww
              by_cases hqlt : q < m
              · have y0 := HD.out.cu q hqlt
                have hwq := HW.out q hqlt
                have e2 : decide ((loadF s2.1 (q : Int) i : Int) > win) = false := decide_eq_false (by omega)
                go_wp2
                go_roundw
                case rel => exact ⟨q + 1, by omega, by first | rfl | go_num, by first | trivial | rfl⟩
                case measure => simp [intOf]; omega
              · obtain rfl : q = m := by omega
                go_wp2
                go_roundw
                case rel => exact ⟨k + 1, s2, now2, by omega, by first | rfl | go_num, rfl, hn1, by omega, HP, HW, HB⟩
                case measure => simp [intOf]; omega
    · obtain rfl : k = x4.length := by omega
      go_wp2_with fail
      refine (known_calls _).mono ?_
      rintro e w2 ⟨rfl, hb⟩
      have HB2 := Aside0.mk (below_step HB.out hb)
      clear hb
      go_wp2
      go_ret
      exact ⟨rfl, HB2.out⟩
theorem win_walk (a0 a1 a2 a3 : Int) (a4 : Option Addr) (c4 : Nat) (x4 : List Op4) (w : World) (k0 : (Lit.int .i64 a0).wf = true) (k1 : (Lit.int .i64 a1).wf = true) (k2 : (Lit.int .i64 a2).wf = true) (k3 : (Lit.int .i64 a3).wf = true) (C4 : KO.C w a4 x4.length x4) (l4 : x4.length ≤ c4) (k4 : ∀ o ∈ x4, Open.okO o) :
    Calls Try.prog 6 #[.int .i64 a0, .int .i64 a1, .int .i64 a2, .int .i64 a3, .slice a4 x4.length c4] w fun e w' => e = .returned (.bool true) ∧ Below w.heap.size w w' := by
  rcases hm : mayB a0 a1 a2 a3 with _ | _
  · exact win_out a0 a1 a2 a3 a4 c4 x4 w hm
  · have hh := hm
    unfold mayB inB at hh
    simp only [Bool.and_eq_true, decide_eq_true_eq] at hh
    obtain ⟨n, rfl⟩ := Int.eq_ofNat_of_zero_le (show 0 ≤ a0 by omega)
    obtain ⟨m, rfl⟩ := Int.eq_ofNat_of_zero_le (show 0 ≤ a1 by omega)
    by_cases hl : x4.length ≤ 150
    · exact win_in n m a2 a3 a4 c4 x4 w hm hl C4 l4 k4
    · exact win_long n m a2 a3 a4 c4 x4.length w hm (by omega)
end Go.Proofs.Ytaheoifjihkipaa.As
