/- What calls of Go functions of this seat come to, as the rows need it: under the conditions that each theorem names. -/
import Derived.Test.YtaheoifjihkipaaAsE
namespace Go.Proofs.Ytaheoifjihkipaa.As
open Go.RowKit Go.Proofs.YtaheoifjihkipaaW.PrintWords Go.Proofs.YtaheoifjihkipaaW.PrintLast Go.Proofs.YtaheoifjihkipaaW.PrintMore
set_option linter.unusedVariables false
set_option linter.unusedSimpArgs false
theorem stuck1_calls (x : Int) (w : World) :
    Calls Try.prog 34 #[.int .i64 x] w fun e w' => e = .returned (.bool (decide (x < 3))) ∧ w' = w := by
  by_cases h : x < 3
  · have e1 : decide (x < 3) = true := decide_eq_true h
    rw [e1]
    go_enter Try.func34, Try.ntmps34
    go_wp2
    go_ret
    exact ⟨rfl, rfl⟩
  · have e1 : decide (x < 3) = false := decide_eq_false h
    rw [e1]
    go_enter Try.func34, Try.ntmps34
    go_wp2
    go_ret
    exact ⟨rfl, rfl⟩
theorem next1_calls (x : U) (w : World) :
    Calls Try.prog 30 #[.agg #[.int .i64 x.1, .int .i64 x.2.1, .int .i64 x.2.2]] w fun e w' => e = .returned (.bool (x.1 == 0)) ∧ Below w.heap.size w w' := by
  go_enter Try.func30, Try.ntmps30
  go_upto_region 1 with (fail)
  obtain ⟨w2, hw2⟩ : ∃ w2, w.alloc (.cells #[.int .i64 x.1, .int .i64 x.2.1, .int .i64 x.2.2] 55) = w2 := ⟨_, rfl⟩
  have hn0 : w2.heap[w.heap.size]? = some (.cells #[.int .i64 x.1, .int .i64 x.2.1, .int .i64 x.2.2] 55 (0, 0)) := by rw [← hw2]; exact heap_new _ _
  have HB2 := Aside0.mk (show Below w.heap.size w w2 by rw [← hw2]; exact (Below.refl _ _).alloc (Nat.le_refl _) _)
  have y0 : w2.cell? ⟨w.heap.size, 0, none⟩ = some (.int .i64 x.1) := (cell_of hn0).2 rfl
  rw [hw2]
  clear hw2 hn0
  go_wp2
  go_ret
  exact ⟨rfl, HB2.out⟩
/-- The first place that P holds at, below n; -1: none. -/
def Fst (P : Nat → Bool) (n : Nat) (r : Int) : Prop := (r = -1 ∧ ∀ i, i < n → P i = false) ∨ ∃ j : Nat, j < n ∧ r = j ∧ P j = true ∧ ∀ i, i < j → P i = false
theorem Dem.below {w w' : World} {g m : Nat} {D : Nat → Int} (h : Dem w g m D) (hb : Below w.heap.size w w') : Dem w' g m D := by
  obtain ⟨cs, h1, h2⟩ := h
  exact ⟨cs, heap_keep h1 hb, h2⟩
theorem Chs.below {w w' : World} {g n : Nat} {S : Nat → U} (h : Chs w g n S) (hb : Below w.heap.size w w') : Chs w' g n S := by
  obtain ⟨cs, h1, h2⟩ := h
  exact ⟨cs, heap_keep h1 hb, h2⟩
set_option maxHeartbeats 1600000 in
theorem idxD_calls {gd m cd : Nat} {D : Nat → Int} (w : World) (h : Dem w gd m D) (hm : m ≤ 64) :
    Calls Try.prog 44 #[.slice (some ⟨gd, 0, none⟩) m cd, .func (.func 34) #[] #[]] w fun e w' => ∃ r, e = .returned (.int .i64 r) ∧ Fst (fun i => decide (D i < 3)) m r ∧ w' = w := by
  have HD := Aside0.mk h
  clear h
  go_enter Try.func44, Try.ntmps44
  go_wp2
  go_loopw [8] (fun v wr => ∃ i : Nat, i ≤ m ∧ v = .int .i64 (i : Int) ∧ Aside0 (∀ q, q < i → decide (D q < 3) = false) ∧ wr = w) (fun v _ => m - (intOf v).toNat)
  case atStart => exact ⟨0, Nat.zero_le _, rfl, ⟨fun q h => by omega⟩, rfl⟩
  case round =>
    obtain ⟨i, hi, rfl, HI, hww⟩ := hrel
    replace hww := hww.symm
    subst hww
    by_cases hlt : i < m
    · have hx := HD.out.cu i hlt
      go_wp2_with fail
      refine (stuck1_calls (D i) _).mono ?_
      rintro e w1 ⟨rfl, hw⟩
      replace hw := hw.symm
      subst hw
      by_cases h3 : D i < 3
      · have e3 : decide (D i < 3) = true := decide_eq_true h3
        have HF := Aside0.mk (show Fst (fun i => decide (D i < 3)) m (i : Int) from Or.inr ⟨i, hlt, rfl, e3, HI.out⟩)
        clear h3
        go_wp2
        go_ret
        exact ⟨_, rfl, HF.out, rfl⟩
      · have e3 : decide (D i < 3) = false := decide_eq_false h3
        have HJ := Aside0.mk (show ∀ q, q < i + 1 → decide (D q < 3) = false from fun q hq => by
          by_cases hqi : q < i
          · exact HI.out q hqi
          · rw [show q = i by omega]; exact e3)
        clear h3
        go_wp2
        go_roundw
        case rel => exact ⟨i + 1, by omega, by first | rfl | go_num, HJ, by first | trivial | rfl⟩
        case measure => simp [intOf]; omega
    · obtain rfl : m = i := by omega
      go_wp2
      go_ret
      exact ⟨_, rfl, Or.inl ⟨rfl, HI.out⟩, rfl⟩
set_option maxHeartbeats 1600000 in
theorem idxC_calls {gc n cc : Nat} {S : Nat → U} (w : World) (h : Chs w gc n S) (hn : n ≤ 100) :
    Calls Try.prog 29 #[.slice (some ⟨gc, 0, none⟩) n cc, .func (.func 30) #[] #[]] w fun e w' => ∃ r, e = .returned (.int .i64 r) ∧ Fst (fun i => (S i).1 == 0) n r ∧ Below w.heap.size w w' := by
  have HD := Aside0.mk h
  clear h
  go_enter Try.func29, Try.ntmps29
  go_wp2
  go_loopw [8] (fun v wr => ∃ i : Nat, i ≤ n ∧ v = .int .i64 (i : Int) ∧ Aside0 (∀ q, q < i → ((S q).1 == 0) = false) ∧ Aside0 (Below w.heap.size w wr)) (fun v _ => n - (intOf v).toNat)
  case atStart => exact ⟨0, Nat.zero_le _, rfl, ⟨fun q h => by omega⟩, ⟨Below.refl _ _⟩⟩
  case round =>
    obtain ⟨i, hi, rfl, HI, HB⟩ := hrel
    by_cases hlt : i < n
    · obtain ⟨hx0, hx1, hx2⟩ := (HD.out.below HB.out).cu i hlt
      go_wp2_with fail
      refine (next1_calls (S i) _).mono ?_
      rintro e w1 ⟨rfl, hb⟩
      have HB1 := Aside0.mk (below_step HB.out hb)
      clear hb hx0 hx1 hx2
      by_cases h3 : (S i).1 = 0
      · have e3 : ((S i).1 == 0) = true := by rw [beq_iff_eq]; exact h3
        have HF := Aside0.mk (show Fst (fun i => (S i).1 == 0) n (i : Int) from Or.inr ⟨i, hlt, rfl, e3, HI.out⟩)
        clear h3
        go_wp2
        go_ret
        exact ⟨_, rfl, HF.out, HB1.out⟩
      · have e3 : ((S i).1 == 0) = false := by rw [beq_eq_false_iff_ne]; exact h3
        have HJ := Aside0.mk (show ∀ q, q < i + 1 → ((S q).1 == 0) = false from fun q hq => by
          by_cases hqi : q < i
          · exact HI.out q hqi
          · rw [show q = i by omega]; exact e3)
        clear h3
        go_wp2
        go_roundw
        case rel => exact ⟨i + 1, by omega, by first | rfl | go_num, HJ, HB1⟩
        case measure => simp [intOf]; omega
    · obtain rfl : n = i := by omega
      go_wp2
      go_ret
      exact ⟨_, rfl, Or.inl ⟨rfl, HI.out⟩, HB.out⟩
/-- Has somebody fewer than three demerits? -/
def hasD (D : Nat → Int) : Nat → Bool
  | 0 => false
  | m + 1 => hasD D m || decide (D m < 3)
theorem hasD_no {D : Nat → Int} : ∀ {m : Nat}, (∀ i, i < m → decide (D i < 3) = false) → hasD D m = false
  | 0, _ => rfl
  | m + 1, h => by unfold hasD; rw [hasD_no (fun i hi => h i (by omega)), h m (by omega)]; rfl
theorem hasD_yes {D : Nat → Int} : ∀ {m j : Nat}, j < m → decide (D j < 3) = true → hasD D m = true
  | 0, _, h, _ => by omega
  | m + 1, j, h, h1 => by
    unfold hasD
    by_cases hj : j = m
    · subst hj; rw [h1]; simp
    · rw [hasD_yes (m := m) (by omega) h1]; rfl
theorem conD_calls {gd m cd : Nat} {D : Nat → Int} (w : World) (h : Dem w gd m D) (hm : m ≤ 64) :
    Calls Try.prog 33 #[.slice (some ⟨gd, 0, none⟩) m cd, .func (.func 34) #[] #[]] w fun e w' => e = .returned (.bool (hasD D m)) ∧ w' = w := by
  have HD := Aside0.mk h
  clear h
  go_enter Try.func33, Try.ntmps33
  go_wp2_with fail
  refine (idxD_calls w HD.out hm).mono ?_
  rintro e w1 ⟨r, rfl, HF, hw⟩
  replace hw := hw.symm
  subst hw
  rcases HF with ⟨rfl, h⟩ | ⟨j, hj, rfl, h1, h2⟩
  · have HH := Aside0.mk (hasD_no h)
    clear h
    go_wp2
    go_ret
    exact ⟨by rw [HH.out]; rfl, rfl⟩
  · have HH := Aside0.mk (hasD_yes hj h1)
    have e1 : decide ((j : Int) ≥ 0) = true := decide_eq_true (by omega)
    clear h1 h2
    go_wp2
    go_ret
    exact ⟨by rw [HH.out]; rfl, rfl⟩
theorem stuck_zero {p gc gd gm cc cd n m : Nat} {win tm : Int} {S : Nat → U} {D : Nat → Int} (w : World) (h : Pl w p gc gd gm cc cd n m win tm S D) (hl : leftF S n = 0) :
    Calls Try.prog 15 #[.pointer (some ⟨p, 0, none⟩)] w fun e w' => e = .returned (.bool false) ∧ Below w.heap.size w w' := by
  have HP := Aside0.mk h
  have HL := Aside0.mk hl
  clear h hl
  go_enter Try.func15, Try.ntmps15
  go_wp2_with fail
  refine (left_calls w HP.out).mono ?_
  rw [HL.out]
  rintro e w1 ⟨rfl, hb⟩
  have HB := Aside0.mk hb
  clear hb
  go_wp2
  go_ret
  exact ⟨rfl, HB.out⟩
theorem stuck_calls {p gc gd gm cc cd n m : Nat} {win tm : Int} {S : Nat → U} {D : Nat → Int} (w : World) (h : Pl w p gc gd gm cc cd n m win tm S D) (hl : leftF S n ≠ 0) :
    Calls Try.prog 15 #[.pointer (some ⟨p, 0, none⟩)] w fun e w' => e = .returned (.bool (!hasD D m)) ∧ Below w.heap.size w w' := by
  have HP := Aside0.mk h
  have hl0 : decide ((leftF S n : Int) > 0) = true := decide_eq_true (by omega)
  have hl1 : decide (leftF S n > 0) = true := decide_eq_true (by omega)
  have hle := leftF_le S n
  have hn := h.n1
  clear h
  go_enter Try.func15, Try.ntmps15
  go_wp2_with fail
  refine (left_calls w HP.out).mono ?_
  rintro e w1 ⟨rfl, hb⟩
  have hc := (HP.out.below hb).blk.c1
  have HD := Aside0.mk (HP.out.below hb).de
  have hm := HP.out.m1
  have HB := Aside0.mk hb
  clear hb
  go_wp2_with fail
  refine (conD_calls _ HD.out hm).mono ?_
  rintro e w2 ⟨rfl, hw⟩
  replace hw := hw.symm
  subst hw
  go_wp2
  go_ret
  exact ⟨rfl, HB.out⟩
end Go.Proofs.Ytaheoifjihkipaa.As
