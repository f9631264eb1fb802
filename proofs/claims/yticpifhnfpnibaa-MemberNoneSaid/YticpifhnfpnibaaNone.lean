/- What calls of Go functions of this seat come to, as the rows need it: under the conditions that each theorem names. -/
import Derived.Test.YticpifhnfpnibaaMKnown
import Derived.Test.YticpifhnfpnibaaMOpen
namespace Go.Proofs.Yticpifhnfpnibaa.Mem
open Go.RowKit Go.Proofs.YticpifhnfpnibaaW.PrintWords Go.Proofs.YticpifhnfpnibaaW.PrintLast Go.Proofs.YticpifhnfpnibaaW.PrintMore
set_option linter.unusedVariables false
set_option linter.unusedSimpArgs false
theorem hear_nil (u0 u1 u2 : Int) (w : World) : Calls Try.prog 10 #[.pointer none, .agg #[.int .i64 u0, .int .u8 u1, .int .u64 u2]] w fun e w' => e = .returned (.tuple #[.bool false, .int .i64 1]) ∧ Below w.heap.size w w' := by
  go_enter Try.func10, Try.ntmps10
  go_wp2
  go_ret2
  exact ⟨rfl, (Below.refl _ _).alloc (Nat.le_refl _) _⟩
theorem hear_zero (m s : Nat) (f : Nat → U) (u0 u1 u2 : Int) (w : World) (h : Mem w m s 0 f) : Calls Try.prog 10 #[.pointer (some ⟨m, 0, none⟩), .agg #[.int .i64 u0, .int .u8 u1, .int .u64 u2]] w fun e w' => e = .returned (.tuple #[.bool false, .int .i64 1]) ∧ Below w.heap.size w w' := by
  have HM := Aside0.mk h
  clear h
  go_enter Try.func10, Try.ntmps10
  go_upto_region 1 with (fail)
  have HB := Aside0.mk ((Below.refl w.heap.size w).alloc (Nat.le_refl _) (.cells #[.int .i64 u0, .int .u8 u1, .int .u64 u2] 32 (0, 0)))
  have hc1 : (w.alloc (.cells #[.int .i64 u0, .int .u8 u1, .int .u64 u2] 32 (0, 0))).cell? ⟨m, 1, none⟩ = some (.int .i64 0) := (HM.out.below HB.out).c1
  generalize w.alloc _ = w1 at HB hc1 ⊢
  go_wp2
  go_ret2
  exact ⟨rfl, HB.out⟩
theorem kill_nil (i : Int) (w : World) : Calls Try.prog 14 #[.pointer none, .int .i64 i] w fun e w' => e = .returned (.bool false) ∧ w' = w := by
  have H : ∀ a b, Calls Try.prog 24 #[.pointer none, .int .i64 i, .int .u8 a, .int .u8 b] w fun e w' => e = .returned (.bool false) ∧ w' = w := by
    intro a b
    go_enter Try.func24, Try.ntmps24
    go_wp2_with fail
    refine (there_nil i _).mono ?_
    rintro e w1 ⟨rfl, rfl⟩
    go_wp2
    go_ret
    exact ⟨rfl, rfl⟩
  have HH := Aside0.mk (H 2 3)
  clear H
  go_enter Try.func14, Try.ntmps14
  go_wp2_with fail
  refine HH.out.mono ?_
  rintro e w1 ⟨rfl, rfl⟩
  go_wp2
  go_ret
  exact ⟨rfl, rfl⟩
theorem suspect_nil (i : Int) (w : World) : Calls Try.prog 13 #[.pointer none, .int .i64 i] w fun e w' => e = .returned (.bool false) ∧ w' = w := by
  have H : ∀ a b, Calls Try.prog 24 #[.pointer none, .int .i64 i, .int .u8 a, .int .u8 b] w fun e w' => e = .returned (.bool false) ∧ w' = w := by
    intro a b
    go_enter Try.func24, Try.ntmps24
    go_wp2_with fail
    refine (there_nil i _).mono ?_
    rintro e w1 ⟨rfl, rfl⟩
    go_wp2
    go_ret
    exact ⟨rfl, rfl⟩
  have HH := Aside0.mk (H 1 2)
  clear H
  go_enter Try.func13, Try.ntmps13
  go_wp2_with fail
  refine HH.out.mono ?_
  rintro e w1 ⟨rfl, rfl⟩
  go_wp2
  go_ret
  exact ⟨rfl, rfl⟩
theorem all_nil (w : World) : Calls Try.prog 11 #[.pointer none] w fun e w' => e = .returned (.slice none 0 0) ∧ w' = w := by
  go_enter Try.func11, Try.ntmps11
  go_wp2
  go_ret
  exact ⟨rfl, rfl⟩
theorem alive_nil (w : World) : Calls Try.prog 22 #[.pointer none] w fun e w' => e = .returned (.slice none 0 0) ∧ w' = w := by
  go_enter Try.func22, Try.ntmps22
  go_wp2_with fail
  refine (all_nil _).mono ?_
  rintro e w1 ⟨rfl, rfl⟩
  go_wp2
  go_loop [3, 9] (fun v i => v = .slice none 0 0 ∧ i = .int .i64 0) (fun _ _ => 0)
  case atStart => exact ⟨rfl, rfl⟩
  case round =>
    obtain ⟨rfl, rfl⟩ := hrel
    go_wp2
    go_ret
    exact ⟨rfl, rfl⟩
theorem copy_nil (w : World) : Calls Try.prog 18 #[.pointer none] w fun e w' => e = .returned (.pointer none) ∧ w' = w := by
  go_enter Try.func18, Try.ntmps18
  go_wp2
  go_ret
  exact ⟨rfl, rfl⟩
theorem copy_zero (m s : Nat) (f : Nat → U) (w : World) (h : Mem w m s 0 f) : Calls Try.prog 18 #[.pointer (some ⟨m, 0, none⟩)] w fun e w' => e = .returned (.pointer none) ∧ w' = w := by
  have hc1 : w.cell? ⟨m, 1, none⟩ = some (.int .i64 0) := h.c1
  clear h
  go_enter Try.func18, Try.ntmps18
  go_wp2
  go_ret
  exact ⟨rfl, rfl⟩
theorem get_nil (i : Int) (w : World) : Calls Try.prog 21 #[.pointer none, .int .i64 i] w fun e w' => e = .returned (.tuple #[uv (0, 0, 0), .bool false]) ∧ Below w.heap.size w w' := by
  go_enter Try.func21, Try.ntmps21
  go_upto_region 1 with (fail)
  have HB := Aside0.mk ((Below.refl w.heap.size w).alloc (Nat.le_refl _) (.cells #[.int .i64 0, .int .u8 0, .int .u64 0] 32 (0, 0)))
  have HY := Aside0.mk (show Box (w.alloc (.cells #[.int .i64 0, .int .u8 0, .int .u64 0] 32 (0, 0))) w.heap.size (0, 0, 0) from heap_new _ _)
  generalize w.alloc _ = w1 at HB HY ⊢
  generalize hb : w.heap.size = b at HY ⊢
  go_wp2_with fail
  refine (there_nil i _).mono ?_
  rintro e w1 ⟨rfl, rfl⟩
  obtain ⟨y0, y1, y2⟩ := HY.out.cu
  have z0 : w1.frozen? ⟨b, 0, none⟩ = false := HY.out.fz 0
  have z1 : w1.frozen? ⟨b, 1, none⟩ = false := HY.out.fz 1
  have z2 : w1.frozen? ⟨b, 2, none⟩ = false := HY.out.fz 2
  go_wp2
  have HY3 := Box.set3 (u := ((0, 0, 0) : U)) HY.out
  clear y0 y1 y2
  obtain ⟨y0, y1, y2⟩ := HY3.cu
  have HB3 := (((HB.out.setCell (p := ⟨b, 0, none⟩) (Nat.le_of_eq hb) (.int .i64 0)).setCell (p := ⟨b, 1, none⟩) (Nat.le_of_eq hb) (.int .u8 0)).setCell (p := ⟨b, 2, none⟩) (Nat.le_of_eq hb) (.int .u64 0))
  exact bodyPost_ret (v := .tuple #[uv (0, 0, 0), .bool false]) (by simp only [uv]; simp [results, Try.results21, go_sem, y0, y1, y2]) rfl ⟨rfl, HB3⟩
theorem self_nil (w : World) : Calls Try.prog 15 #[.pointer none] w fun e w' => e = .returned (uv (0, 0, 0)) ∧ Below w.heap.size w w' := by
  go_enter Try.func15, Try.ntmps15
  go_upto_region 1 with (fail)
  have HB := Aside0.mk ((Below.refl w.heap.size w).alloc (Nat.le_refl _) (.cells #[.int .i64 0, .int .u8 0, .int .u64 0] 32 (0, 0)))
  have HY := Aside0.mk (show Box (w.alloc (.cells #[.int .i64 0, .int .u8 0, .int .u64 0] 32 (0, 0))) w.heap.size (0, 0, 0) from heap_new _ _)
  generalize w.alloc _ = w1 at HB HY ⊢
  generalize hb : w.heap.size = b at HY ⊢
  obtain ⟨y0, y1, y2⟩ := HY.out.cu
  have z0 : w1.frozen? ⟨b, 0, none⟩ = false := HY.out.fz 0
  have z1 : w1.frozen? ⟨b, 1, none⟩ = false := HY.out.fz 1
  have z2 : w1.frozen? ⟨b, 2, none⟩ = false := HY.out.fz 2
  go_wp2
  have HY3 := Box.set3 (u := ((0, 0, 0) : U)) HY.out
  clear y0 y1 y2
  obtain ⟨y0, y1, y2⟩ := HY3.cu
  have HB3 := (((HB.out.setCell (p := ⟨b, 0, none⟩) (Nat.le_of_eq hb) (.int .i64 0)).setCell (p := ⟨b, 1, none⟩) (Nat.le_of_eq hb) (.int .u8 0)).setCell (p := ⟨b, 2, none⟩) (Nat.le_of_eq hb) (.int .u64 0))
  exact bodyPost_ret (v := uv (0, 0, 0)) (by simp only [uv]; simp [results, Try.results15, go_sem, y0, y1, y2]) rfl ⟨rfl, by have h := HB3; rw [hb] at h; exact h⟩
def zf : Nat → U := fun _ => (0, 0, 0)
theorem below_ch0 {m : Nat} {w w1 w2 : World} (h : Below w.heap.size w w1) (hc : Ch m w1 w2) (hw : w.heap.size ≤ m) (hm : m < w1.heap.size) : Below w.heap.size w w2 := h.trans (hc.below hw hm)
set_option maxHeartbeats 3200000 in
set_option maxRecDepth 100000 in
theorem none_calls (q0 q1 q2 : Int) (w : World) :
    Calls Try.prog 7 #[.agg #[.int .i64 q0, .int .u8 q1, .int .u64 q2]] w fun e w' => e = .returned (.bool true) ∧ Below w.heap.size w w' := by
  go_enter Try.func7, Try.ntmps7
  go_upto_region 1 with (fail)
  have HB := Aside0.mk ((Below.refl w.heap.size w).alloc (Nat.le_refl _) (.cells #[.int .i64 q0, .int .u8 q1, .int .u64 q2] 32 (0, 0)))
  have HX := Aside0.mk (show Box (w.alloc (.cells #[.int .i64 q0, .int .u8 q1, .int .u64 q2] 32 (0, 0))) w.heap.size (q0, q1, q2) from heap_new _ _)
  have hb1 := Array.getElem?_eq_some_iff.1 HX.out
  replace hb1 := hb1.1
  have hwb := Nat.le_refl w.heap.size
  generalize w.alloc _ = w1 at HB HX hb1 ⊢
  generalize hgb : w.heap.size = b at HX hb1 ⊢
  clear hwb
  have hwb : w.heap.size ≤ b := Nat.le_of_eq hgb
  clear hgb
  go_upto_region 2 with (fail)
  have hb := (Below.refl w1.heap.size w1).alloc (Nat.le_refl _) (.cells (zeros 0 0) 51 (0, 0))
  have HZ := Aside0.mk (show Mem (w1.alloc (.cells (zeros 0 0) 51 (0, 0))) w1.heap.size 0 0 zf from ⟨_, heap_new _ _, zero_mem 0 0⟩)
  replace HB := Aside0.mk (below_step HB.out hb)
  replace HX := Aside0.mk (HX.out.below hb)
  have hm1 := HZ.out.lt
  unfold zeros at hb HB HX HZ hm1
  clear hb
  generalize w1.alloc _ = w2 at HB HX HZ hm1 ⊢
  generalize w1.heap.size = m at HZ hb1 hm1 ⊢
  go_upto_region 3 with (fail)
  have hb := (Below.refl w2.heap.size w2).alloc (Nat.le_refl _) (.cells #[.pointer none, .pointer (some ⟨m, 0, none⟩)] 25 (0, 0))
  have HL := Aside0.mk (heap_new w2 (.cells #[.pointer none, .pointer (some ⟨m, 0, none⟩)] 25 (0, 0)))
  replace HB := Aside0.mk (below_step HB.out hb)
  replace HX := Aside0.mk (HX.out.below hb)
  replace HZ := Aside0.mk (HZ.out.below hb)
  clear hb
  generalize w2.alloc _ = w3 at HB HX HZ HL ⊢
  generalize w2.heap.size = l at HL hm1 ⊢
  have hwm : w.heap.size ≤ m := by omega
  have hbm : b ≠ m := by omega
  have hlm : l ≠ m := by omega
  clear hb1 hm1
  have hno : ¬ (0 ≤ q0 ∧ q0 < ((0 : Nat) : Int)) := by omega
  have hget : (if 0 ≤ q0 ∧ q0 < ((0 : Nat) : Int) then zf q0.toNat else (0, 0, 0)) = ((0, 0, 0) : U) := if_neg hno
  have hgetb : decide (0 ≤ q0 ∧ q0 < ((0 : Nat) : Int)) = false := decide_eq_false hno
  have ht1 : decide ((0 ≤ q0 ∧ q0 < ((0 : Nat) : Int)) ∧ q0 ≠ ((0 : Nat) : Int) ∧ (zf q0.toNat).2.1 = 1) = false := decide_eq_false (fun h => hno h.1)
  have ht2 : decide ((0 ≤ q0 ∧ q0 < ((0 : Nat) : Int)) ∧ q0 ≠ ((0 : Nat) : Int) ∧ (zf q0.toNat).2.1 = 2) = false := decide_eq_false (fun h => hno h.1)
  have HGET := Aside0.mk hget
  have HGETB := Aside0.mk hgetb
  have HT1 := Aside0.mk ht1
  have HT2 := Aside0.mk ht2
  have HNO := Aside0.mk hno
  clear hno hget hgetb ht1 ht2
  go_wp2
  go_loopw [14] (fun i wr => ∃ k : Nat, k ≤ 2 ∧ i = .int .i64 k ∧ Aside0 (Below w.heap.size w wr) ∧ Aside0 (Box wr b (q0, q1, q2)) ∧ Aside0 (Mem wr m 0 0 zf) ∧ Aside0 (wr.heap[l]? = some (.cells #[.pointer none, .pointer (some ⟨m, 0, none⟩)] 25 (0, 0)))) (fun i _ => 2 - (intOf i).toNat)
  case atStart => exact ⟨0, by omega, rfl, HB, HX, HZ, HL⟩
  case round =>
    clear HB HX HZ HL
    obtain ⟨k, hk, rfl, HB, HX, HZ, HL⟩ := hrel
    rcases k with _ | _ | _ | k
    · -- nobody
      obtain ⟨b0, b1, b2⟩ := HX.out.cu
      have hx := (cell_of HL.out (j := 0)).2 rfl
      go_wp2_with fail
      refine (hear_nil q0 q1 q2 _).mono ?_
      rintro e w2 ⟨rfl, hb⟩
      replace HB := Aside0.mk (below_step HB.out hb)
      replace HX := Aside0.mk (HX.out.below hb)
      replace HZ := Aside0.mk (HZ.out.below hb)
      replace HL := Aside0.mk (heap_keep HL.out hb)
      clear hb
      clear b0 b1 b2 hx
      obtain ⟨b0, b1, b2⟩ := HX.out.cu
      go_wp2_with fail
      refine (get_nil q0 _).mono ?_
      rintro e w2 ⟨rfl, hb⟩
      replace HB := Aside0.mk (below_step HB.out hb)
      replace HX := Aside0.mk (HX.out.below hb)
      replace HZ := Aside0.mk (HZ.out.below hb)
      replace HL := Aside0.mk (heap_keep HL.out hb)
      clear hb
      clear b0 b1 b2
      unfold uv
      go_upto_region 9 with (fail)
      have hb := (Below.refl w2.heap.size w2).alloc (Nat.le_refl _) (.cells #[.int .i64 0, .int .u8 0, .int .u64 0] 32 (0, 0))
      replace HB := Aside0.mk (below_step HB.out hb)
      replace HX := Aside0.mk (HX.out.below hb)
      replace HZ := Aside0.mk (HZ.out.below hb)
      replace HL := Aside0.mk (heap_keep HL.out hb)
      clear hb
      generalize w2.alloc _ = w3 at HB HX HZ HL ⊢
      obtain ⟨b0, b1, b2⟩ := HX.out.cu
      go_wp2_with fail
      refine (suspect_nil q0 _).mono ?_
      rintro e w2 ⟨rfl, rfl⟩
      go_wp2_with fail
      refine (kill_nil q0 _).mono ?_
      rintro e w2 ⟨rfl, rfl⟩
      go_wp2_with fail
      refine (all_nil _).mono ?_
      rintro e w2 ⟨rfl, rfl⟩
      go_wp2_with fail
      refine (alive_nil _).mono ?_
      rintro e w2 ⟨rfl, rfl⟩
      go_wp2_with fail
      refine (self_nil _).mono ?_
      rintro e w2 ⟨rfl, hb⟩
      replace HB := Aside0.mk (below_step HB.out hb)
      replace HX := Aside0.mk (HX.out.below hb)
      replace HZ := Aside0.mk (HZ.out.below hb)
      replace HL := Aside0.mk (heap_keep HL.out hb)
      clear hb
      unfold uv
      go_wp2_with fail
      refine (copy_nil _).mono ?_
      rintro e w2 ⟨rfl, rfl⟩
      go_wp2
      go_roundw
      case rel => exact ⟨1, by omega, by go_num, HB, HX, HZ, HL⟩
      case measure => simp [intOf]
    · -- not made
      obtain ⟨b0, b1, b2⟩ := HX.out.cu
      have hx := (cell_of HL.out (j := 1)).2 rfl
      go_wp2_with fail
      refine (hear_zero m 0 zf q0 q1 q2 _ HZ.out).mono ?_
      rintro e w2 ⟨rfl, hb⟩
      replace HB := Aside0.mk (below_step HB.out hb)
      replace HX := Aside0.mk (HX.out.below hb)
      replace HZ := Aside0.mk (HZ.out.below hb)
      replace HL := Aside0.mk (heap_keep HL.out hb)
      clear hb
      clear b0 b1 b2 hx
      obtain ⟨b0, b1, b2⟩ := HX.out.cu
      go_wp2_with fail
      refine (get_calls m 0 0 zf q0 _ HZ.out (by omega)).mono ?_
      rintro e w2 ⟨rfl, hb⟩
      replace HB := Aside0.mk (below_step HB.out hb)
      replace HX := Aside0.mk (HX.out.below hb)
      replace HZ := Aside0.mk (HZ.out.below hb)
      replace HL := Aside0.mk (heap_keep HL.out hb)
      clear hb
      rw [HGET.out, HGETB.out]
      clear b0 b1 b2
      unfold uv
      go_upto_region 9 with (fail)
      have hb := (Below.refl w2.heap.size w2).alloc (Nat.le_refl _) (.cells #[.int .i64 0, .int .u8 0, .int .u64 0] 32 (0, 0))
      replace HB := Aside0.mk (below_step HB.out hb)
      replace HX := Aside0.mk (HX.out.below hb)
      replace HZ := Aside0.mk (HZ.out.below hb)
      replace HL := Aside0.mk (heap_keep HL.out hb)
      clear hb
      generalize w2.alloc _ = w3 at HB HX HZ HL ⊢
      obtain ⟨b0, b1, b2⟩ := HX.out.cu
      go_wp2_with fail
      refine (suspect_calls m 0 0 zf q0 _ HZ.out (by omega)).mono ?_
      rintro e w2 ⟨rfl, hc, hm⟩
      rw [HT1.out]
      rw [if_neg (fun h => HNO.out h.1)] at hm
      replace HB := Aside0.mk (below_ch0 HB.out hc hwm HZ.out.lt)
      replace HX := Aside0.mk (show Box w2 b (q0, q1, q2) from heap_ch HX.out hc hbm)
      replace HL := Aside0.mk (heap_ch HL.out hc hlm)
      replace HZ := Aside0.mk (show Mem w2 m 0 0 zf from hm)
      clear hc hm
      clear b0 b1 b2
      obtain ⟨b0, b1, b2⟩ := HX.out.cu
      go_wp2_with fail
      refine (kill_calls m 0 0 zf q0 _ HZ.out (by omega)).mono ?_
      rintro e w2 ⟨rfl, hc, hm⟩
      rw [HT2.out]
      rw [if_neg (fun h => HNO.out h.1)] at hm
      replace HB := Aside0.mk (below_ch0 HB.out hc hwm HZ.out.lt)
      replace HX := Aside0.mk (show Box w2 b (q0, q1, q2) from heap_ch HX.out hc hbm)
      replace HL := Aside0.mk (heap_ch HL.out hc hlm)
      replace HZ := Aside0.mk (show Mem w2 m 0 0 zf from hm)
      clear hc hm
      clear b0 b1 b2
      go_wp2_with fail
      refine (all_calls m 0 0 zf _ HZ.out (by omega)).mono ?_
      rintro e w2 ⟨v, rfl, ho, hb⟩
      obtain ⟨A, c, rfl, _, _⟩ := Kd.R_reads ho
      clear ho
      rw [show (lst zf 0).length = 0 from rfl]
      replace HB := Aside0.mk (below_step HB.out hb)
      replace HX := Aside0.mk (HX.out.below hb)
      replace HZ := Aside0.mk (HZ.out.below hb)
      replace HL := Aside0.mk (heap_keep HL.out hb)
      clear hb
      go_wp2_with fail
      refine (alive_calls m 0 0 zf _ HZ.out (by omega)).mono ?_
      rintro e w2 ⟨v, rfl, ho, hb⟩
      obtain ⟨A', c', rfl, _, _⟩ := Kd.R_reads ho
      clear ho
      rw [show (alv zf 0).length = 0 from rfl]
      replace HB := Aside0.mk (below_step HB.out hb)
      replace HX := Aside0.mk (HX.out.below hb)
      replace HZ := Aside0.mk (HZ.out.below hb)
      replace HL := Aside0.mk (heap_keep HL.out hb)
      clear hb
      go_wp2_with fail
      refine (self_calls m 0 0 zf _ HZ.out (by omega)).mono ?_
      rintro e w2 ⟨rfl, hb⟩
      rw [show zf 0 = ((0, 0, 0) : U) from rfl]
      unfold uv
      replace HB := Aside0.mk (below_step HB.out hb)
      replace HX := Aside0.mk (HX.out.below hb)
      replace HZ := Aside0.mk (HZ.out.below hb)
      replace HL := Aside0.mk (heap_keep HL.out hb)
      clear hb
      go_wp2_with fail
      refine (copy_zero m 0 zf _ HZ.out).mono ?_
      rintro e w2 ⟨rfl, rfl⟩
      go_wp2
      go_roundw
      case rel => exact ⟨2, by omega, by go_num, HB, HX, HZ, HL⟩
      case measure => simp [intOf]
    · go_wp2_with fail
      refine (known_calls _).mono ?_
      rintro e w9 ⟨rfl, hbk⟩
      go_wp2
      go_ret
      exact ⟨rfl, below_step HB.out hbk⟩
    · omega
theorem none_walk (cs : Array Value) (x : U) (w : World) (hx : KU.K w x (Value.agg cs).cells.toList) (k : Open.okU x) :
    Calls Try.prog 7 #[.agg cs] w fun e w' => e = .returned (.bool true) ∧ Below w.heap.size w w' := by
  obtain ⟨c0, c1, h, h0, d0, d1, rfl, h1, h2⟩ := hx
  have e0 : c0 = [.int .i64 x.1] := h0
  have e1 : d0 = [.int .u8 x.2.1] := h1
  have e2 : d1 = [.int .u64 x.2.2] := h2
  subst e0 e1 e2
  have hc : cs = #[.int .i64 x.1, .int .u8 x.2.1, .int .u64 x.2.2] := by
    apply Array.ext'
    simpa [Value.cells] using h
  subst hc
  exact none_calls x.1 x.2.1 x.2.2 w
end Go.Proofs.Yticpifhnfpnibaa.Mem
