/- What calls of Go functions of this seat come to, as the rows need it: under the conditions that each theorem names. -/
import Derived.Test.YtaheoifjihkipaaAsD
namespace Go.Proofs.Ytaheoifjihkipaa.As
open Go.RowKit Go.Proofs.YtaheoifjihkipaaW.PrintWords Go.Proofs.YtaheoifjihkipaaW.PrintLast Go.Proofs.YtaheoifjihkipaaW.PrintMore
set_option linter.unusedVariables false
set_option linter.unusedSimpArgs false
/-- How many chunks are asked of a peer. -/
def loadF (S : Nat → U) (k : Int) : Nat → Nat
  | 0 => 0
  | i + 1 => loadF S k i + (if (S i).1 = 1 ∧ (S i).2.1 = k then 1 else 0)
theorem heap_new (w : World) (o : Obj) : (w.alloc o).heap[w.heap.size]? = some o := by
  show (w.heap.push o)[w.heap.size]? = some o
  simp
theorem loadF_le (S : Nat → U) (k : Int) : ∀ n, loadF S k n ≤ n
  | 0 => Nat.le_refl _
  | n + 1 => by have := loadF_le S k n; unfold loadF; split <;> omega
set_option maxHeartbeats 1600000 in
theorem load_calls {p gc gd gm cc cd n m : Nat} {win tm : Int} {S : Nat → U} {D : Nat → Int} (k : Int) (w : World) (h : Pl w p gc gd gm cc cd n m win tm S D) :
    Calls Try.prog 42 #[.pointer (some ⟨p, 0, none⟩), .int .i64 k] w fun e w' => e = .returned (.int .i64 (loadF S k n : Nat)) ∧ Below w.heap.size w w' := by
  have HP := Aside0.mk h
  have hn := h.n1
  have hc := h.blk.c0
  clear h
  go_enter Try.func42, Try.ntmps42
  go_wp2
  go_loopw [4, 12] (fun r v wr => ∃ i : Nat, i ≤ n ∧ v = .int .i64 (i : Int) ∧ r = .int .i64 (loadF S k i : Nat) ∧ Aside0 (Below w.heap.size w wr)) (fun _ v _ => n - (intOf v).toNat)
  case atStart => exact ⟨0, Nat.zero_le _, rfl, rfl, ⟨Below.refl _ _⟩⟩
  case round =>
    obtain ⟨i, hi, rfl, rfl, HB⟩ := hrel
    by_cases hlt : i < n
    · obtain ⟨hx0, hx1, hx2⟩ := (HP.out.below HB.out).ch.cu i hlt
      have hle := loadF_le S k i
      have HS := Aside0.mk (show loadF S k (i + 1) = loadF S k i + (if (S i).1 = 1 ∧ (S i).2.1 = k then 1 else 0) from rfl)
      generalize loadF S k i = r at hle HS ⊢
      go_upto_region 4 with (fail)
      obtain ⟨w2, hw2⟩ : ∃ w2, wr.alloc (.cells #[.int .i64 (S i).1, .int .i64 (S i).2.1, .int .i64 (S i).2.2] 55) = w2 := ⟨_, rfl⟩
      obtain ⟨gx, hgx⟩ : ∃ gx, wr.heap.size = gx := ⟨_, rfl⟩
      have hb2 : Below wr.heap.size wr w2 := by rw [← hw2]; exact (Below.refl _ _).alloc (Nat.le_refl _) _
      have hn0 : w2.heap[gx]? = some (.cells #[.int .i64 (S i).1, .int .i64 (S i).2.1, .int .i64 (S i).2.2] 55 (0, 0)) := by rw [← hw2, ← hgx]; exact heap_new _ _
      have HB2 := Aside0.mk (below_step HB.out hb2)
      have y0 : w2.cell? ⟨gx, 0, none⟩ = some (.int .i64 (S i).1) := (cell_of hn0).2 rfl
      have y1 : w2.cell? ⟨gx, 1, none⟩ = some (.int .i64 (S i).2.1) := (cell_of hn0).2 rfl
      rw [hw2, hgx]
      clear hw2 hgx hb2 hn0 hx0 hx1 hx2 HB
      by_cases h1 : (S i).1 = 1
      · by_cases h2 : (S i).2.1 = k
        · have HS2 := Aside0.mk (show r + 1 = loadF S k (i + 1) by rw [HS.out, if_pos ⟨h1, h2⟩])
          rw [h1] at y0
          rw [h2] at y1
          clear h1 h2
          go_wp2
          go_roundw
          case rel => exact ⟨i + 1, by omega, by first | rfl | go_num, (by rw [← HS2.out]; first | rfl | go_num), HB2⟩
          case measure => simp [intOf]; omega
        · have HS2 := Aside0.mk (show r = loadF S k (i + 1) by rw [HS.out, if_neg (fun h => h2 h.2)]; rfl)
          have e2 : ((S i).2.1 == k) = false := by rw [beq_eq_false_iff_ne]; exact h2
          rw [h1] at y0
          clear h1 h2
          go_wp2
          go_roundw
          case rel => exact ⟨i + 1, by omega, by first | rfl | go_num, (by rw [← HS2.out]), HB2⟩
          case measure => simp [intOf]; omega
      · have HS2 := Aside0.mk (show r = loadF S k (i + 1) by rw [HS.out, if_neg (fun h => h1 h.1)]; rfl)
        have e1 : ((S i).1 == 1) = false := by rw [beq_eq_false_iff_ne]; exact h1
        clear h1
        go_wp2
        go_roundw
        case rel => exact ⟨i + 1, by omega, by first | rfl | go_num, (by rw [← HS2.out]), HB2⟩
        case measure => simp [intOf]; omega
    · obtain rfl : n = i := by omega
      go_wp2
      go_ret
      exact ⟨rfl, HB.out⟩
/-- How many chunks are not had. -/
def leftF (S : Nat → U) : Nat → Nat
  | 0 => 0
  | i + 1 => leftF S i + (if (S i).1 = 2 then 0 else 1)
theorem leftF_le (S : Nat → U) : ∀ n, leftF S n ≤ n
  | 0 => Nat.le_refl _
  | n + 1 => by have := leftF_le S n; unfold leftF; split <;> omega
set_option maxHeartbeats 1600000 in
theorem left_calls {p gc gd gm cc cd n m : Nat} {win tm : Int} {S : Nat → U} {D : Nat → Int} (w : World) (h : Pl w p gc gd gm cc cd n m win tm S D) :
    Calls Try.prog 11 #[.pointer (some ⟨p, 0, none⟩)] w fun e w' => e = .returned (.int .i64 (leftF S n : Nat)) ∧ Below w.heap.size w w' := by
  have HP := Aside0.mk h
  have hn := h.n1
  have hc := h.blk.c0
  clear h
  go_enter Try.func11, Try.ntmps11
  go_wp2_with fail
  refine (ready_calls p gc gd gm cc cd n m win tm w HP.out.blk).mono ?_
  rintro e w1 ⟨rfl, hw⟩
  replace hw := hw.symm
  subst hw
  go_wp2
  go_loopw [2, 13] (fun r v wr => ∃ i : Nat, i ≤ n ∧ v = .int .i64 (i : Int) ∧ r = .int .i64 (leftF S i : Nat) ∧ Aside0 (Below w.heap.size w wr)) (fun _ v _ => n - (intOf v).toNat)
  case atStart => exact ⟨0, Nat.zero_le _, rfl, rfl, ⟨Below.refl _ _⟩⟩
  case round =>
    obtain ⟨i, hi, rfl, rfl, HB⟩ := hrel
    by_cases hlt : i < n
    · obtain ⟨hx0, hx1, hx2⟩ := (HP.out.below HB.out).ch.cu i hlt
      have hle := leftF_le S i
      have HS := Aside0.mk (show leftF S (i + 1) = leftF S i + (if (S i).1 = 2 then 0 else 1) from rfl)
      generalize leftF S i = r at hle HS ⊢
      go_upto_region 6 with (fail)
      obtain ⟨w2, hw2⟩ : ∃ w2, wr.alloc (.cells #[.int .i64 (S i).1, .int .i64 (S i).2.1, .int .i64 (S i).2.2] 55) = w2 := ⟨_, rfl⟩
      obtain ⟨gx, hgx⟩ : ∃ gx, wr.heap.size = gx := ⟨_, rfl⟩
      have hb2 : Below wr.heap.size wr w2 := by rw [← hw2]; exact (Below.refl _ _).alloc (Nat.le_refl _) _
      have hn0 : w2.heap[gx]? = some (.cells #[.int .i64 (S i).1, .int .i64 (S i).2.1, .int .i64 (S i).2.2] 55 (0, 0)) := by rw [← hw2, ← hgx]; exact heap_new _ _
      have HB2 := Aside0.mk (below_step HB.out hb2)
      have y0 : w2.cell? ⟨gx, 0, none⟩ = some (.int .i64 (S i).1) := (cell_of hn0).2 rfl
      have y1 : w2.cell? ⟨gx, 1, none⟩ = some (.int .i64 (S i).2.1) := (cell_of hn0).2 rfl
      rw [hw2, hgx]
      clear hw2 hgx hb2 hn0 hx0 hx1 hx2 HB
      by_cases h1 : (S i).1 = 2
      · have HS2 := Aside0.mk (show r = leftF S (i + 1) by rw [HS.out, if_pos h1]; rfl)
        rw [h1] at y0
        clear h1
        go_wp2
        go_roundw
        case rel => exact ⟨i + 1, by omega, by first | rfl | go_num, (by rw [← HS2.out]), HB2⟩
        case measure => simp [intOf]; omega
      · have HS2 := Aside0.mk (show r + 1 = leftF S (i + 1) by rw [HS.out, if_neg h1])
        have e1 : ((S i).1 != 2) = true := by simp [h1]
        have e2 : ((S i).1 == 2) = false := by simp [h1]
        clear h1
        go_wp2
        go_roundw
        case rel => exact ⟨i + 1, by omega, by first | rfl | go_num, (by rw [← HS2.out]; first | rfl | go_num), HB2⟩
        case measure => simp [intOf]; omega
    · obtain rfl : n = i := by omega
      go_wp2
      go_ret
      exact ⟨rfl, HB.out⟩
end Go.Proofs.Ytaheoifjihkipaa.As
