/- What calls of Go functions of this seat come to, as the rows need it: under the conditions that each theorem names. -/
import Derived.Test.YtebjibkgefgalaaDoorWMore
import Derived.Test.YtebjibkgefgalaaDoorProg
import Derived.Below
import Derived.Deep.Draws
import Derived.Deep.AppendLies
import Derived.Maps.AppendAt
import Derived.OwnWalk
import Derived.Laws.BytesArg
import Derived.Laws.MakeOwn
import Derived.Laws.OwnMore
import Derived.Deep.OwnRows
import Derived.Tactics
import Derived.Lib.ConvBytes
import Derived.Laws.Slices
import Derived.WalkKit
import Derived.KernelRfl
import Derived.RowKit3
import Derived.Deep.LoopGhost
import Derived.Deep.QuietTactic
import Derived.BigQuiet
import Derived.WideLaws
import Derived.Deep.DeepCutAuto
import Derived.Deep.CutBlock
import Derived.Deep.RegionHeld3
import Derived.Laws.Rows
import Derived.Lib.AppendStr
import Derived.ArgAppend
import Derived.Laws.IdiomCopy
import Derived.OrdersHeld
import Derived.Laws.BitsLemmas
import Derived.RowKit
import Derived.Outline
namespace Go.Proofs.YtebjibkgefgalaaDoor.Hand
open Go.RowKit Go.Proofs.YtebjibkgefgalaaDoorW.PrintWords Go.Proofs.YtebjibkgefgalaaDoorW.PrintLast Go.Proofs.YtebjibkgefgalaaDoorW.PrintMore
set_option linter.unusedVariables false
set_option linter.unusedSimpArgs false
/-- The digits of a number, base 256, the greatest first, ahead of some that are had. -/
def digsF : Nat → Nat → List Int → List Int
  | 0, _, acc => acc
  | k + 1, n, acc => if n = 0 then acc else digsF k (n / 256) (((n % 256 : Nat) : Int) :: acc)
def digs (n : Nat) : List Int := digsF 8 n []
def formL (n : Nat) : List Int := ((digs n).length : Int) :: digs n

theorem digsF_zero (k : Nat) (acc : List Int) : digsF k 0 acc = acc := by cases k <;> simp [digsF]

def cells9 (acc : List Int) : Array Value := (List.replicate (9 - acc.length) (Value.int .u8 0) ++ acc.map (Value.int .u8)).toArray

theorem cells9_nil : cells9 [] = #[.int .u8 0, .int .u8 0, .int .u8 0, .int .u8 0, .int .u8 0, .int .u8 0, .int .u8 0, .int .u8 0, .int .u8 0] := rfl

theorem cells9_cons (acc : List Int) (x : Int) (h : acc.length < 9) (i : Nat) (hi : i = 8 - acc.length) :
    (cells9 acc).setIfInBounds i (.int .u8 x) = cells9 (x :: acc) := by
  subst hi
  unfold cells9
  rw [List.setIfInBounds_toArray]
  congr 1
  rw [List.set_append_left _ _ (by simp; omega)]
  rw [show 9 - acc.length = (8 - acc.length) + 1 by omega, List.replicate_succ']
  rw [List.set_append_right _ _ (by simp)]
  simp only [List.length_replicate, Nat.sub_self, List.set_cons_zero, List.length_cons, List.map_cons, List.append_assoc, List.singleton_append]
  rw [show 9 - (acc.length + 1) = 8 - acc.length by omega]

/-- the state of the loop: what is left, what is had. -/
def At (n m : Nat) (acc : List Int) : Prop := acc.length ≤ 8 ∧ m < 256 ^ (8 - acc.length) ∧ digsF (8 - acc.length) m acc = digs n

theorem At.start (n : Nat) (h : n < 18446744073709551616) : At n n [] := ⟨by simp, by simpa using h, rfl⟩
theorem At.step {n m : Nat} {acc : List Int} (h : At n m acc) (h0 : 0 < m) : acc.length ≤ 7 ∧ At n (m / 256) (((m % 256 : Nat) : Int) :: acc) := by
  obtain ⟨h1, h2, h3⟩ := h
  have h7 : acc.length ≤ 7 := by
    rcases Nat.lt_or_ge acc.length 8 with h | h
    · omega
    · have : acc.length = 8 := by omega
      rw [this] at h2
      simp at h2
      omega
  refine ⟨h7, by simp; omega, ?_, ?_⟩
  · rw [List.length_cons, Nat.div_lt_iff_lt_mul (by omega)]
    rw [show 8 - acc.length = (8 - (acc.length + 1)) + 1 by omega, Nat.pow_succ] at h2
    exact h2
  · rw [← h3, List.length_cons, show 8 - acc.length = (8 - (acc.length + 1)) + 1 by omega]
    conv => rhs; rw [digsF]
    rw [if_neg (by omega)]
theorem At.done {n : Nat} {acc : List Int} (h : At n 0 acc) : acc = digs n := by rw [← h.2.2, digsF_zero]

theorem u8_of_nat (m : Nat) : IntKind.u8.wrap (m : Int) = ((m % 256 : Nat) : Int) := by
  simp [IntKind.wrap, IntKind.bits, IntKind.signed]
theorem digs_len (n : Nat) (h : n < 18446744073709551616) : (digs n).length ≤ 8 := by
  have key : ∀ d m acc, m ≤ d → At n m acc → (digs n).length ≤ 8 := by
    intro d
    induction d with
    | zero => intro m acc hm ha; obtain rfl : m = 0 := by omega
              rw [← ha.done]; exact ha.1
    | succ d ih =>
      intro m acc hm ha
      by_cases h0 : m = 0
      · subst h0; rw [← ha.done]; exact ha.1
      · exact ih _ _ (by omega) (ha.step (by omega)).2
  exact key n n [] (Nat.le_refl _) (At.start n h)

theorem cells9_at (w : World) (acc : List Int) (k : Nat) (hk : k + acc.length = 8) : (w.alloc (.cells (cells9 acc) 69)).cell? ⟨w.heap.size, k, none⟩ = some (.int .u8 0) := by
  rw [cell_of_row (fr := (0, 0)) _ _ _ (cells9 acc) 69 (by show (w.heap.push _)[w.heap.size]? = _; simp)]
  unfold cells9
  simp only [List.getElem?_toArray]
  rw [List.getElem?_append_left (by simp; omega), List.getElem?_replicate, if_pos (by omega)]
set_option maxHeartbeats 800000 in
theorem form_calls (n : Nat) (hn : n < 18446744073709551616) (w : World) :
    Calls Tryd.prog 26 #[.int .u64 n] w fun e w' => e = .returned (.slice (some ⟨w.heap.size, 8 - (digs n).length, none⟩) (formL n).length (formL n).length) ∧ w' = w.alloc (.cells (cells9 (formL n)) 69) := by
  go_enter Tryd.func26, Tryd.ntmps26
  go_wp2
  go_step3
  go_wp2
  go_step3
  go_wp2
  have hu := Tryd.underlying69
  have hu5 := Tryd.underlying5
  go_loopw [0, 4] (fun v0 v4 wr => ∃ (m k : Nat) (acc : List Int), k + acc.length = 8 ∧ v0 = .int .u64 m ∧ v4 = .int .i64 ((k : Int) + 1) ∧ Aside0 (At n m acc) ∧ Aside0 (wr = w.alloc (.cells (cells9 acc) 69))) (fun v0 _ _ => (intOf v0).toNat)
  case atStart => exact ⟨n, 8, [], rfl, rfl, rfl, ⟨At.start n hn⟩, ⟨rfl⟩⟩
  case round =>
    obtain ⟨m, k, acc, hk, rfl, rfl, hA, hw⟩ := hrel
    obtain ⟨rfl⟩ := hw
    have hcell : (w.alloc (.cells (cells9 acc) 69)).cell? ⟨w.heap.size, k, none⟩ = some (.int .u8 0) := cells9_at w acc k hk
    have hk9 : (k : Int) ≤ 9 := by omega
    by_cases h0 : m = 0
    · subst h0
      go_wp2
      rw [Exit.noGoto_ret]
      go_ret
      have hd := hA.out.done
      subst hd
      have e1 : cells9 (formL n) = (cells9 (digs n)).setIfInBounds k (Value.int IntKind.u8 (8 - ↑k)) := by
        rw [show (8 : Int) - k = ((digs n).length : Int) by omega]
        exact (cells9_cons (digs n) _ (by omega) k (by omega)).symm
      rw [e1]
      refine ⟨?_, rfl⟩
      have e2 : (formL n).length = 9 - k := by simp [formL]; omega
      rw [e2, show 8 - (digs n).length = k by omega]
      rfl
    · have hb : ((m : Int) == 0) = false := by simp; omega
      go_wp2
      obtain ⟨h7, hs⟩ := hA.out.step (by omega)
      obtain ⟨j, rfl⟩ : ∃ j, k = j + 1 := ⟨k - 1, by omega⟩
      refine ⟨⟨m / 256, j, _, ?_, by go_num, by go_num, ⟨hs⟩, ⟨?_⟩⟩, by simp [intOf]; omega⟩
      · simp only [List.length_cons]; omega
      · rw [← cells9_cons acc _ (by omega) (j + 1) (by omega)]
        congr 3
end Go.Proofs.YtebjibkgefgalaaDoor.Hand
