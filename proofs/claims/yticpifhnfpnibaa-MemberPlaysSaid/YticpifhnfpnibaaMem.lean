/- What calls of Go functions of this seat come to, as the rows need it: under the conditions that each theorem names. -/
import Derived.Test.YticpifhnfpnibaaWMore
import Derived.Test.YticpifhnfpnibaaProg
import Derived.Below
import Derived.Deep.Draws
import Derived.Deep.AppendLies
import Derived.Maps.AppendAt
import Derived.OwnWalk
import Derived.Laws.BytesArg
import Derived.Laws.MakeOwn
import Derived.Laws.OwnMore
import Derived.Deep.OwnRows
import Derived.Tactics
import Derived.Lib.ConvBytes
import Derived.Laws.Slices
import Derived.WalkKit
import Derived.KernelRfl
import Derived.RowKit3
import Derived.Deep.LoopGhost
import Derived.Deep.QuietTactic
import Derived.BigQuiet
import Derived.WideLaws
import Derived.Deep.DeepCutAuto
import Derived.Deep.CutBlock
import Derived.Deep.RegionHeld3
import Derived.Laws.Rows
import Derived.Lib.AppendStr
import Derived.ArgAppend
import Derived.Laws.IdiomCopy
import Derived.OrdersHeld
import Derived.Laws.BitsLemmas
import Derived.RowKit
import Derived.Outline
namespace Go.Proofs.Yticpifhnfpnibaa.Mem
open Go.RowKit Go.Proofs.YticpifhnfpnibaaW.PrintWords Go.Proofs.YticpifhnfpnibaaW.PrintLast Go.Proofs.YticpifhnfpnibaaW.PrintMore
set_option linter.unusedVariables false
set_option linter.unusedSimpArgs false
/-- An update: node, state, incarnation. -/
abbrev U := Int × Int × Int
theorem cell_of {w : World} {g : Nat} {cur : Array Value} {t : TypeId} (h : w.heap[g]? = some (.cells cur t (0, 0))) {j : Nat} {u : Value} : w.cell? ⟨g, j, none⟩ = some u ↔ cur[j]? = some u := by
  simp [World.cell?, h]
theorem heap_keep {w w' : World} {h : Nat} {o : Obj} (hh : w.heap[h]? = some o) (hb : Below w.heap.size w w') : w'.heap[h]? = some o := (hb.block h (Array.getElem?_eq_some_iff.1 hh).1).trans hh
def MemC (cs : Array Value) (s n : Nat) (f : Nat → U) : Prop :=
  cs.size = 50 ∧ cs[0]? = some (.int .i64 s) ∧ cs[1]? = some (.int .i64 n) ∧ ∀ i, i < 16 → cs[2 + i * 3]? = some (.int .i64 (f i).1) ∧ cs[2 + i * 3 + 1]? = some (.int .u8 (f i).2.1) ∧ cs[2 + i * 3 + 2]? = some (.int .u64 (f i).2.2)
/-- The members' block: oneself, how many, what stands of each. -/
def Mem (w : World) (m s n : Nat) (f : Nat → U) : Prop := ∃ cs, w.heap[m]? = some (.cells cs 51 (0, 0)) ∧ MemC cs s n f
theorem Mem.below {w w' : World} {m s n : Nat} {f : Nat → U} (h : Mem w m s n f) (hb : Below w.heap.size w w') : Mem w' m s n f := by
  obtain ⟨cs, h1, h2⟩ := h
  exact ⟨cs, heap_keep h1 hb, h2⟩
theorem Mem.c1 {w : World} {m s n : Nat} {f : Nat → U} (h : Mem w m s n f) : w.cell? ⟨m, 1, none⟩ = some (.int .i64 n) := by
  obtain ⟨cs, h1, h2⟩ := h
  exact (cell_of h1).2 h2.2.2.1
theorem Mem.c0 {w : World} {m s n : Nat} {f : Nat → U} (h : Mem w m s n f) : w.cell? ⟨m, 0, none⟩ = some (.int .i64 s) := by
  obtain ⟨cs, h1, h2⟩ := h
  exact (cell_of h1).2 h2.2.1
set_option maxHeartbeats 1600000 in
theorem there_calls (m s n : Nat) (f : Nat → U) (i : Int) (w : World) (h : Mem w m s n f) :
    Calls Try.prog 23 #[.pointer (some ⟨m, 0, none⟩), .int .i64 i] w fun e w' => e = .returned (.bool (decide (0 ≤ i ∧ i < n))) ∧ w' = w := by
  have hc := h.c1
  by_cases h0 : 0 ≤ i
  · have e0 : decide (i ≥ 0) = true := decide_eq_true h0
    by_cases h1 : i < n
    · have e1 : decide (i < n) = true := decide_eq_true h1
      rw [decide_eq_true (p := 0 ≤ i ∧ i < n) ⟨h0, h1⟩]
      go_enter Try.func23, Try.ntmps23
      go_wp2
      go_ret
      exact ⟨rfl, rfl⟩
    · have e1 : decide (i < n) = false := decide_eq_false h1
      rw [decide_eq_false (p := 0 ≤ i ∧ i < n) (fun h => h1 h.2)]
      go_enter Try.func23, Try.ntmps23
      go_wp2
      go_ret
      exact ⟨rfl, rfl⟩
  · have e0 : decide (i ≥ 0) = false := decide_eq_false h0
    rw [decide_eq_false (p := 0 ≤ i ∧ i < n) (fun h => h0 h.1)]
    go_enter Try.func23, Try.ntmps23
    go_wp2
    go_ret
    exact ⟨rfl, rfl⟩
theorem there_nil (i : Int) (w : World) : Calls Try.prog 23 #[.pointer none, .int .i64 i] w fun e w' => e = .returned (.bool false) ∧ w' = w := by
  go_enter Try.func23, Try.ntmps23
  go_wp2
  go_ret
  exact ⟨rfl, rfl⟩
def upd (f : Nat → U) (k : Nat) (x : U) : Nat → U := fun i => if i = k then x else f i
theorem upd_same (f : Nat → U) (k : Nat) (x : U) : upd f k x k = x := by simp [upd]
theorem upd_other (f : Nat → U) (k : Nat) (x : U) (i : Nat) (h : i ≠ k) : upd f k x i = f i := by simp [upd, h]
theorem upd_self (f : Nat → U) (k : Nat) : upd f k (f k) = f := by
  funext i
  unfold upd
  split
  · subst_vars; rfl
  · rfl
/-- All blocks but one stay. -/
structure Ch (m : Nat) (w w' : World) : Prop where
  os : w'.os = w.os
  tape : w'.tape = w.tape
  output : w'.output = w.output
  size : w.heap.size ≤ w'.heap.size
  block : ∀ k, k < w.heap.size → k ≠ m → w'.heap[k]? = w.heap[k]?
theorem Ch.refl (m : Nat) (w : World) : Ch m w w := ⟨rfl, rfl, rfl, Nat.le_refl _, fun _ _ _ => rfl⟩
theorem Ch.trans {m : Nat} {a b c : World} (h : Ch m a b) (k : Ch m b c) : Ch m a c :=
  ⟨k.os.trans h.os, k.tape.trans h.tape, k.output.trans h.output, Nat.le_trans h.size k.size, fun i hi hm => (k.block i (Nat.lt_of_lt_of_le hi h.size) hm).trans (h.block i hi hm)⟩
theorem Ch.of_below {m : Nat} {w w' : World} (h : Below w.heap.size w w') : Ch m w w' := ⟨h.os, h.tape, h.output, h.size, fun k hk _ => h.block k hk⟩
theorem Ch.set (m j : Nat) (w : World) (v : Value) : Ch m w (w.setCell ⟨m, j, none⟩ v) :=
  have h : Below m w (w.setCell ⟨m, j, none⟩ v) := (Below.refl m w).setCell (p := ⟨m, j, none⟩) (Nat.le_refl m) v
  ⟨h.os, h.tape, h.output, h.size, fun k _ hm => Below.heap_setCell w ⟨m, j, none⟩ v k hm⟩
theorem Ch.below {m base : Nat} {w w' : World} (h : Ch m w w') (hb : base ≤ m) (hm : m < w.heap.size) : Below base w w' :=
  ⟨h.os, h.tape, h.output, h.size, fun k hk => h.block k (by omega) (by omega)⟩
theorem Ch.new {m : Nat} {w w' : World} (h : Ch m w w') (hm : w.heap.size ≤ m) : Below w.heap.size w w' :=
  ⟨h.os, h.tape, h.output, h.size, fun k hk => h.block k hk (by omega)⟩
theorem Mem.lt {w : World} {m s n : Nat} {f : Nat → U} (h : Mem w m s n f) : m < w.heap.size := by
  obtain ⟨cs, h1, h2⟩ := h
  exact (Array.getElem?_eq_some_iff.1 h1).1
theorem Mem.ch {w w' : World} {m m' s n : Nat} {f : Nat → U} (h : Mem w m s n f) (hc : Ch m' w w') (hne : m ≠ m') : Mem w' m s n f := by
  have hl := h.lt
  obtain ⟨cs, h1, h2⟩ := h
  exact ⟨cs, (hc.block m hl hne).trans h1, h2⟩
theorem heap_ch {w w' : World} {m h : Nat} {o : Obj} (hh : w.heap[h]? = some o) (hc : Ch m w w') (hne : h ≠ m) : w'.heap[h]? = some o := (hc.block h (Array.getElem?_eq_some_iff.1 hh).1 hne).trans hh
theorem Mem.cu {w : World} {m s n : Nat} {f : Nat → U} (h : Mem w m s n f) (k : Nat) (hk : k < 16) :
    w.cell? ⟨m, 2 + k * 3, none⟩ = some (.int .i64 (f k).1) ∧ w.cell? ⟨m, 2 + k * 3 + 1, none⟩ = some (.int .u8 (f k).2.1) ∧ w.cell? ⟨m, 2 + k * 3 + 2, none⟩ = some (.int .u64 (f k).2.2) := by
  obtain ⟨cs, h1, h2⟩ := h
  obtain ⟨a, b, c⟩ := h2.2.2.2 k hk
  exact ⟨(cell_of h1).2 a, (cell_of h1).2 b, (cell_of h1).2 c⟩
theorem Mem.fz {w : World} {m s n : Nat} {f : Nat → U} (h : Mem w m s n f) (j : Nat) : w.frozen? ⟨m, j, none⟩ = false := by
  obtain ⟨cs, h1, h2⟩ := h
  simp [World.frozen?, h1]
theorem MemC.set {cs : Array Value} {s n : Nat} {f : Nat → U} (h : MemC cs s n f) (k : Nat) (hk : k < 16) (x : U) (j : Nat) (hj : j < 3) (v : Value)
    (e : v = ([.int .i64 x.1, .int .u8 x.2.1, .int .u64 x.2.2] : List Value).getD j undef)
    (he : ∀ i, i < 3 → i ≠ j → ([.int .i64 x.1, .int .u8 x.2.1, .int .u64 x.2.2] : List Value).getD i undef = ([.int .i64 (f k).1, .int .u8 (f k).2.1, .int .u64 (f k).2.2] : List Value).getD i undef) :
    MemC (cs.setIfInBounds (2 + k * 3 + j) v) s n (upd f k x) := by
  obtain ⟨h0, h1, h2, h3⟩ := h
  refine ⟨by simpa using h0, by rw [Array.getElem?_setIfInBounds_ne (by omega)]; exact h1, by rw [Array.getElem?_setIfInBounds_ne (by omega)]; exact h2, fun i hi => ?_⟩
  obtain ⟨a, b, c⟩ := h3 i hi
  by_cases hik : i = k
  · subst hik
    rw [upd_same]
    have he0 := he 0 (by omega)
    have he1 := he 1 (by omega)
    have he2 := he 2 (by omega)
    simp only [List.getD_eq_getElem?_getD, List.getElem?_cons_zero, List.getElem?_cons_succ, Option.getD_some] at he0 he1 he2
    refine ⟨?_, ?_, ?_⟩
    · by_cases hj0 : j = 0
      · subst hj0
        rw [Nat.add_zero, Array.getElem?_setIfInBounds_self_of_lt (by omega), e]
        rfl
      · rw [Array.getElem?_setIfInBounds_ne (by omega), a, he0 (by omega)]
    · by_cases hj0 : j = 1
      · subst hj0
        rw [Array.getElem?_setIfInBounds_self_of_lt (by omega), e]
        rfl
      · rw [Array.getElem?_setIfInBounds_ne (by omega), b, he1 (by omega)]
    · by_cases hj0 : j = 2
      · subst hj0
        rw [Array.getElem?_setIfInBounds_self_of_lt (by omega), e]
        rfl
      · rw [Array.getElem?_setIfInBounds_ne (by omega), c, he2 (by omega)]
  · rw [upd_other _ _ _ _ hik, Array.getElem?_setIfInBounds_ne (by omega), Array.getElem?_setIfInBounds_ne (by omega), Array.getElem?_setIfInBounds_ne (by omega)]
    exact ⟨a, b, c⟩
theorem Mem.setSt {w : World} {m s n : Nat} {f : Nat → U} (h : Mem w m s n f) (k : Nat) (hk : k < 16) (b : Int) : Mem (w.setCell ⟨m, 2 + k * 3 + 1, none⟩ (.int .u8 b)) m s n (upd f k ((f k).1, b, (f k).2.2)) := by
  obtain ⟨cs, h1, h2⟩ := h
  refine ⟨_, blk_set h1 _ _, h2.set k hk _ 1 (by omega) _ rfl (fun i hi hne => ?_)⟩
  rcases i with _ | _ | _ | i
  · rfl
  · omega
  · rfl
  · omega
theorem Mem.setInc {w : World} {m s n : Nat} {f : Nat → U} (h : Mem w m s n f) (k : Nat) (hk : k < 16) (b : Int) : Mem (w.setCell ⟨m, 2 + k * 3 + 2, none⟩ (.int .u64 b)) m s n (upd f k ((f k).1, (f k).2.1, b)) := by
  obtain ⟨cs, h1, h2⟩ := h
  refine ⟨_, blk_set h1 _ _, h2.set k hk _ 2 (by omega) _ rfl (fun i hi hne => ?_)⟩
  rcases i with _ | _ | _ | i
  · rfl
  · rfl
  · omega
  · omega
theorem Mem.setNode {w : World} {m s n : Nat} {f : Nat → U} (h : Mem w m s n f) (k : Nat) (hk : k < 16) (b : Int) : Mem (w.setCell ⟨m, 2 + k * 3, none⟩ (.int .i64 b)) m s n (upd f k (b, (f k).2.1, (f k).2.2)) := by
  obtain ⟨cs, h1, h2⟩ := h
  have := h2.set k hk (b, (f k).2.1, (f k).2.2) 0 (by omega) (.int .i64 b) rfl (fun i hi hne => by
    rcases i with _ | _ | _ | i
    · omega
    · rfl
    · rfl
    · omega)
  exact ⟨_, blk_set h1 _ _, this⟩
set_option maxHeartbeats 1600000 in
theorem turn_calls (m s n : Nat) (f : Nat → U) (i : Int) (a b : Int) (w : World) (h : Mem w m s n f) (hn : n ≤ 16) :
    Calls Try.prog 24 #[.pointer (some ⟨m, 0, none⟩), .int .i64 i, .int .u8 a, .int .u8 b] w fun e w' =>
      e = .returned (.bool (decide ((0 ≤ i ∧ i < n) ∧ i ≠ s ∧ (f i.toNat).2.1 = a))) ∧ Ch m w w' ∧
      Mem w' m s n (if (0 ≤ i ∧ i < n) ∧ i ≠ s ∧ (f i.toNat).2.1 = a then upd f i.toNat ((f i.toNat).1, b, (f i.toNat).2.2) else f) := by
  have HM := Aside0.mk h
  by_cases hi : 0 ≤ i ∧ i < n
  · obtain ⟨k, rfl⟩ := Int.eq_ofNat_of_zero_le hi.1
    have hk : k < n := by omega
    have hk16 : k < 16 := by omega
    rw [Int.toNat_natCast]
    have ht : decide (0 ≤ (k : Int) ∧ (k : Int) < n) = true := decide_eq_true hi
    have hc0 := h.c0
    obtain ⟨hx0, hx1, hx2⟩ := h.cu k hk16
    have hf1 := h.fz (2 + k * 3 + 1)
    clear h hx0 hx2
    have HI := Aside0.mk hi
    clear hi
    by_cases hs : k = s
    · have e0 : ((k : Int) == s) = true := by simp; omega
      rw [decide_eq_false (fun h => h.2.1 (by omega)), if_neg (fun h => h.2.1 (by omega))]
      clear hx1 hf1 hk hs
      go_enter Try.func24, Try.ntmps24
      go_wp2_with fail
      refine (there_calls m s n f k _ HM.out).mono ?_
      rintro e w1 ⟨rfl, rfl⟩
      rw [ht]
      go_wp2
      go_ret
      exact ⟨rfl, Ch.refl _ _, HM.out⟩
    · have e0 : ((k : Int) == s) = false := by simp; omega
      by_cases ha : (f k).2.1 = a
      · have e1 : (((f k).2.1) != a) = false := by simp [ha]
        rw [decide_eq_true ⟨HI.out, by omega, ha⟩, if_pos ⟨HI.out, by omega, ha⟩]
        clear hs ha
        go_enter Try.func24, Try.ntmps24
        go_wp2_with fail
        refine (there_calls m s n f k _ HM.out).mono ?_
        rintro e w1 ⟨rfl, rfl⟩
        rw [ht]
        go_wp2
        go_ret
        exact ⟨rfl, Ch.set _ _ _ _, HM.out.setSt k hk16 b⟩
      · have e1 : (((f k).2.1) != a) = true := by simp [ha]
        rw [decide_eq_false (fun h => ha h.2.2), if_neg (fun h => ha h.2.2)]
        clear hs ha
        go_enter Try.func24, Try.ntmps24
        go_wp2_with fail
        refine (there_calls m s n f k _ HM.out).mono ?_
        rintro e w1 ⟨rfl, rfl⟩
        rw [ht]
        go_wp2
        go_ret
        exact ⟨rfl, Ch.refl _ _, HM.out⟩
  · rw [decide_eq_false (fun h => hi h.1), if_neg (fun h => hi h.1)]
    have ht : decide (0 ≤ i ∧ i < n) = false := decide_eq_false hi
    clear h hi
    go_enter Try.func24, Try.ntmps24
    go_wp2_with fail
    refine (there_calls m s n f i _ HM.out).mono ?_
    rintro e w1 ⟨rfl, rfl⟩
    rw [ht]
    go_wp2
    go_ret
    exact ⟨rfl, Ch.refl _ _, HM.out⟩
end Go.Proofs.Yticpifhnfpnibaa.Mem
