/- What calls of Go functions of this seat come to, as the rows need it: under the conditions that each theorem names. -/
import Derived.WalkSpells
import Derived.Test.YtaheoifjihkipaaWMore
import Derived.Test.YtaheoifjihkipaaProg
import Derived.Below
import Derived.Deep.Draws
import Derived.Deep.AppendLies
import Derived.Maps.AppendAt
import Derived.OwnWalk
import Derived.Laws.BytesArg
import Derived.Laws.MakeOwn
import Derived.Laws.OwnMore
import Derived.Deep.OwnRows
import Derived.Tactics
import Derived.Lib.ConvBytes
import Derived.Laws.Slices
import Derived.WalkKit
import Derived.KernelRfl
import Derived.RowKit3
import Derived.Deep.LoopGhost
import Derived.Deep.QuietTactic
import Derived.BigQuiet
import Derived.WideLaws
import Derived.Deep.DeepCutAuto
import Derived.Deep.CutBlock
import Derived.Deep.RegionHeld3
import Derived.Laws.Rows
import Derived.Lib.AppendStr
import Derived.ArgAppend
import Derived.Laws.IdiomCopy
import Derived.OrdersHeld
import Derived.Laws.BitsLemmas
import Derived.RowKit
import Derived.Outline
namespace Go.Proofs.Ytaheoifjihkipaa.As
open Go.RowKit Go.Proofs.YtaheoifjihkipaaW.PrintWords Go.Proofs.YtaheoifjihkipaaW.PrintLast Go.Proofs.YtaheoifjihkipaaW.PrintMore
set_option linter.unusedVariables false
set_option linter.unusedSimpArgs false
/-- A chunk: its state, the peer it is asked of, since when. -/
abbrev U := Int × Int × Int
theorem cell_of {w : World} {g : Nat} {cur : Array Value} {t : TypeId} (h : w.heap[g]? = some (.cells cur t (0, 0))) {j : Nat} {u : Value} : w.cell? ⟨g, j, none⟩ = some u ↔ cur[j]? = some u := by
  simp [World.cell?, h]
theorem heap_keep {w w' : World} {h : Nat} {o : Obj} (hh : w.heap[h]? = some o) (hb : Below w.heap.size w w') : w'.heap[h]? = some o := (hb.block h (Array.getElem?_eq_some_iff.1 hh).1).trans hh
/-- The chunks' block. -/
def Chs (w : World) (g n : Nat) (S : Nat → U) : Prop := ∃ cs, w.heap[g]? = some (.cells cs 55 (0, 0)) ∧ n * 3 ≤ cs.size ∧ ∀ i, i < n → cs[i * 3]? = some (.int .i64 (S i).1) ∧ cs[i * 3 + 1]? = some (.int .i64 (S i).2.1) ∧ cs[i * 3 + 2]? = some (.int .i64 (S i).2.2)
/-- The demerits' block. -/
def Dem (w : World) (g m : Nat) (D : Nat → Int) : Prop := ∃ cs, w.heap[g]? = some (.cells cs 3 (0, 0)) ∧ m ≤ cs.size ∧ ∀ k, k < m → cs[k]? = some (.int .i64 (D k))
/-- A plan's block. -/
def Pb (w : World) (p gc gd gm cc cd n m : Nat) (win tm : Int) : Prop := w.heap[p]? = some (.cells #[.slice (some ⟨gc, 0, none⟩) n cc, .slice (some ⟨gd, 0, none⟩) m cd, .map (some gm), .int .i64 win, .int .i64 tm] 51 (0, 0))
/-- A plan that was not made. -/
def Zb (w : World) (p : Nat) : Prop := w.heap[p]? = some (.cells #[.slice none 0 0, .slice none 0 0, .map none, .int .i64 0, .int .i64 0] 51 (0, 0))
theorem Pb.c0 {w : World} {p gc gd gm cc cd n m : Nat} {win tm : Int} (h : Pb w p gc gd gm cc cd n m win tm) : w.cell? ⟨p, 0, none⟩ = some (.slice (some ⟨gc, 0, none⟩) n cc) := (cell_of h).2 rfl
theorem Pb.c1 {w : World} {p gc gd gm cc cd n m : Nat} {win tm : Int} (h : Pb w p gc gd gm cc cd n m win tm) : w.cell? ⟨p, 1, none⟩ = some (.slice (some ⟨gd, 0, none⟩) m cd) := (cell_of h).2 rfl
theorem Pb.c2 {w : World} {p gc gd gm cc cd n m : Nat} {win tm : Int} (h : Pb w p gc gd gm cc cd n m win tm) : w.cell? ⟨p, 2, none⟩ = some (.map (some gm)) := (cell_of h).2 rfl
theorem Pb.c3 {w : World} {p gc gd gm cc cd n m : Nat} {win tm : Int} (h : Pb w p gc gd gm cc cd n m win tm) : w.cell? ⟨p, 3, none⟩ = some (.int .i64 win) := (cell_of h).2 rfl
theorem Pb.c4 {w : World} {p gc gd gm cc cd n m : Nat} {win tm : Int} (h : Pb w p gc gd gm cc cd n m win tm) : w.cell? ⟨p, 4, none⟩ = some (.int .i64 tm) := (cell_of h).2 rfl
theorem Chs.cu {w : World} {g n : Nat} {S : Nat → U} (h : Chs w g n S) (i : Nat) (hi : i < n) : w.cell? ⟨g, i * 3, none⟩ = some (.int .i64 (S i).1) ∧ w.cell? ⟨g, i * 3 + 1, none⟩ = some (.int .i64 (S i).2.1) ∧ w.cell? ⟨g, i * 3 + 2, none⟩ = some (.int .i64 (S i).2.2) := by
  obtain ⟨cs, h1, h2, h3⟩ := h
  obtain ⟨a, b, c⟩ := h3 i hi
  exact ⟨(cell_of h1).2 a, (cell_of h1).2 b, (cell_of h1).2 c⟩
theorem Dem.cu {w : World} {g m : Nat} {D : Nat → Int} (h : Dem w g m D) (k : Nat) (hk : k < m) : w.cell? ⟨g, k, none⟩ = some (.int .i64 (D k)) := by
  obtain ⟨cs, h1, h2, h3⟩ := h
  exact (cell_of h1).2 (h3 k hk)
theorem ready_calls (p gc gd gm cc cd n m : Nat) (win tm : Int) (w : World) (h : Pb w p gc gd gm cc cd n m win tm) :
    Calls Try.prog 27 #[.pointer (some ⟨p, 0, none⟩)] w fun e w' => e = .returned (.bool true) ∧ w' = w := by
  have hc := h.c2
  have hmm : ∀ (W : World) (r : Option Nat), (binOp .neq 49 (.map r) (.map none)).run Try.prog W = .ok (.bool (!r.isNone)) W := fun W r => run_neq_map_nil W _ _ _ r Try.underlying49
  go_enter Try.func27, Try.ntmps27
  go_wp2
  go_ret
  exact ⟨rfl, rfl⟩
theorem ready_nil (w : World) :
    Calls Try.prog 27 #[.pointer none] w fun e w' => e = .returned (.bool false) ∧ w' = w := by
  go_enter Try.func27, Try.ntmps27
  go_wp2
  go_ret
  exact ⟨rfl, rfl⟩
theorem ready_zero (p : Nat) (w : World) (h : Zb w p) :
    Calls Try.prog 27 #[.pointer (some ⟨p, 0, none⟩)] w fun e w' => e = .returned (.bool false) ∧ w' = w := by
  have hc : w.cell? ⟨p, 2, none⟩ = some (.map none) := (cell_of h).2 rfl
  have hmm : ∀ (W : World) (r : Option Nat), (binOp .neq 49 (.map r) (.map none)).run Try.prog W = .ok (.bool (!r.isNone)) W := fun W r => run_neq_map_nil W _ _ _ r Try.underlying49
  go_enter Try.func27, Try.ntmps27
  go_wp2
  go_ret
  exact ⟨rfl, rfl⟩


/-- The whole of a plan in memory (but for its map). -/
structure Pl (w : World) (p gc gd gm cc cd n m : Nat) (win tm : Int) (S : Nat → U) (D : Nat → Int) : Prop where
  blk : Pb w p gc gd gm cc cd n m win tm
  ch : Chs w gc n S
  de : Dem w gd m D
  n1 : n ≤ 100
  m1 : m ≤ 64
  e1 : p ≠ gc
  e2 : p ≠ gd
  e3 : gc ≠ gd
  e4 : gm ≠ p
  e5 : gm ≠ gc
  e6 : gm ≠ gd
theorem has_calls {p gc gd gm cc cd n m : Nat} {win tm : Int} {S : Nat → U} {D : Nat → Int} (i : Int) (w : World) (h : Pl w p gc gd gm cc cd n m win tm S D) :
    Calls Try.prog 32 #[.pointer (some ⟨p, 0, none⟩), .int .i64 i] w fun e w' => e = .returned (.bool (decide (0 ≤ i ∧ i < n))) ∧ w' = w := by
  have hc := h.blk.c0
  have HB := Aside0.mk h.blk
  have hn := h.n1
  clear h
  by_cases h0 : 0 ≤ i
  · have e0 : decide (i ≥ 0) = true := decide_eq_true h0
    by_cases h1 : i < n
    · have e1 : decide (i < n) = true := decide_eq_true h1
      rw [decide_eq_true (p := 0 ≤ i ∧ i < n) ⟨h0, h1⟩]
      go_enter Try.func32, Try.ntmps32
      go_wp2_with fail
      refine (ready_calls p gc gd gm cc cd n m win tm w HB.out).mono ?_
      rintro e w1 ⟨rfl, hw⟩
      replace hw := hw.symm
      subst hw
      go_wp2
      go_ret
      exact ⟨rfl, rfl⟩
    · have e1 : decide (i < n) = false := decide_eq_false h1
      rw [decide_eq_false (p := 0 ≤ i ∧ i < n) (fun h => h1 h.2)]
      go_enter Try.func32, Try.ntmps32
      go_wp2_with fail
      refine (ready_calls p gc gd gm cc cd n m win tm w HB.out).mono ?_
      rintro e w1 ⟨rfl, hw⟩
      replace hw := hw.symm
      subst hw
      go_wp2
      go_ret
      exact ⟨rfl, rfl⟩
  · have e0 : decide (i ≥ 0) = false := decide_eq_false h0
    rw [decide_eq_false (p := 0 ≤ i ∧ i < n) (fun h => h0 h.1)]
    go_enter Try.func32, Try.ntmps32
    go_wp2_with fail
    refine (ready_calls p gc gd gm cc cd n m win tm w HB.out).mono ?_
    rintro e w1 ⟨rfl, hw⟩
    replace hw := hw.symm
    subst hw
    go_wp2
    go_ret
    exact ⟨rfl, rfl⟩
/-- A plan that is not there, or was not made. -/
def Nb (w : World) (a : Option Addr) : Prop := a = none ∨ ∃ p, a = some ⟨p, 0, none⟩ ∧ Zb w p
theorem nready (a : Option Addr) (w : World) (h : Nb w a) :
    Calls Try.prog 27 #[.pointer a] w fun e w' => e = .returned (.bool false) ∧ w' = w := by
  rcases h with rfl | ⟨p, rfl, h⟩
  · exact ready_nil w
  · exact ready_zero p w h
theorem nhas (a : Option Addr) (i : Int) (w : World) (h : Nb w a) :
    Calls Try.prog 32 #[.pointer a, .int .i64 i] w fun e w' => e = .returned (.bool false) ∧ w' = w := by
  have H := Aside0.mk h
  clear h
  go_enter Try.func32, Try.ntmps32
  go_wp2_with fail
  refine (nready a w H.out).mono ?_
  rintro e w1 ⟨rfl, hw⟩
  replace hw := hw.symm
  subst hw
  go_wp2
  go_ret
  exact ⟨rfl, rfl⟩
theorem nnext (a : Option Addr) (i : Int) (w : World) (h : Nb w a) :
    Calls Try.prog 12 #[.pointer a, .int .i64 i] w fun e w' => e = .returned (.tuple #[.int .i64 0, .int .i64 0, .bool false]) ∧ w' = w := by
  have H := Aside0.mk h
  clear h
  go_enter Try.func12, Try.ntmps12
  go_wp2_with fail
  refine (nready a w H.out).mono ?_
  rintro e w1 ⟨rfl, hw⟩
  replace hw := hw.symm
  subst hw
  go_wp2
  go_ret3
  exact ⟨rfl, rfl⟩
theorem nhad (a : Option Addr) (i : Int) (w : World) (h : Nb w a) :
    Calls Try.prog 13 #[.pointer a, .int .i64 i] w fun e w' => e = .returned (.int .i64 1) ∧ w' = w := by
  have H := Aside0.mk h
  clear h
  go_enter Try.func13, Try.ntmps13
  go_wp2_with fail
  refine (nready a w H.out).mono ?_
  rintro e w1 ⟨rfl, hw⟩
  replace hw := hw.symm
  subst hw
  go_wp2
  go_ret
  exact ⟨rfl, rfl⟩
theorem nbad (a : Option Addr) (i k : Int) (w : World) (h : Nb w a) :
    Calls Try.prog 14 #[.pointer a, .int .i64 i, .int .i64 k] w fun e w' => e = .returned (.int .i64 1) ∧ w' = w := by
  have H := Aside0.mk h
  clear h
  go_enter Try.func14, Try.ntmps14
  go_wp2_with fail
  refine (nready a w H.out).mono ?_
  rintro e w1 ⟨rfl, hw⟩
  replace hw := hw.symm
  subst hw
  go_wp2
  go_ret
  exact ⟨rfl, rfl⟩
theorem nstate (a : Option Addr) (i : Int) (w : World) (h : Nb w a) :
    Calls Try.prog 16 #[.pointer a, .int .i64 i] w fun e w' => e = .returned (.int .i64 0) ∧ w' = w := by
  have H := Aside0.mk h
  clear h
  go_enter Try.func16, Try.ntmps16
  go_wp2_with fail
  refine (nhas a i w H.out).mono ?_
  rintro e w1 ⟨rfl, hw⟩
  replace hw := hw.symm
  subst hw
  go_wp2
  go_ret
  exact ⟨rfl, rfl⟩
theorem nasked (a : Option Addr) (i : Int) (w : World) (h : Nb w a) :
    Calls Try.prog 18 #[.pointer a, .int .i64 i] w fun e w' => e = .returned (.tuple #[.int .i64 0, .int .i64 0, .bool false]) ∧ w' = w := by
  have H := Aside0.mk h
  clear h
  go_enter Try.func18, Try.ntmps18
  go_wp2_with fail
  refine (nstate a i w H.out).mono ?_
  rintro e w1 ⟨rfl, hw⟩
  replace hw := hw.symm
  subst hw
  go_wp2
  go_ret3
  exact ⟨rfl, rfl⟩
theorem ndemerits (a : Option Addr) (k : Int) (w : World) (h : Nb w a) :
    Calls Try.prog 17 #[.pointer a, .int .i64 k] w fun e w' => e = .returned (.int .i64 0) ∧ w' = w := by
  have H := Aside0.mk h
  clear h
  go_enter Try.func17, Try.ntmps17
  go_wp2_with fail
  refine (nready a w H.out).mono ?_
  rintro e w1 ⟨rfl, hw⟩
  replace hw := hw.symm
  subst hw
  go_wp2
  go_ret
  exact ⟨rfl, rfl⟩
theorem nleft (a : Option Addr) (w : World) (h : Nb w a) :
    Calls Try.prog 11 #[.pointer a] w fun e w' => e = .returned (.int .i64 0) ∧ w' = w := by
  have H := Aside0.mk h
  clear h
  go_enter Try.func11, Try.ntmps11
  go_wp2_with fail
  refine (nready a w H.out).mono ?_
  rintro e w1 ⟨rfl, hw⟩
  replace hw := hw.symm
  subst hw
  go_wp2
  go_ret
  exact ⟨rfl, rfl⟩
theorem nstuck (a : Option Addr) (w : World) (h : Nb w a) :
    Calls Try.prog 15 #[.pointer a] w fun e w' => e = .returned (.bool false) ∧ w' = w := by
  have H := Aside0.mk h
  clear h
  go_enter Try.func15, Try.ntmps15
  go_wp2_with fail
  refine (nleft a w H.out).mono ?_
  rintro e w1 ⟨rfl, hw⟩
  replace hw := hw.symm
  subst hw
  go_wp2
  go_ret
  exact ⟨rfl, rfl⟩
theorem ncopy (a : Option Addr) (w : World) (h : Nb w a) :
    Calls Try.prog 24 #[.pointer a] w fun e w' => e = .returned (.pointer none) ∧ w' = w := by
  have H := Aside0.mk h
  clear h
  go_enter Try.func24, Try.ntmps24
  go_wp2_with fail
  refine (nready a w H.out).mono ?_
  rintro e w1 ⟨rfl, hw⟩
  replace hw := hw.symm
  subst hw
  go_wp2
  go_ret
  exact ⟨rfl, rfl⟩
end Go.Proofs.Ytaheoifjihkipaa.As
