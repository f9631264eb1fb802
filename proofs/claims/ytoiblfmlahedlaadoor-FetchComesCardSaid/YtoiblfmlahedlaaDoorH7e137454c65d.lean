/- What calls of Go functions of this seat come to, as the rows need it: under the conditions that each theorem names. -/
import Derived.Test.YtoiblfmlahedlaaDoorH68227917bba1
import Derived.WalkSpells
import Derived.Test.YtoiblfmlahedlaaDoorProg
import Derived.Below
import Derived.Deep.Draws
import Derived.Deep.AppendLies
import Derived.Maps.AppendAt
import Derived.OwnWalk
import Derived.Laws.BytesArg
import Derived.Laws.MakeOwn
import Derived.Laws.OwnMore
import Derived.Deep.OwnRows
import Derived.Tactics
import Derived.Lib.ConvBytes
import Derived.Laws.Slices
import Derived.WalkKit
import Derived.KernelRfl
import Derived.RowKit3
import Derived.Deep.LoopGhost
import Derived.Deep.QuietTactic
import Derived.BigQuiet
import Derived.WideLaws
import Derived.Deep.DeepCutAuto
import Derived.Deep.CutBlock
import Derived.Deep.RegionHeld3
import Derived.Laws.Rows
import Derived.Lib.AppendStr
import Derived.ArgAppend
import Derived.Laws.IdiomCopy
import Derived.OrdersHeld
import Derived.Laws.BitsLemmas
import Derived.RowKit
import Derived.Outline
section
namespace Go.Proofs.YtoiblfmlahedlaaDoor.As
open Go.RowKit Go.Proofs.YtoiblfmlahedlaaDoorW.PrintWords Go.Proofs.YtoiblfmlahedlaaDoorW.PrintLast Go.Proofs.YtoiblfmlahedlaaDoorW.PrintMore
set_option linter.unusedVariables false
set_option linter.unusedSimpArgs false
set_option maxRecDepth 100000
abbrev U := Int × Int × Int
theorem cell_of {w : World} {g : Nat} {cur : Array Value} {t : TypeId} (h : w.heap[g]? = some (.cells cur t (0, 0))) {j : Nat} {u : Value} : w.cell? ⟨g, j, none⟩ = some u ↔ cur[j]? = some u := by
  simp [World.cell?, h]
theorem heap_keep {w w' : World} {h : Nat} {o : Obj} (hh : w.heap[h]? = some o) (hb : Below w.heap.size w w') : w'.heap[h]? = some o := (hb.block h (Array.getElem?_eq_some_iff.1 hh).1).trans hh
def Chs (w : World) (g n : Nat) (S : Nat → U) : Prop := ∃ cs, w.heap[g]? = some (.cells cs 108 (0, 0)) ∧ n * 3 ≤ cs.size ∧ ∀ i, i < n → cs[i * 3]? = some (.int .i64 (S i).1) ∧ cs[i * 3 + 1]? = some (.int .i64 (S i).2.1) ∧ cs[i * 3 + 2]? = some (.int .i64 (S i).2.2)
def Dem (w : World) (g m : Nat) (D : Nat → Int) : Prop := ∃ cs, w.heap[g]? = some (.cells cs 3 (0, 0)) ∧ m ≤ cs.size ∧ ∀ k, k < m → cs[k]? = some (.int .i64 (D k))
def Pb (w : World) (p gc gd gm cc cd n m : Nat) (win tm : Int) : Prop := w.heap[p]? = some (.cells #[.slice (some ⟨gc, 0, none⟩) n cc, .slice (some ⟨gd, 0, none⟩) m cd, .map (some gm), .int .i64 win, .int .i64 tm] 104 (0, 0))
theorem Pb.c0 {w : World} {p gc gd gm cc cd n m : Nat} {win tm : Int} (h : Pb w p gc gd gm cc cd n m win tm) : w.cell? ⟨p, 0, none⟩ = some (.slice (some ⟨gc, 0, none⟩) n cc) := (cell_of h).2 rfl
theorem Pb.c1 {w : World} {p gc gd gm cc cd n m : Nat} {win tm : Int} (h : Pb w p gc gd gm cc cd n m win tm) : w.cell? ⟨p, 1, none⟩ = some (.slice (some ⟨gd, 0, none⟩) m cd) := (cell_of h).2 rfl
theorem Pb.c2 {w : World} {p gc gd gm cc cd n m : Nat} {win tm : Int} (h : Pb w p gc gd gm cc cd n m win tm) : w.cell? ⟨p, 2, none⟩ = some (.map (some gm)) := (cell_of h).2 rfl
theorem Pb.c3 {w : World} {p gc gd gm cc cd n m : Nat} {win tm : Int} (h : Pb w p gc gd gm cc cd n m win tm) : w.cell? ⟨p, 3, none⟩ = some (.int .i64 win) := (cell_of h).2 rfl
theorem Pb.c4 {w : World} {p gc gd gm cc cd n m : Nat} {win tm : Int} (h : Pb w p gc gd gm cc cd n m win tm) : w.cell? ⟨p, 4, none⟩ = some (.int .i64 tm) := (cell_of h).2 rfl
theorem Chs.cu {w : World} {g n : Nat} {S : Nat → U} (h : Chs w g n S) (i : Nat) (hi : i < n) : w.cell? ⟨g, i * 3, none⟩ = some (.int .i64 (S i).1) ∧ w.cell? ⟨g, i * 3 + 1, none⟩ = some (.int .i64 (S i).2.1) ∧ w.cell? ⟨g, i * 3 + 2, none⟩ = some (.int .i64 (S i).2.2) := by
  obtain ⟨cs, h1, h2, h3⟩ := h
  obtain ⟨a, b, c⟩ := h3 i hi
  exact ⟨(cell_of h1).2 a, (cell_of h1).2 b, (cell_of h1).2 c⟩
theorem Dem.cu {w : World} {g m : Nat} {D : Nat → Int} (h : Dem w g m D) (k : Nat) (hk : k < m) : w.cell? ⟨g, k, none⟩ = some (.int .i64 (D k)) := by
  obtain ⟨cs, h1, h2, h3⟩ := h
  exact (cell_of h1).2 (h3 k hk)
theorem ready_calls (p gc gd gm cc cd n m : Nat) (win tm : Int) (w : World) (h : Pb w p gc gd gm cc cd n m win tm) :
    Calls Tryd.prog 59 #[.pointer (some ⟨p, 0, none⟩)] w fun e w' => e = .returned (.bool true) ∧ w' = w := by
  have hc := h.c2
  have hmm : ∀ (W : World) (r : Option Nat), (binOp .neq 102 (.map r) (.map none)).run Tryd.prog W = .ok (.bool (!r.isNone)) W := fun W r => run_neq_map_nil W _ _ _ r Tryd.underlying102
  go_enter Tryd.func59, Tryd.ntmps59
  go_wp2
  go_ret
  exact ⟨rfl, rfl⟩
structure Pl (w : World) (p gc gd gm cc cd n m : Nat) (win tm : Int) (S : Nat → U) (D : Nat → Int) : Prop where
  blk : Pb w p gc gd gm cc cd n m win tm
  ch : Chs w gc n S
  de : Dem w gd m D
  n1 : n ≤ 100
  m1 : m ≤ 64
  e1 : p ≠ gc
  e2 : p ≠ gd
  e3 : gc ≠ gd
  e4 : gm ≠ p
  e5 : gm ≠ gc
  e6 : gm ≠ gd
theorem has_calls {p gc gd gm cc cd n m : Nat} {win tm : Int} {S : Nat → U} {D : Nat → Int} (i : Int) (w : World) (h : Pl w p gc gd gm cc cd n m win tm S D) :
    Calls Tryd.prog 64 #[.pointer (some ⟨p, 0, none⟩), .int .i64 i] w fun e w' => e = .returned (.bool (decide (0 ≤ i ∧ i < n))) ∧ w' = w := by
  have hc := h.blk.c0
  have HB := Aside0.mk h.blk
  have hn := h.n1
  clear h
  by_cases h0 : 0 ≤ i
  · have e0 : decide (i ≥ 0) = true := decide_eq_true h0
    by_cases h1 : i < n
    · have e1 : decide (i < n) = true := decide_eq_true h1
      rw [decide_eq_true (p := 0 ≤ i ∧ i < n) ⟨h0, h1⟩]
      go_enter Tryd.func64, Tryd.ntmps64
      go_wp2_with fail
      refine (ready_calls p gc gd gm cc cd n m win tm w HB.out).mono ?_
      rintro e w1 ⟨rfl, hw⟩
      replace hw := hw.symm
      subst hw
      go_wp2
      go_ret
      exact ⟨rfl, rfl⟩
    · have e1 : decide (i < n) = false := decide_eq_false h1
      rw [decide_eq_false (p := 0 ≤ i ∧ i < n) (fun h => h1 h.2)]
      go_enter Tryd.func64, Tryd.ntmps64
      go_wp2_with fail
      refine (ready_calls p gc gd gm cc cd n m win tm w HB.out).mono ?_
      rintro e w1 ⟨rfl, hw⟩
      replace hw := hw.symm
      subst hw
      go_wp2
      go_ret
      exact ⟨rfl, rfl⟩
  · have e0 : decide (i ≥ 0) = false := decide_eq_false h0
    rw [decide_eq_false (p := 0 ≤ i ∧ i < n) (fun h => h0 h.1)]
    go_enter Tryd.func64, Tryd.ntmps64
    go_wp2_with fail
    refine (ready_calls p gc gd gm cc cd n m win tm w HB.out).mono ?_
    rintro e w1 ⟨rfl, hw⟩
    replace hw := hw.symm
    subst hw
    go_wp2
    go_ret
    exact ⟨rfl, rfl⟩
end Go.Proofs.YtoiblfmlahedlaaDoor.As
end
section
namespace Go.Proofs.YtoiblfmlahedlaaDoor.As
open Go.RowKit Go.Proofs.YtoiblfmlahedlaaDoorW.PrintWords Go.Proofs.YtoiblfmlahedlaaDoorW.PrintLast Go.Proofs.YtoiblfmlahedlaaDoorW.PrintMore
set_option linter.unusedVariables false
set_option linter.unusedSimpArgs false
set_option maxRecDepth 100000
def stOf (S : Nat → U) (n : Nat) (i : Int) : Int := if 0 ≤ i ∧ i < n then (S i.toNat).1 else 0
theorem stOf_in {S : Nat → U} {n j : Nat} (h : j < n) : stOf S n (j : Int) = (S j).1 := by
  unfold stOf
  rw [if_pos ⟨by omega, by omega⟩, Int.toNat_natCast]
theorem state_calls {p gc gd gm cc cd n m : Nat} {win tm : Int} {S : Nat → U} {D : Nat → Int} (i : Int) (w : World) (h : Pl w p gc gd gm cc cd n m win tm S D) :
    Calls Tryd.prog 39 #[.pointer (some ⟨p, 0, none⟩), .int .i64 i] w fun e w' => e = .returned (.int .i64 (stOf S n i)) ∧ w' = w := by
  have hc := h.blk.c0
  have hn := h.n1
  have HP := Aside0.mk h
  have HC := Aside0.mk h.ch
  clear h
  by_cases h0 : 0 ≤ i ∧ i < n
  · obtain ⟨j, rfl⟩ := Int.eq_ofNat_of_zero_le h0.1
    have hj : j < n := by omega
    rw [stOf_in hj]
    have HH := Aside0.mk (decide_eq_true (p := 0 ≤ (j : Int) ∧ (j : Int) < n) ⟨by omega, by omega⟩)
    have hx := (HC.out.cu j hj).1
    clear h0
    go_enter Tryd.func39, Tryd.ntmps39
    go_wp2_with fail
    refine (has_calls (j : Int) w HP.out).mono ?_
    rw [HH.out]
    rintro e w1 ⟨rfl, hw⟩
    replace hw := hw.symm
    subst hw
    go_wp2
    go_ret
    exact ⟨rfl, rfl⟩
  · have HH := Aside0.mk (decide_eq_false (p := 0 ≤ i ∧ i < (n : Int)) h0)
    rw [show stOf S n i = 0 from if_neg h0]
    clear h0
    go_enter Tryd.func39, Tryd.ntmps39
    go_wp2_with fail
    refine (has_calls i w HP.out).mono ?_
    rw [HH.out]
    rintro e w1 ⟨rfl, hw⟩
    replace hw := hw.symm
    subst hw
    go_wp2
    go_ret
    exact ⟨rfl, rfl⟩
theorem Pl.below {w w' : World} {p gc gd gm cc cd n m : Nat} {win tm : Int} {S : Nat → U} {D : Nat → Int} (h : Pl w p gc gd gm cc cd n m win tm S D) (hb : Below w.heap.size w w') : Pl w' p gc gd gm cc cd n m win tm S D := by
  obtain ⟨cs, a1, a2⟩ := h.ch
  obtain ⟨ds, b1, b2⟩ := h.de
  exact ⟨heap_keep h.blk hb, ⟨cs, heap_keep a1 hb, a2⟩, ⟨ds, heap_keep b1 hb, b2⟩, h.n1, h.m1, h.e1, h.e2, h.e3, h.e4, h.e5, h.e6⟩
end Go.Proofs.YtoiblfmlahedlaaDoor.As
end
section
namespace Go.Proofs.YtoiblfmlahedlaaDoor.As
open Go.RowKit Go.Proofs.YtoiblfmlahedlaaDoorW.PrintWords Go.Proofs.YtoiblfmlahedlaaDoorW.PrintLast Go.Proofs.YtoiblfmlahedlaaDoorW.PrintMore
set_option linter.unusedVariables false
set_option linter.unusedSimpArgs false
set_option maxRecDepth 100000
def upd (S : Nat → U) (k : Nat) (x : U) : Nat → U := fun i => if i = k then x else S i
theorem upd_same (S : Nat → U) (k : Nat) (x : U) : upd S k x k = x := by simp [upd]
theorem upd_other (S : Nat → U) (k : Nat) (x : U) (i : Nat) (h : i ≠ k) : upd S k x i = S i := by simp [upd, h]
def updD (D : Nat → Int) (k : Nat) (x : Int) : Nat → Int := fun i => if i = k then x else D i
theorem updD_same (D : Nat → Int) (k : Nat) (x : Int) : updD D k x k = x := by simp [updD]
theorem updD_other (D : Nat → Int) (k : Nat) (x : Int) (i : Nat) (h : i ≠ k) : updD D k x i = D i := by simp [updD, h]
structure Chg (a b c : Nat) (w w' : World) : Prop where
  os : w'.os = w.os
  tape : w'.tape = w.tape
  output : w'.output = w.output
  size : w.heap.size ≤ w'.heap.size
  block : ∀ k, k < w.heap.size → k ≠ a → k ≠ b → k ≠ c → w'.heap[k]? = w.heap[k]?
theorem Chg.of_below {a b c : Nat} {w w' : World} (h : Below w.heap.size w w') : Chg a b c w w' := ⟨h.os, h.tape, h.output, h.size, fun k hk _ _ _ => h.block k hk⟩
theorem Chg.trans {a b c : Nat} {u v w : World} (h : Chg a b c u v) (k : Chg a b c v w) : Chg a b c u w :=
  ⟨k.os.trans h.os, k.tape.trans h.tape, k.output.trans h.output, Nat.le_trans h.size k.size, fun i hi h1 h2 h3 => (k.block i (Nat.lt_of_lt_of_le hi h.size) h1 h2 h3).trans (h.block i hi h1 h2 h3)⟩
theorem Chg.of_set {a b c : Nat} (m j : Nat) (w : World) (v : Value) (hm : m = a ∨ m = b ∨ m = c) : Chg a b c w (w.setCell ⟨m, j, none⟩ v) :=
  have h : Below m w (w.setCell ⟨m, j, none⟩ v) := (Below.refl m w).setCell (p := ⟨m, j, none⟩) (Nat.le_refl m) v
  ⟨h.os, h.tape, h.output, h.size, fun k _ h1 h2 h3 => Below.heap_setCell w ⟨m, j, none⟩ v k (by intro e; subst e; rcases hm with e | e | e <;> simp_all)⟩
theorem Chg.below {a b c B : Nat} {w w' : World} (h : Chg a b c w w') (ha : B ≤ a) (hb : B ≤ b) (hc : B ≤ c) (hB : B ≤ w.heap.size) : Below B w w' :=
  ⟨h.os, h.tape, h.output, h.size, fun k hk => h.block k (by omega) (by omega) (by omega) (by omega)⟩
theorem Chs.fz {w : World} {g n : Nat} {S : Nat → U} (h : Chs w g n S) (j : Nat) : w.frozen? ⟨g, j, none⟩ = false := by
  obtain ⟨cs, h1, h2⟩ := h
  simp [World.frozen?, h1]
theorem Dem.fz {w : World} {g m : Nat} {D : Nat → Int} (h : Dem w g m D) (j : Nat) : w.frozen? ⟨g, j, none⟩ = false := by
  obtain ⟨cs, h1, h2⟩ := h
  simp [World.frozen?, h1]
def put3 (w : World) (g j : Nat) (x : U) : World := ((w.setCell ⟨g, j * 3, none⟩ (.int .i64 x.1)).setCell ⟨g, j * 3 + 1, none⟩ (.int .i64 x.2.1)).setCell ⟨g, j * 3 + 2, none⟩ (.int .i64 x.2.2)
theorem Chs.put {w : World} {g n : Nat} {S : Nat → U} (h : Chs w g n S) (j : Nat) (hj : j < n) (x : U) : Chs (put3 w g j x) g n (upd S j x) := by
  obtain ⟨cs, h1, h2, h3⟩ := h
  refine ⟨_, blk_set (blk_set (blk_set h1 _ _) _ _) _ _, by simpa using h2, fun i hi => ?_⟩
  obtain ⟨a, b, c⟩ := h3 i hi
  by_cases hij : i = j
  · subst hij
    rw [upd_same]
    refine ⟨?_, ?_, ?_⟩
    · rw [Array.getElem?_setIfInBounds_ne (by omega), Array.getElem?_setIfInBounds_ne (by omega), Array.getElem?_setIfInBounds_self_of_lt (by omega)]
    · rw [Array.getElem?_setIfInBounds_ne (by omega), Array.getElem?_setIfInBounds_self_of_lt (by simp; omega)]
    · rw [Array.getElem?_setIfInBounds_self_of_lt (by simp; omega)]
  · rw [upd_other _ _ _ _ hij]
    refine ⟨?_, ?_, ?_⟩
    · rw [Array.getElem?_setIfInBounds_ne (by omega), Array.getElem?_setIfInBounds_ne (by omega), Array.getElem?_setIfInBounds_ne (by omega)]; exact a
    · rw [Array.getElem?_setIfInBounds_ne (by omega), Array.getElem?_setIfInBounds_ne (by omega), Array.getElem?_setIfInBounds_ne (by omega)]; exact b
    · rw [Array.getElem?_setIfInBounds_ne (by omega), Array.getElem?_setIfInBounds_ne (by omega), Array.getElem?_setIfInBounds_ne (by omega)]; exact c
theorem put3_chg (w : World) (g j : Nat) (x : U) (b c : Nat) : Chg g b c w (put3 w g j x) := ((Chg.of_set g _ w _ (Or.inl rfl)).trans (Chg.of_set g _ _ _ (Or.inl rfl))).trans (Chg.of_set g _ _ _ (Or.inl rfl))
theorem put3_other (w : World) (g j : Nat) (x : U) (k : Nat) (h : k ≠ g) : (put3 w g j x).heap[k]? = w.heap[k]? := by
  unfold put3
  rw [Below.heap_setCell _ ⟨g, j * 3 + 2, none⟩ _ k h, Below.heap_setCell _ ⟨g, j * 3 + 1, none⟩ _ k h, Below.heap_setCell _ ⟨g, j * 3, none⟩ _ k h]
theorem Pl.put {w : World} {p gc gd gm cc cd n m : Nat} {win tm : Int} {S : Nat → U} {D : Nat → Int} (h : Pl w p gc gd gm cc cd n m win tm S D) (j : Nat) (hj : j < n) (x : U) : Pl (put3 w gc j x) p gc gd gm cc cd n m win tm (upd S j x) D := by
  obtain ⟨ds, b1, b2⟩ := h.de
  exact ⟨(put3_other _ _ _ _ _ h.e1).trans h.blk, h.ch.put j hj x, ⟨ds, (put3_other _ _ _ _ _ h.e3.symm).trans b1, b2⟩, h.n1, h.m1, h.e1, h.e2, h.e3, h.e4, h.e5, h.e6⟩
theorem Dem.put {w : World} {g m : Nat} {D : Nat → Int} (h : Dem w g m D) (k : Nat) (hk : k < m) (x : Int) : Dem (w.setCell ⟨g, k, none⟩ (.int .i64 x)) g m (updD D k x) := by
  obtain ⟨cs, h1, h2, h3⟩ := h
  refine ⟨_, blk_set h1 _ _, by simpa using h2, fun i hi => ?_⟩
  by_cases hik : i = k
  · subst hik
    rw [updD_same, Array.getElem?_setIfInBounds_self_of_lt (by omega)]
  · rw [updD_other _ _ _ _ hik, Array.getElem?_setIfInBounds_ne (by omega)]
    exact h3 i hi
theorem Pl.putD {w : World} {p gc gd gm cc cd n m : Nat} {win tm : Int} {S : Nat → U} {D : Nat → Int} (h : Pl w p gc gd gm cc cd n m win tm S D) (k : Nat) (hk : k < m) (x : Int) : Pl (w.setCell ⟨gd, k, none⟩ (.int .i64 x)) p gc gd gm cc cd n m win tm S (updD D k x) := by
  obtain ⟨cs, b1, b2⟩ := h.ch
  exact ⟨(Below.heap_setCell _ ⟨gd, k, none⟩ _ _ h.e2).trans h.blk, ⟨cs, (Below.heap_setCell _ ⟨gd, k, none⟩ _ _ h.e3).trans b1, b2⟩, h.de.put k hk x, h.n1, h.m1, h.e1, h.e2, h.e3, h.e4, h.e5, h.e6⟩
theorem had_ok {p gc gd gm cc cd n m : Nat} {win tm : Int} {S : Nat → U} {D : Nat → Int} (j : Nat) (hj : j < n) (w : World) (h : Pl w p gc gd gm cc cd n m win tm S D) (hs : (S j).1 ≠ 2) :
    Calls Tryd.prog 43 #[.pointer (some ⟨p, 0, none⟩), .int .i64 (j : Int)] w fun e w' => e = .returned (.int .i64 0) ∧ w' = put3 w gc j (2, 0, 0) := by
  have HP := Aside0.mk h
  have hn := h.n1
  have hc := h.blk.c0
  obtain ⟨hx0, hx1, hx2⟩ := h.ch.cu j hj
  have HH := Aside0.mk (decide_eq_true (p := 0 ≤ (j : Int) ∧ (j : Int) < n) ⟨by omega, by omega⟩)
  have hne : ((S j).1 == 2) = false := by rw [beq_eq_false_iff_ne]; exact hs
  have z0 := h.ch.fz (j * 3)
  have z1 := h.ch.fz (j * 3 + 1)
  have z2 := h.ch.fz (j * 3 + 2)
  clear h hs
  go_enter Tryd.func43, Tryd.ntmps43
  go_wp2_with fail
  refine (ready_calls p gc gd gm cc cd n m win tm w HP.out.blk).mono ?_
  rintro e w1 ⟨rfl, hw⟩
  replace hw := hw.symm
  subst hw
  go_wp2_with fail
  refine (has_calls (j : Int) w HP.out).mono ?_
  rw [HH.out]
  rintro e w1 ⟨rfl, hw⟩
  replace hw := hw.symm
  subst hw
  go_wp2
  go_ret
  exact ⟨rfl, rfl⟩
end Go.Proofs.YtoiblfmlahedlaaDoor.As
end
section
namespace Go.Proofs.YtoiblfmlahedlaaDoor.As
open Go.RowKit Go.Proofs.YtoiblfmlahedlaaDoorW.PrintWords Go.Proofs.YtoiblfmlahedlaaDoorW.PrintLast Go.Proofs.YtoiblfmlahedlaaDoorW.PrintMore
set_option linter.unusedVariables false
set_option linter.unusedSimpArgs false
set_option maxRecDepth 100000
theorem had_none {p gc gd gm cc cd n m : Nat} {win tm : Int} {S : Nat → U} {D : Nat → Int} (i : Int) (w : World) (h : Pl w p gc gd gm cc cd n m win tm S D) (hi : ¬ (0 ≤ i ∧ i < n)) :
    Calls Tryd.prog 43 #[.pointer (some ⟨p, 0, none⟩), .int .i64 i] w fun e w' => e = .returned (.int .i64 6) ∧ w' = w := by
  have HP := Aside0.mk h
  have HH := Aside0.mk (decide_eq_false (p := 0 ≤ i ∧ i < (n : Int)) hi)
  clear h hi
  go_enter Tryd.func43, Tryd.ntmps43
  go_wp2_with fail
  refine (ready_calls p gc gd gm cc cd n m win tm w HP.out.blk).mono ?_
  rintro e w1 ⟨rfl, hw⟩
  replace hw := hw.symm
  subst hw
  go_wp2_with fail
  refine (has_calls i w HP.out).mono ?_
  rw [HH.out]
  rintro e w1 ⟨rfl, hw⟩
  replace hw := hw.symm
  subst hw
  go_wp2
  go_ret
  exact ⟨rfl, rfl⟩
theorem had_twice {p gc gd gm cc cd n m : Nat} {win tm : Int} {S : Nat → U} {D : Nat → Int} (j : Nat) (hj : j < n) (w : World) (h : Pl w p gc gd gm cc cd n m win tm S D) (hs : (S j).1 = 2) :
    Calls Tryd.prog 43 #[.pointer (some ⟨p, 0, none⟩), .int .i64 (j : Int)] w fun e w' => e = .returned (.int .i64 7) ∧ w' = w := by
  have HP := Aside0.mk h
  have hn := h.n1
  have hc := h.blk.c0
  obtain ⟨hx0, -, -⟩ := h.ch.cu j hj
  have HH := Aside0.mk (decide_eq_true (p := 0 ≤ (j : Int) ∧ (j : Int) < n) ⟨by omega, by omega⟩)
  rw [hs] at hx0
  clear h hs
  go_enter Tryd.func43, Tryd.ntmps43
  go_wp2_with fail
  refine (ready_calls p gc gd gm cc cd n m win tm w HP.out.blk).mono ?_
  rintro e w1 ⟨rfl, hw⟩
  replace hw := hw.symm
  subst hw
  go_wp2_with fail
  refine (has_calls (j : Int) w HP.out).mono ?_
  rw [HH.out]
  rintro e w1 ⟨rfl, hw⟩
  replace hw := hw.symm
  subst hw
  go_wp2
  go_ret
  exact ⟨rfl, rfl⟩
theorem bad_none {p gc gd gm cc cd n m : Nat} {win tm : Int} {S : Nat → U} {D : Nat → Int} (i k : Int) (w : World) (h : Pl w p gc gd gm cc cd n m win tm S D) (hi : ¬ ((0 ≤ i ∧ i < n) ∧ 0 ≤ k ∧ k < m)) :
    Calls Tryd.prog 41 #[.pointer (some ⟨p, 0, none⟩), .int .i64 i, .int .i64 k] w fun e w' => e = .returned (.int .i64 6) ∧ w' = w := by
  have HP := Aside0.mk h
  have hc := h.blk.c1
  clear h
  by_cases h1 : 0 ≤ i ∧ i < (n : Int)
  · have HH := Aside0.mk (decide_eq_true h1)
    have HI := Aside0.mk (show ¬ (0 ≤ k ∧ k < (m : Int)) from fun h => hi ⟨h1, h⟩)
    clear h1 hi
    by_cases h2 : 0 ≤ k
    · have e1 : decide (k < 0) = false := decide_eq_false (by omega)
      have e2 : decide (k ≥ (m : Int)) = true := decide_eq_true (by have := HI.out; omega)
      have e3 : decide ((m : Int) ≤ k) = true := decide_eq_true (by have := HI.out; omega)
      clear h2
      go_enter Tryd.func41, Tryd.ntmps41
      go_wp2_with fail
      refine (ready_calls p gc gd gm cc cd n m win tm w HP.out.blk).mono ?_
      rintro e w1 ⟨rfl, hw⟩
      replace hw := hw.symm
      subst hw
      go_wp2_with fail
      refine (has_calls i w HP.out).mono ?_
      rw [HH.out]
      rintro e w1 ⟨rfl, hw⟩
      replace hw := hw.symm
      subst hw
      go_wp2
      go_ret
      exact ⟨rfl, rfl⟩
    · have e1 : decide (k < 0) = true := decide_eq_true (by omega)
      clear h2
      go_enter Tryd.func41, Tryd.ntmps41
      go_wp2_with fail
      refine (ready_calls p gc gd gm cc cd n m win tm w HP.out.blk).mono ?_
      rintro e w1 ⟨rfl, hw⟩
      replace hw := hw.symm
      subst hw
      go_wp2_with fail
      refine (has_calls i w HP.out).mono ?_
      rw [HH.out]
      rintro e w1 ⟨rfl, hw⟩
      replace hw := hw.symm
      subst hw
      go_wp2
      go_ret
      exact ⟨rfl, rfl⟩
  · have HH := Aside0.mk (decide_eq_false h1)
    clear h1 hi
    go_enter Tryd.func41, Tryd.ntmps41
    go_wp2_with fail
    refine (ready_calls p gc gd gm cc cd n m win tm w HP.out.blk).mono ?_
    rintro e w1 ⟨rfl, hw⟩
    replace hw := hw.symm
    subst hw
    go_wp2_with fail
    refine (has_calls i w HP.out).mono ?_
    rw [HH.out]
    rintro e w1 ⟨rfl, hw⟩
    replace hw := hw.symm
    subst hw
    go_wp2
    go_ret
    exact ⟨rfl, rfl⟩
theorem bad_arg {p gc gd gm cc cd n m : Nat} {win tm : Int} {S : Nat → U} {D : Nat → Int} (j k : Nat) (hj : j < n) (hk : k < m) (w : World) (h : Pl w p gc gd gm cc cd n m win tm S D) (hs : ¬ ((S j).1 = 1 ∧ (S j).2.1 = k)) :
    Calls Tryd.prog 41 #[.pointer (some ⟨p, 0, none⟩), .int .i64 (j : Int), .int .i64 (k : Int)] w fun e w' => e = .returned (.int .i64 2) ∧ w' = w := by
  have HP := Aside0.mk h
  have hn := h.n1
  have hm := h.m1
  have hc := h.blk.c0
  have hd := h.blk.c1
  obtain ⟨hx0, hx1, -⟩ := h.ch.cu j hj
  have HH := Aside0.mk (decide_eq_true (p := 0 ≤ (j : Int) ∧ (j : Int) < n) ⟨by omega, by omega⟩)
  have e1 : decide ((k : Int) < 0) = false := decide_eq_false (by omega)
  have e2 : decide ((k : Int) ≥ (m : Int)) = false := decide_eq_false (by omega)
  have e3 : decide (m ≤ k) = false := decide_eq_false (by omega)
  by_cases h1 : (S j).1 = 1
  · rw [h1] at hx0
    have h2 : ((S j).2.1 != (k : Int)) = true := by have : (S j).2.1 ≠ (k : Int) := fun e => hs ⟨h1, e⟩; simp [this]
    have h3 : ((S j).2.1 == (k : Int)) = false := by have : (S j).2.1 ≠ (k : Int) := fun e => hs ⟨h1, e⟩; simp [this]
    clear h hs h1
    go_enter Tryd.func41, Tryd.ntmps41
    go_wp2_with fail
    refine (ready_calls p gc gd gm cc cd n m win tm w HP.out.blk).mono ?_
    rintro e w1 ⟨rfl, hw⟩
    replace hw := hw.symm
    subst hw
    go_wp2_with fail
    refine (has_calls (j : Int) w HP.out).mono ?_
    rw [HH.out]
    rintro e w1 ⟨rfl, hw⟩
    replace hw := hw.symm
    subst hw
    go_wp2
    go_ret
    exact ⟨rfl, rfl⟩
  · have h2 : ((S j).1 != 1) = true := by simp [h1]
    have h3 : ((S j).1 == 1) = false := by simp [h1]
    clear h hs h1
    go_enter Tryd.func41, Tryd.ntmps41
    go_wp2_with fail
    refine (ready_calls p gc gd gm cc cd n m win tm w HP.out.blk).mono ?_
    rintro e w1 ⟨rfl, hw⟩
    replace hw := hw.symm
    subst hw
    go_wp2_with fail
    refine (has_calls (j : Int) w HP.out).mono ?_
    rw [HH.out]
    rintro e w1 ⟨rfl, hw⟩
    replace hw := hw.symm
    subst hw
    go_wp2
    go_ret
    exact ⟨rfl, rfl⟩
theorem bad_ok {p gc gd gm cc cd n m : Nat} {win tm : Int} {S : Nat → U} {D : Nat → Int} (j k : Nat) (hj : j < n) (hk : k < m) (w : World) (h : Pl w p gc gd gm cc cd n m win tm S D) (hs : (S j).1 = 1) (hs2 : (S j).2.1 = k) (hb : 0 ≤ D k ∧ D k < 4611686018427387904) :
    Calls Tryd.prog 41 #[.pointer (some ⟨p, 0, none⟩), .int .i64 (j : Int), .int .i64 (k : Int)] w fun e w' => e = .returned (.int .i64 0) ∧ w' = (put3 w gc j (0, 0, 0)).setCell ⟨gd, k, none⟩ (.int .i64 (D k + 1)) := by
  have HP := Aside0.mk h
  have hn := h.n1
  have hm := h.m1
  have hc := h.blk.c0
  have hd := h.blk.c1
  obtain ⟨hx0, hx1, hx2⟩ := h.ch.cu j hj
  have z0 := h.ch.fz (j * 3)
  have z1 := h.ch.fz (j * 3 + 1)
  have z2 := h.ch.fz (j * 3 + 2)
  have HH := Aside0.mk (decide_eq_true (p := 0 ≤ (j : Int) ∧ (j : Int) < n) ⟨by omega, by omega⟩)
  have e1 : decide ((k : Int) < 0) = false := decide_eq_false (by omega)
  have e2 : decide ((k : Int) ≥ (m : Int)) = false := decide_eq_false (by omega)
  have e3 : decide (m ≤ k) = false := decide_eq_false (by omega)
  rw [hs] at hx0
  rw [hs2] at hx1
  have HW := Aside0.mk (show Go.RowKit.wrap64 (D k + 1) = D k + 1 by unfold Go.RowKit.wrap64; omega)
  clear h hs hs2 hb
  go_enter Tryd.func41, Tryd.ntmps41
  go_wp2_with fail
  refine (ready_calls p gc gd gm cc cd n m win tm w HP.out.blk).mono ?_
  rintro e w1 ⟨rfl, hw⟩
  replace hw := hw.symm
  subst hw
  go_wp2_with fail
  refine (has_calls (j : Int) w HP.out).mono ?_
  rw [HH.out]
  rintro e w1 ⟨rfl, hw⟩
  replace hw := hw.symm
  subst hw
  go_upto_region 8 with (fail)
  have hp3 := HP.out.put j hj (0, 0, 0)
  obtain ⟨w2, hw2⟩ : ∃ w2, put3 w gc j (0, 0, 0) = w2 := ⟨_, rfl⟩
  have hw3 : ((w.setCell ⟨gc, j * 3, none⟩ (.int .i64 0)).setCell ⟨gc, j * 3 + 1, none⟩ (.int .i64 0)).setCell ⟨gc, j * 3 + 2, none⟩ (.int .i64 0) = w2 := hw2
  rw [hw2] at hp3
  rw [hw3]
  have HW2 := Aside0.mk hw2
  have hwr := HW.out
  have y1 := hp3.blk.c1
  have y2 := hp3.de.cu k hk
  have y3 := hp3.de.fz k
  clear hw2 hw3 hp3 hc hd hx0 hx1 hx2 z0 z1 z2 e1 e2 e3
  go_wp2
  go_ret
  exact ⟨rfl, by rw [HW2.out]⟩
end Go.Proofs.YtoiblfmlahedlaaDoor.As
end
section
namespace Go.Proofs.YtoiblfmlahedlaaDoor.As
open Go.RowKit Go.Proofs.YtoiblfmlahedlaaDoorW.PrintWords Go.Proofs.YtoiblfmlahedlaaDoorW.PrintLast Go.Proofs.YtoiblfmlahedlaaDoorW.PrintMore
set_option linter.unusedVariables false
set_option linter.unusedSimpArgs false
set_option maxRecDepth 100000
def loadF (S : Nat → U) (k : Int) : Nat → Nat
  | 0 => 0
  | i + 1 => loadF S k i + (if (S i).1 = 1 ∧ (S i).2.1 = k then 1 else 0)
theorem heap_new (w : World) (o : Obj) : (w.alloc o).heap[w.heap.size]? = some o := by
  show (w.heap.push o)[w.heap.size]? = some o
  simp
theorem loadF_le (S : Nat → U) (k : Int) : ∀ n, loadF S k n ≤ n
  | 0 => Nat.le_refl _
  | n + 1 => by have := loadF_le S k n; unfold loadF; split <;> omega
set_option maxHeartbeats 1600000 in
theorem load_calls {p gc gd gm cc cd n m : Nat} {win tm : Int} {S : Nat → U} {D : Nat → Int} (k : Int) (w : World) (h : Pl w p gc gd gm cc cd n m win tm S D) :
    Calls Tryd.prog 90 #[.pointer (some ⟨p, 0, none⟩), .int .i64 k] w fun e w' => e = .returned (.int .i64 (loadF S k n : Nat)) ∧ Below w.heap.size w w' := by
  have HP := Aside0.mk h
  have hn := h.n1
  have hc := h.blk.c0
  clear h
  go_enter Tryd.func90, Tryd.ntmps90
  go_wp2
  go_loopw [4, 12] (fun r v wr => ∃ i : Nat, i ≤ n ∧ v = .int .i64 (i : Int) ∧ r = .int .i64 (loadF S k i : Nat) ∧ Aside0 (Below w.heap.size w wr)) (fun _ v _ => n - (intOf v).toNat)
  case atStart => exact ⟨0, Nat.zero_le _, rfl, rfl, ⟨Below.refl _ _⟩⟩
  case round =>
    obtain ⟨i, hi, rfl, rfl, HB⟩ := hrel
    by_cases hlt : i < n
    · obtain ⟨hx0, hx1, hx2⟩ := (HP.out.below HB.out).ch.cu i hlt
      have hle := loadF_le S k i
      have HS := Aside0.mk (show loadF S k (i + 1) = loadF S k i + (if (S i).1 = 1 ∧ (S i).2.1 = k then 1 else 0) from rfl)
      generalize loadF S k i = r at hle HS ⊢
      go_upto_region 4 with (fail)
      obtain ⟨w2, hw2⟩ : ∃ w2, wr.alloc (.cells #[.int .i64 (S i).1, .int .i64 (S i).2.1, .int .i64 (S i).2.2] 108) = w2 := ⟨_, rfl⟩
      obtain ⟨gx, hgx⟩ : ∃ gx, wr.heap.size = gx := ⟨_, rfl⟩
      have hb2 : Below wr.heap.size wr w2 := by rw [← hw2]; exact (Below.refl _ _).alloc (Nat.le_refl _) _
      have hn0 : w2.heap[gx]? = some (.cells #[.int .i64 (S i).1, .int .i64 (S i).2.1, .int .i64 (S i).2.2] 108 (0, 0)) := by rw [← hw2, ← hgx]; exact heap_new _ _
      have HB2 := Aside0.mk (below_step HB.out hb2)
      have y0 : w2.cell? ⟨gx, 0, none⟩ = some (.int .i64 (S i).1) := (cell_of hn0).2 rfl
      have y1 : w2.cell? ⟨gx, 1, none⟩ = some (.int .i64 (S i).2.1) := (cell_of hn0).2 rfl
      rw [hw2, hgx]
      clear hw2 hgx hb2 hn0 hx0 hx1 hx2 HB
      by_cases h1 : (S i).1 = 1
      · by_cases h2 : (S i).2.1 = k
        · have HS2 := Aside0.mk (show r + 1 = loadF S k (i + 1) by rw [HS.out, if_pos ⟨h1, h2⟩])
          rw [h1] at y0
          rw [h2] at y1
          clear h1 h2
          go_wp2
          go_roundw
          case rel => exact ⟨i + 1, by omega, by first | rfl | go_num, (by rw [← HS2.out]; first | rfl | go_num), HB2⟩
          case measure => simp [intOf]; omega
        · have HS2 := Aside0.mk (show r = loadF S k (i + 1) by rw [HS.out, if_neg (fun h => h2 h.2)]; rfl)
          have e2 : ((S i).2.1 == k) = false := by rw [beq_eq_false_iff_ne]; exact h2
          rw [h1] at y0
          clear h1 h2
          go_wp2
          go_roundw
          case rel => exact ⟨i + 1, by omega, by first | rfl | go_num, (by rw [← HS2.out]), HB2⟩
          case measure => simp [intOf]; omega
      · have HS2 := Aside0.mk (show r = loadF S k (i + 1) by rw [HS.out, if_neg (fun h => h1 h.1)]; rfl)
        have e1 : ((S i).1 == 1) = false := by rw [beq_eq_false_iff_ne]; exact h1
        clear h1
        go_wp2
        go_roundw
        case rel => exact ⟨i + 1, by omega, by first | rfl | go_num, (by rw [← HS2.out]), HB2⟩
        case measure => simp [intOf]; omega
    · obtain rfl : n = i := by omega
      go_wp2
      go_ret
      exact ⟨rfl, HB.out⟩
def leftF (S : Nat → U) : Nat → Nat
  | 0 => 0
  | i + 1 => leftF S i + (if (S i).1 = 2 then 0 else 1)
theorem leftF_le (S : Nat → U) : ∀ n, leftF S n ≤ n
  | 0 => Nat.le_refl _
  | n + 1 => by have := leftF_le S n; unfold leftF; split <;> omega
set_option maxHeartbeats 1600000 in
theorem left_calls {p gc gd gm cc cd n m : Nat} {win tm : Int} {S : Nat → U} {D : Nat → Int} (w : World) (h : Pl w p gc gd gm cc cd n m win tm S D) :
    Calls Tryd.prog 49 #[.pointer (some ⟨p, 0, none⟩)] w fun e w' => e = .returned (.int .i64 (leftF S n : Nat)) ∧ Below w.heap.size w w' := by
  have HP := Aside0.mk h
  have hn := h.n1
  have hc := h.blk.c0
  clear h
  go_enter Tryd.func49, Tryd.ntmps49
  go_wp2_with fail
  refine (ready_calls p gc gd gm cc cd n m win tm w HP.out.blk).mono ?_
  rintro e w1 ⟨rfl, hw⟩
  replace hw := hw.symm
  subst hw
  go_wp2
  go_loopw [2, 13] (fun r v wr => ∃ i : Nat, i ≤ n ∧ v = .int .i64 (i : Int) ∧ r = .int .i64 (leftF S i : Nat) ∧ Aside0 (Below w.heap.size w wr)) (fun _ v _ => n - (intOf v).toNat)
  case atStart => exact ⟨0, Nat.zero_le _, rfl, rfl, ⟨Below.refl _ _⟩⟩
  case round =>
    obtain ⟨i, hi, rfl, rfl, HB⟩ := hrel
    by_cases hlt : i < n
    · obtain ⟨hx0, hx1, hx2⟩ := (HP.out.below HB.out).ch.cu i hlt
      have hle := leftF_le S i
      have HS := Aside0.mk (show leftF S (i + 1) = leftF S i + (if (S i).1 = 2 then 0 else 1) from rfl)
      generalize leftF S i = r at hle HS ⊢
      go_upto_region 6 with (fail)
      obtain ⟨w2, hw2⟩ : ∃ w2, wr.alloc (.cells #[.int .i64 (S i).1, .int .i64 (S i).2.1, .int .i64 (S i).2.2] 108) = w2 := ⟨_, rfl⟩
      obtain ⟨gx, hgx⟩ : ∃ gx, wr.heap.size = gx := ⟨_, rfl⟩
      have hb2 : Below wr.heap.size wr w2 := by rw [← hw2]; exact (Below.refl _ _).alloc (Nat.le_refl _) _
      have hn0 : w2.heap[gx]? = some (.cells #[.int .i64 (S i).1, .int .i64 (S i).2.1, .int .i64 (S i).2.2] 108 (0, 0)) := by rw [← hw2, ← hgx]; exact heap_new _ _
      have HB2 := Aside0.mk (below_step HB.out hb2)
      have y0 : w2.cell? ⟨gx, 0, none⟩ = some (.int .i64 (S i).1) := (cell_of hn0).2 rfl
      have y1 : w2.cell? ⟨gx, 1, none⟩ = some (.int .i64 (S i).2.1) := (cell_of hn0).2 rfl
      rw [hw2, hgx]
      clear hw2 hgx hb2 hn0 hx0 hx1 hx2 HB
      by_cases h1 : (S i).1 = 2
      · have HS2 := Aside0.mk (show r = leftF S (i + 1) by rw [HS.out, if_pos h1]; rfl)
        rw [h1] at y0
        clear h1
        go_wp2
        go_roundw
        case rel => exact ⟨i + 1, by omega, by first | rfl | go_num, (by rw [← HS2.out]), HB2⟩
        case measure => simp [intOf]; omega
      · have HS2 := Aside0.mk (show r + 1 = leftF S (i + 1) by rw [HS.out, if_neg h1])
        have e1 : ((S i).1 != 2) = true := by simp [h1]
        have e2 : ((S i).1 == 2) = false := by simp [h1]
        clear h1
        go_wp2
        go_roundw
        case rel => exact ⟨i + 1, by omega, by first | rfl | go_num, (by rw [← HS2.out]; first | rfl | go_num), HB2⟩
        case measure => simp [intOf]; omega
    · obtain rfl : n = i := by omega
      go_wp2
      go_ret
      exact ⟨rfl, HB.out⟩
end Go.Proofs.YtoiblfmlahedlaaDoor.As
end
section
namespace Go.Proofs.YtoiblfmlahedlaaDoor.As
open Go.RowKit Go.Proofs.YtoiblfmlahedlaaDoorW.PrintWords Go.Proofs.YtoiblfmlahedlaaDoorW.PrintLast Go.Proofs.YtoiblfmlahedlaaDoorW.PrintMore
set_option linter.unusedVariables false
set_option linter.unusedSimpArgs false
set_option maxRecDepth 100000
theorem stuck1_calls (x : Int) (w : World) :
    Calls Tryd.prog 72 #[.int .i64 x] w fun e w' => e = .returned (.bool (decide (x < 3))) ∧ w' = w := by
  by_cases h : x < 3
  · have e1 : decide (x < 3) = true := decide_eq_true h
    rw [e1]
    go_enter Tryd.func72, Tryd.ntmps72
    go_wp2
    go_ret
    exact ⟨rfl, rfl⟩
  · have e1 : decide (x < 3) = false := decide_eq_false h
    rw [e1]
    go_enter Tryd.func72, Tryd.ntmps72
    go_wp2
    go_ret
    exact ⟨rfl, rfl⟩
theorem next1_calls (x : U) (w : World) :
    Calls Tryd.prog 62 #[.agg #[.int .i64 x.1, .int .i64 x.2.1, .int .i64 x.2.2]] w fun e w' => e = .returned (.bool (x.1 == 0)) ∧ Below w.heap.size w w' := by
  go_enter Tryd.func62, Tryd.ntmps62
  go_upto_region 1 with (fail)
  obtain ⟨w2, hw2⟩ : ∃ w2, w.alloc (.cells #[.int .i64 x.1, .int .i64 x.2.1, .int .i64 x.2.2] 108) = w2 := ⟨_, rfl⟩
  have hn0 : w2.heap[w.heap.size]? = some (.cells #[.int .i64 x.1, .int .i64 x.2.1, .int .i64 x.2.2] 108 (0, 0)) := by rw [← hw2]; exact heap_new _ _
  have HB2 := Aside0.mk (show Below w.heap.size w w2 by rw [← hw2]; exact (Below.refl _ _).alloc (Nat.le_refl _) _)
  have y0 : w2.cell? ⟨w.heap.size, 0, none⟩ = some (.int .i64 x.1) := (cell_of hn0).2 rfl
  rw [hw2]
  clear hw2 hn0
  go_wp2
  go_ret
  exact ⟨rfl, HB2.out⟩
def Fst (P : Nat → Bool) (n : Nat) (r : Int) : Prop := (r = -1 ∧ ∀ i, i < n → P i = false) ∨ ∃ j : Nat, j < n ∧ r = j ∧ P j = true ∧ ∀ i, i < j → P i = false
theorem Dem.below {w w' : World} {g m : Nat} {D : Nat → Int} (h : Dem w g m D) (hb : Below w.heap.size w w') : Dem w' g m D := by
  obtain ⟨cs, h1, h2⟩ := h
  exact ⟨cs, heap_keep h1 hb, h2⟩
theorem Chs.below {w w' : World} {g n : Nat} {S : Nat → U} (h : Chs w g n S) (hb : Below w.heap.size w w') : Chs w' g n S := by
  obtain ⟨cs, h1, h2⟩ := h
  exact ⟨cs, heap_keep h1 hb, h2⟩
set_option maxHeartbeats 1600000 in
theorem idxD_calls {gd m cd : Nat} {D : Nat → Int} (w : World) (h : Dem w gd m D) (hm : m ≤ 64) :
    Calls Tryd.prog 37 #[.slice (some ⟨gd, 0, none⟩) m cd, .func (.func 72) #[] #[]] w fun e w' => ∃ r, e = .returned (.int .i64 r) ∧ Fst (fun i => decide (D i < 3)) m r ∧ w' = w := by
  have HD := Aside0.mk h
  clear h
  go_enter Tryd.func37, Tryd.ntmps37
  go_wp2
  go_loopw [8] (fun v wr => ∃ i : Nat, i ≤ m ∧ v = .int .i64 (i : Int) ∧ Aside0 (∀ q, q < i → decide (D q < 3) = false) ∧ wr = w) (fun v _ => m - (intOf v).toNat)
  case atStart => exact ⟨0, Nat.zero_le _, rfl, ⟨fun q h => by omega⟩, rfl⟩
  case round =>
    obtain ⟨i, hi, rfl, HI, hww⟩ := hrel
    replace hww := hww.symm
    subst hww
    by_cases hlt : i < m
    · have hx := HD.out.cu i hlt
      go_wp2_with fail
      refine (stuck1_calls (D i) _).mono ?_
      rintro e w1 ⟨rfl, hw⟩
      replace hw := hw.symm
      subst hw
      by_cases h3 : D i < 3
      · have e3 : decide (D i < 3) = true := decide_eq_true h3
        have HF := Aside0.mk (show Fst (fun i => decide (D i < 3)) m (i : Int) from Or.inr ⟨i, hlt, rfl, e3, HI.out⟩)
        clear h3
        go_wp2
        go_ret
        exact ⟨_, rfl, HF.out, rfl⟩
      · have e3 : decide (D i < 3) = false := decide_eq_false h3
        have HJ := Aside0.mk (show ∀ q, q < i + 1 → decide (D q < 3) = false from fun q hq => by
          by_cases hqi : q < i
          · exact HI.out q hqi
          · rw [show q = i by omega]; exact e3)
        clear h3
        go_wp2
        go_roundw
        case rel => exact ⟨i + 1, by omega, by first | rfl | go_num, HJ, by first | trivial | rfl⟩
        case measure => simp [intOf]; omega
    · obtain rfl : m = i := by omega
      go_wp2
      go_ret
      exact ⟨_, rfl, Or.inl ⟨rfl, HI.out⟩, rfl⟩
set_option maxHeartbeats 1600000 in
theorem idxC_calls {gc n cc : Nat} {S : Nat → U} (w : World) (h : Chs w gc n S) (hn : n ≤ 100) :
    Calls Tryd.prog 61 #[.slice (some ⟨gc, 0, none⟩) n cc, .func (.func 62) #[] #[]] w fun e w' => ∃ r, e = .returned (.int .i64 r) ∧ Fst (fun i => (S i).1 == 0) n r ∧ Below w.heap.size w w' := by
  have HD := Aside0.mk h
  clear h
  go_enter Tryd.func61, Tryd.ntmps61
  go_wp2
  go_loopw [8] (fun v wr => ∃ i : Nat, i ≤ n ∧ v = .int .i64 (i : Int) ∧ Aside0 (∀ q, q < i → ((S q).1 == 0) = false) ∧ Aside0 (Below w.heap.size w wr)) (fun v _ => n - (intOf v).toNat)
  case atStart => exact ⟨0, Nat.zero_le _, rfl, ⟨fun q h => by omega⟩, ⟨Below.refl _ _⟩⟩
  case round =>
    obtain ⟨i, hi, rfl, HI, HB⟩ := hrel
    by_cases hlt : i < n
    · obtain ⟨hx0, hx1, hx2⟩ := (HD.out.below HB.out).cu i hlt
      go_wp2_with fail
      refine (next1_calls (S i) _).mono ?_
      rintro e w1 ⟨rfl, hb⟩
      have HB1 := Aside0.mk (below_step HB.out hb)
      clear hb hx0 hx1 hx2
      by_cases h3 : (S i).1 = 0
      · have e3 : ((S i).1 == 0) = true := by rw [beq_iff_eq]; exact h3
        have HF := Aside0.mk (show Fst (fun i => (S i).1 == 0) n (i : Int) from Or.inr ⟨i, hlt, rfl, e3, HI.out⟩)
        clear h3
        go_wp2
        go_ret
        exact ⟨_, rfl, HF.out, HB1.out⟩
      · have e3 : ((S i).1 == 0) = false := by rw [beq_eq_false_iff_ne]; exact h3
        have HJ := Aside0.mk (show ∀ q, q < i + 1 → ((S q).1 == 0) = false from fun q hq => by
          by_cases hqi : q < i
          · exact HI.out q hqi
          · rw [show q = i by omega]; exact e3)
        clear h3
        go_wp2
        go_roundw
        case rel => exact ⟨i + 1, by omega, by first | rfl | go_num, HJ, HB1⟩
        case measure => simp [intOf]; omega
    · obtain rfl : n = i := by omega
      go_wp2
      go_ret
      exact ⟨_, rfl, Or.inl ⟨rfl, HI.out⟩, HB.out⟩
def hasD (D : Nat → Int) : Nat → Bool
  | 0 => false
  | m + 1 => hasD D m || decide (D m < 3)
theorem hasD_no {D : Nat → Int} : ∀ {m : Nat}, (∀ i, i < m → decide (D i < 3) = false) → hasD D m = false
  | 0, _ => rfl
  | m + 1, h => by unfold hasD; rw [hasD_no (fun i hi => h i (by omega)), h m (by omega)]; rfl
theorem hasD_yes {D : Nat → Int} : ∀ {m j : Nat}, j < m → decide (D j < 3) = true → hasD D m = true
  | 0, _, h, _ => by omega
  | m + 1, j, h, h1 => by
    unfold hasD
    by_cases hj : j = m
    · subst hj; rw [h1]; simp
    · rw [hasD_yes (m := m) (by omega) h1]; rfl
theorem conD_calls {gd m cd : Nat} {D : Nat → Int} (w : World) (h : Dem w gd m D) (hm : m ≤ 64) :
    Calls Tryd.prog 71 #[.slice (some ⟨gd, 0, none⟩) m cd, .func (.func 72) #[] #[]] w fun e w' => e = .returned (.bool (hasD D m)) ∧ w' = w := by
  have HD := Aside0.mk h
  clear h
  go_enter Tryd.func71, Tryd.ntmps71
  go_wp2_with fail
  refine (idxD_calls w HD.out hm).mono ?_
  rintro e w1 ⟨r, rfl, HF, hw⟩
  replace hw := hw.symm
  subst hw
  rcases HF with ⟨rfl, h⟩ | ⟨j, hj, rfl, h1, h2⟩
  · have HH := Aside0.mk (hasD_no h)
    clear h
    go_wp2
    go_ret
    exact ⟨by rw [HH.out]; rfl, rfl⟩
  · have HH := Aside0.mk (hasD_yes hj h1)
    have e1 : decide ((j : Int) ≥ 0) = true := decide_eq_true (by omega)
    clear h1 h2
    go_wp2
    go_ret
    exact ⟨by rw [HH.out]; rfl, rfl⟩
theorem stuck_zero {p gc gd gm cc cd n m : Nat} {win tm : Int} {S : Nat → U} {D : Nat → Int} (w : World) (h : Pl w p gc gd gm cc cd n m win tm S D) (hl : leftF S n = 0) :
    Calls Tryd.prog 48 #[.pointer (some ⟨p, 0, none⟩)] w fun e w' => e = .returned (.bool false) ∧ Below w.heap.size w w' := by
  have HP := Aside0.mk h
  have HL := Aside0.mk hl
  clear h hl
  go_enter Tryd.func48, Tryd.ntmps48
  go_wp2_with fail
  refine (left_calls w HP.out).mono ?_
  rw [HL.out]
  rintro e w1 ⟨rfl, hb⟩
  have HB := Aside0.mk hb
  clear hb
  go_wp2
  go_ret
  exact ⟨rfl, HB.out⟩
theorem stuck_calls {p gc gd gm cc cd n m : Nat} {win tm : Int} {S : Nat → U} {D : Nat → Int} (w : World) (h : Pl w p gc gd gm cc cd n m win tm S D) (hl : leftF S n ≠ 0) :
    Calls Tryd.prog 48 #[.pointer (some ⟨p, 0, none⟩)] w fun e w' => e = .returned (.bool (!hasD D m)) ∧ Below w.heap.size w w' := by
  have HP := Aside0.mk h
  have hl0 : decide ((leftF S n : Int) > 0) = true := decide_eq_true (by omega)
  have hl1 : decide (leftF S n > 0) = true := decide_eq_true (by omega)
  have hle := leftF_le S n
  have hn := h.n1
  clear h
  go_enter Tryd.func48, Tryd.ntmps48
  go_wp2_with fail
  refine (left_calls w HP.out).mono ?_
  rintro e w1 ⟨rfl, hb⟩
  have hc := (HP.out.below hb).blk.c1
  have HD := Aside0.mk (HP.out.below hb).de
  have hm := HP.out.m1
  have HB := Aside0.mk hb
  clear hb
  go_wp2_with fail
  refine (conD_calls _ HD.out hm).mono ?_
  rintro e w2 ⟨rfl, hw⟩
  replace hw := hw.symm
  subst hw
  go_wp2
  go_ret
  exact ⟨rfl, HB.out⟩
end Go.Proofs.YtoiblfmlahedlaaDoor.As
end
section
namespace Go.Proofs.YtoiblfmlahedlaaDoor.As
open Go.RowKit Go.Proofs.YtoiblfmlahedlaaDoorW.PrintWords Go.Proofs.YtoiblfmlahedlaaDoorW.PrintLast Go.Proofs.YtoiblfmlahedlaaDoorW.PrintMore
set_option linter.unusedVariables false
set_option linter.unusedSimpArgs false
set_option maxRecDepth 100000
theorem isNaN_calls (x : Int) (w : World) : Calls Tryd.prog 101 #[.int .i64 x] w fun e w' => e = .returned (.bool false) ∧ w' = w := by
  go_enter Tryd.func101, Tryd.ntmps101
  go_wp2
  go_ret
  exact ⟨rfl, rfl⟩
def cmpI (a b : Int) : Int := if a < b then -1 else if b < a then 1 else 0
theorem cmp_calls (a b : Int) (w : World) : Calls Tryd.prog 102 #[.int .i64 a, .int .i64 b] w fun e w' => e = .returned (.int .i64 (cmpI a b)) ∧ w' = w := by
  have key : ∀ z : Int, z = cmpI a b → (decide (a < b) = true ∧ z = -1 ∨ decide (a < b) = false ∧ decide (a > b) = true ∧ z = 1 ∨ decide (a < b) = false ∧ decide (a > b) = false ∧ z = 0) := by
    intro z hz
    subst hz
    unfold cmpI
    by_cases h1 : a < b
    · left; exact ⟨decide_eq_true h1, if_pos h1⟩
    · by_cases h2 : b < a
      · right; left; exact ⟨decide_eq_false h1, decide_eq_true h2, by rw [if_neg h1, if_pos h2]⟩
      · right; right; exact ⟨decide_eq_false h1, decide_eq_false h2, by rw [if_neg h1, if_neg h2]⟩
  obtain ⟨z, hz⟩ : ∃ z, z = cmpI a b := ⟨_, rfl⟩
  have hk := key z hz
  rw [← hz]
  clear hz key
  rcases hk with ⟨e1, rfl⟩ | ⟨e1, e2, rfl⟩ | ⟨e1, e2, rfl⟩
  all_goals
    go_enter Tryd.func102, Tryd.ntmps102
    go_wp2_with fail
    refine (isNaN_calls a w).mono ?_
    rintro e w1 ⟨rfl, hw⟩
    replace hw := hw.symm
    subst hw
    go_wp2_with fail
    refine (isNaN_calls b w).mono ?_
    rintro e w1 ⟨rfl, hw⟩
    replace hw := hw.symm
    subst hw
    go_wp2
    go_ret
    exact ⟨rfl, rfl⟩
def T3 (w : World) (g : Nat) (x : U) : Prop := w.heap[g]? = some (.cells #[.int .i64 x.1, .int .i64 x.2.1, .int .i64 x.2.2] 138 (0, 0))
def nth (x : U) : Nat → Int
  | 0 => x.1
  | 1 => x.2.1
  | _ => x.2.2
theorem T3.cu {w : World} {g : Nat} {x : U} (h : T3 w g x) (i : Nat) (hi : i < 3) : w.cell? ⟨g, i, none⟩ = some (.int .i64 (nth x i)) := by
  refine (cell_of h).2 ?_
  rcases i with _ | _ | _ | i
  · rfl
  · rfl
  · rfl
  · omega
def cmp3 (x y : U) : Int := if cmpI x.1 y.1 ≠ 0 then cmpI x.1 y.1 else if cmpI x.2.1 y.2.1 ≠ 0 then cmpI x.2.1 y.2.1 else cmpI x.2.2 y.2.2
theorem cmp3_at {x y : U} {i : Nat} (hi : i < 3) (h0 : ∀ q, q < i → cmpI (nth x q) (nth y q) = 0) (h1 : cmpI (nth x i) (nth y i) ≠ 0) : cmp3 x y = cmpI (nth x i) (nth y i) := by
  unfold cmp3
  rcases i with _ | _ | _ | i
  · exact if_pos h1
  · have a0 := h0 0 (by omega)
    rw [if_neg (fun h => h a0)]; exact if_pos h1
  · have a0 := h0 0 (by omega)
    have a1 := h0 1 (by omega)
    rw [if_neg (fun h => h a0), if_neg (fun h => h a1)]; rfl
  · omega
theorem cmp3_eq {x y : U} (h0 : ∀ q, q < 3 → cmpI (nth x q) (nth y q) = 0) : cmp3 x y = 0 := by
  have a0 := h0 0 (by omega)
  have a1 := h0 1 (by omega)
  have a2 := h0 2 (by omega)
  unfold cmp3
  rw [if_neg (fun h => h a0), if_neg (fun h => h a1)]; exact a2
set_option maxHeartbeats 1600000 in
theorem compare_calls (ga gb : Nat) (x y : U) (w : World) (hx : T3 w ga x) (hy : T3 w gb y) :
    Calls Tryd.prog 91 #[.slice (some ⟨ga, 0, none⟩) 3 3, .slice (some ⟨gb, 0, none⟩) 3 3] w fun e w' => e = .returned (.int .i64 (cmp3 x y)) ∧ w' = w := by
  have HX := Aside0.mk hx
  have HY := Aside0.mk hy
  clear hx hy
  go_enter Tryd.func91, Tryd.ntmps91
  go_wp2
  go_loopw [11] (fun v wr => ∃ i : Nat, i ≤ 3 ∧ v = .int .i64 (i : Int) ∧ Aside0 (∀ q, q < i → cmpI (nth x q) (nth y q) = 0) ∧ wr = w) (fun v _ => 3 - (intOf v).toNat)
  case atStart => exact ⟨0, by omega, rfl, ⟨fun q h => by omega⟩, rfl⟩
  case round =>
    obtain ⟨i, hi, rfl, HI, hww⟩ := hrel
    replace hww := hww.symm
    subst hww
    by_cases hlt : i < 3
    · have hx := HX.out.cu i hlt
      have hy := HY.out.cu i hlt
      have e1 : decide ((i : Int) < 3) = true := decide_eq_true (by omega)
      have e2 : decide ((i : Int) ≥ 3) = false := decide_eq_false (by omega)
      have e3 : decide (3 ≤ i) = false := decide_eq_false (by omega)
      go_wp2_with fail
      refine (cmp_calls (nth x i) (nth y i) _).mono ?_
      rintro e w1 ⟨rfl, hw⟩
      replace hw := hw.symm
      subst hw
      by_cases h3 : cmpI (nth x i) (nth y i) = 0
      · have HJ := Aside0.mk (show ∀ q, q < i + 1 → cmpI (nth x q) (nth y q) = 0 from fun q hq => by
          by_cases hqi : q < i
          · exact HI.out q hqi
          · rw [show q = i by omega]; exact h3)
        rw [h3]
        clear h3
        go_wp2
        go_roundw
        case rel => exact ⟨i + 1, by omega, by first | rfl | go_num, HJ, by first | trivial | rfl⟩
        case measure => simp [intOf]; omega
      · have HR := Aside0.mk (cmp3_at hlt HI.out h3)
        have e4 : (cmpI (nth x i) (nth y i) != 0) = true := by simp [h3]
        have e5 : (cmpI (nth x i) (nth y i) == 0) = false := by simp [h3]
        clear h3
        generalize cmpI (nth x i) (nth y i) = z at HR e4 e5 ⊢
        go_wp2
        go_ret
        exact ⟨by rw [HR.out]; rfl, rfl⟩
    · obtain rfl : i = 3 := by omega
      have HR := Aside0.mk (cmp3_eq HI.out)
      go_wp2
      go_ret
      exact ⟨by rw [HR.out]; rfl, rfl⟩
end Go.Proofs.YtoiblfmlahedlaaDoor.As
end
section
namespace Go.Proofs.YtoiblfmlahedlaaDoor.As
open Go.RowKit Go.Proofs.YtoiblfmlahedlaaDoorW.PrintWords Go.Proofs.YtoiblfmlahedlaaDoorW.PrintLast Go.Proofs.YtoiblfmlahedlaaDoorW.PrintMore
set_option linter.unusedVariables false
set_option linter.unusedSimpArgs false
set_option maxRecDepth 100000
def lateF (now tm : Int) (S : Nat → U) (D : Nat → Int) : Nat → (Nat → U) × (Nat → Int)
  | 0 => (S, D)
  | i + 1 => if (S i).1 = 1 ∧ (S i).2.2 ≤ now ∧ tm ≤ now - (S i).2.2 then (upd (lateF now tm S D i).1 i (0, 0, 0), updD (lateF now tm S D i).2 (S i).2.1.toNat ((lateF now tm S D i).2 (S i).2.1.toNat + 1)) else lateF now tm S D i
theorem lateF_at (now tm : Int) (S : Nat → U) (D : Nat → Int) : ∀ i j, i ≤ j → (lateF now tm S D i).1 j = S j
  | 0, _, _ => rfl
  | i + 1, j, h => by
    unfold lateF
    split
    · show upd _ i _ j = _
      rw [upd_other _ _ _ _ (by omega)]
      exact lateF_at now tm S D i j (by omega)
    · exact lateF_at now tm S D i j (by omega)
def Good (n m : Nat) (S : Nat → U) (D : Nat → Int) (B : Int) : Prop := (∀ i, i < n → (S i).1 = 1 → (0 ≤ (S i).2.1 ∧ (S i).2.1 < m) ∧ -9223372036854775808 ≤ (S i).2.2 ∧ (S i).2.2 ≤ 9223372036854775807) ∧ ∀ k, 0 ≤ D k ∧ D k ≤ B
theorem lateF_D {n m : Nat} {S : Nat → U} {D : Nat → Int} {B : Int} (h : Good n m S D B) (now tm : Int) : ∀ i k, 0 ≤ (lateF now tm S D i).2 k ∧ (lateF now tm S D i).2 k ≤ B + i
  | 0, k => by have := h.2 k; exact ⟨this.1, by show D k ≤ _; omega⟩
  | i + 1, k => by
    have h1 := lateF_D h now tm i k
    unfold lateF
    split
    · show 0 ≤ updD _ _ _ k ∧ updD _ _ _ k ≤ _
      by_cases e : k = (S i).2.1.toNat
      · subst e
        rw [updD_same]
        omega
      · rw [updD_other _ _ _ _ e]
        omega
    · omega
def lat_T4 : Bool × List (List Nat × List Nat) := (true, [([], []), ([0], [0]), ([1], [1]), ([2], [2]), ([3], [3]), ([4], [4]), ([5], [5]), ([5], [5]), ([7, 5], [5, 7]), ([8, 5], [5, 8]), ([9, 5], [5, 9]), ([6, 10, 5], [5, 6, 10]), ([5, 11], [5, 11]), ([12, 5], [12]), ([13], [13]), ([14, 13], [13, 14]), ([13], [13]), ([16, 13], [13, 16]), ([17, 13], [13, 17]), ([18, 13], [13, 18]), ([19, 13], [13, 19]), ([15, 20, 13], [13, 15, 20]), ([13], [13]), ([22, 13], [13, 22]), ([23, 13], [13, 23]), ([24, 13], [13, 24]), ([25, 13], [13, 25]), ([21, 26, 13], [13, 21, 26]), ([13, 27], [13, 27])])
def lat_B4 : List Nat := [0, 1, 3, 7, 15, 31, 63, 63, 191, 447, 959, 2047, 4095, 8191, 16383, 32767, 16383, 81919, 212991, 475135, 999423, 2097151, 16383, 4210687, 12599295, 29376511, 62930943, 134217727, 268435455]
theorem lat_tab4 : rtab .any (opsOf Tryd.f60 4) = lat_T4 := by kernel_rfl
theorem lat_bits4 : waitsOk lat_T4.2 lat_B4 = true := by kernel_rfl
def lat_T5 : Bool × List (List Nat × List Nat) := (true, [([], []), ([0], [0]), ([1], [1]), ([2], [2]), ([], []), ([4], [4]), ([5], [5]), ([6], [6]), ([3, 7], [3, 7]), ([8], [8]), ([9], [9]), ([3, 7, 0, 1, 2, 3, 4, 5, 6, 7, 8, 9, 10], [3, 7]), ([11, 10, 0, 1, 2, 3, 4, 5, 6, 7, 8, 9, 10], [10, 11])])
def lat_B5 : List Nat := [0, 1, 3, 7, 0, 16, 48, 112, 255, 511, 1023, 2047, 4095]
theorem lat_tab5 : rtab .any (opsOf Tryd.f60 5) = lat_T5 := by kernel_rfl
theorem lat_bits5 : waitsOk lat_T5.2 lat_B5 = true := by kernel_rfl
set_option maxHeartbeats 3200000 in
set_option maxRecDepth 100000 in
theorem late_calls {p gc gd gm cc cd n m : Nat} {win tm : Int} {S : Nat → U} {D : Nat → Int} {B : Int} (now : Int) (w : World) (h : Pl w p gc gd gm cc cd n m win tm S D) (hg : Good n m S D B) (hB : B ≤ 1000000000) (hnow : -9223372036854775808 ≤ now ∧ now ≤ 9223372036854775807) (htm : 1 ≤ tm ∧ tm ≤ 1000000) :
    Calls Tryd.prog 60 #[.pointer (some ⟨p, 0, none⟩), .int .i64 now] w fun e w' => (∃ v, e = .returned v) ∧ Pl w' p gc gd gm cc cd n m win tm (lateF now tm S D n).1 (lateF now tm S D n).2 ∧ Chg gc gd gd w w' := by
  have HP := Aside0.mk h
  have HG := Aside0.mk hg
  have HN := Aside0.mk hnow
  have HT := Aside0.mk htm
  have HBB := Aside0.mk hB
  have hn := h.n1
  have hc := h.blk.c0
  clear h hg hnow htm hB
  go_enter Tryd.func60, Tryd.ntmps60
  go_wp2
  go_loopw [11] (fun v wr => ∃ i : Nat, i ≤ n ∧ v = .int .i64 (i : Int) ∧ Aside0 (Pl wr p gc gd gm cc cd n m win tm (lateF now tm S D i).1 (lateF now tm S D i).2) ∧ Aside0 (Chg gc gd gd w wr)) (fun v _ => n - (intOf v).toNat)
  case atStart => exact ⟨0, Nat.zero_le _, rfl, HP, ⟨Chg.of_below (Below.refl _ _)⟩⟩
  case round =>
    obtain ⟨i, hi, rfl, HPW, HC⟩ := hrel
    by_cases hlt : i < n
    · have hcw := HPW.out.blk.c0
      have HA := Aside0.mk (lateF_at now tm S D i i (Nat.le_refl _))
      have HD := Aside0.mk (lateF_D HG.out now tm i)
      have HNX := Aside0.mk (show lateF now tm S D (i + 1) = if (S i).1 = 1 ∧ (S i).2.2 ≤ now ∧ tm ≤ now - (S i).2.2 then (upd (lateF now tm S D i).1 i (0, 0, 0), updD (lateF now tm S D i).2 (S i).2.1.toNat ((lateF now tm S D i).2 (S i).2.1.toNat + 1)) else lateF now tm S D i from rfl)
      have HGI := Aside0.mk (HG.out.1 i hlt)
      generalize S i = x at HA HNX HGI
      go_upto_region 4 with (fail)
      have hS0 : Below wr.heap.size wr wr.drew := below_drew1 (Below.refl _ _)
      by_cases h1 : x.1 = 1
      case neg =>
        have e1 : (((lateF now tm S D i).1 i).1 == 1) = false := by rw [HA.out, beq_eq_false_iff_ne]; exact h1
        replace HNX := Aside0.mk (HNX.out.trans (if_neg (fun h => h1 h.1)))
        clear h1
        refine start_ (n := 29) (S := fun w' => Below wr.heap.size wr w') (ds := []) #[false, false, false, false, false, false, false, false, false, false, false, false, false, false, false, false, false, false, false, false, false, false, false, false, false, false, false, false, false] (by kernel_rfl) rfl rfl (by exact hS0) (fun hHeld => ?_)
        refine with_tabW lat_tab4 lat_bits4 (fun HT_ HW_ => ?_)
        generalize wr.drew = wd at hHeld hS0 ⊢
        refine pure_ (i := 0) (N := some 20) (v := ?_) (a' := ?_) #[true, false, false, false, false, false, false, false, false, false, false, false, false, false, false, false, false, false, false, false, false, false, false, false, false, false, false, false, false] rfl rfl (any_of HT_.out (by kernel_rfl)) (fun _ _ _ h => h) (Or.inl ⟨by rfl, ?_⟩) ?_ ?_
        rotate_left
        · intro w'
          go_simp
          with_reducible rfl
        rotate_left
        · simp only [Act.put, List.setIfInBounds_toArray, List.set_cons_zero, List.set_cons_succ, i64_w, i32_w]
          rfl
        refine pure_ (i := 1) (N := some 21) (v := ?_) (a' := ?_) #[true, true, false, false, false, false, false, false, false, false, false, false, false, false, false, false, false, false, false, false, false, false, false, false, false, false, false, false, false] rfl rfl (any_of HT_.out (by kernel_rfl)) (fun _ _ _ h => h) (Or.inl ⟨by rfl, ?_⟩) ?_ ?_
        rotate_left
        · intro w'
          go_simp
          with_reducible rfl
        rotate_left
        · simp only [Act.put, List.setIfInBounds_toArray, List.set_cons_zero, List.set_cons_succ, i64_w, i32_w]
          rfl
        refine pure_ (i := 2) (N := some 22) (v := ?_) (a' := ?_) #[true, true, true, false, false, false, false, false, false, false, false, false, false, false, false, false, false, false, false, false, false, false, false, false, false, false, false, false, false] rfl rfl (any_of HT_.out (by kernel_rfl)) (fun _ _ _ h => h) (Or.inl ⟨by rfl, ?_⟩) ?_ ?_
        rotate_left
        · intro w'
          go_simp
          with_reducible rfl
        rotate_left
        · simp only [Act.put, List.setIfInBounds_toArray, List.set_cons_zero, List.set_cons_succ, i64_w, i32_w]
          rfl
        refine take_ (i := 3) (N := some 23) (v := ?_) (a' := ?_) #[true, true, true, true, false, false, false, false, false, false, false, false, false, false, false, false, false, false, false, false, false, false, false, false, false, false, false, false, false] rfl rfl (take_ofW HT_.out HW_.out (by kernel_rfl)) (fun _ _ _ h => h) (Or.inl ⟨by rfl, ?_⟩) hHeld ?_ ?_
        rotate_left
        · intro w' hSt
          have hx0 := ((HPW.out.below hSt).ch.cu i hlt).1
          go_simp
          with_reducible rfl
        rotate_left
        · simp only [Act.put, List.setIfInBounds_toArray, List.set_cons_zero, List.set_cons_succ, i64_w, i32_w]
          rfl
        refine pure_ (i := 4) (N := some 24) (v := ?_) (a' := ?_) #[true, true, true, true, true, false, false, false, false, false, false, false, false, false, false, false, false, false, false, false, false, false, false, false, false, false, false, false, false] rfl rfl (any_of HT_.out (by kernel_rfl)) (fun _ _ _ h => h) (Or.inl ⟨by rfl, ?_⟩) ?_ ?_
        rotate_left
        · intro w'
          go_simp
          with_reducible rfl
        rotate_left
        · simp only [Act.put, List.setIfInBounds_toArray, List.set_cons_zero, List.set_cons_succ, i64_w, i32_w]
          rfl
        refine pure_ (i := 5) (N := some 25) (v := ?_) (a' := ?_) #[true, true, true, true, true, true, false, false, false, false, false, false, false, false, false, false, false, false, false, false, false, false, false, false, false, false, false, false, false] rfl rfl (any_of HT_.out (by kernel_rfl)) (fun _ _ _ h => h) (Or.inl ⟨by rfl, ?_⟩) ?_ ?_
        rotate_left
        · intro w'
          go_simp
          with_reducible rfl
        rotate_left
        · simp only [Act.put, List.setIfInBounds_toArray, List.set_cons_zero, List.set_cons_succ, i64_w, i32_w]
          rfl
        refine pure_ (i := 6) (N := some 26) (v := undef) (a' := ?_) #[true, true, true, true, true, true, true, false, false, false, false, false, false, false, false, false, false, false, false, false, false, false, false, false, false, false, false, false, false] rfl rfl (any_of HT_.out (by kernel_rfl)) (fun _ _ _ h => h) (Or.inr ⟨by rfl, rfl⟩) ?_ ?_
        rotate_left
        · simp only [Act.put, List.setIfInBounds_toArray, List.set_cons_zero, List.set_cons_succ, i64_w, i32_w]
          rfl
        refine pure_ (i := 7) (N := some 27) (v := undef) (a' := ?_) #[true, true, true, true, true, true, true, true, false, false, false, false, false, false, false, false, false, false, false, false, false, false, false, false, false, false, false, false, false] rfl rfl (any_of HT_.out (by kernel_rfl)) (fun _ _ _ h => h) (Or.inr ⟨by rfl, rfl⟩) ?_ ?_
        rotate_left
        · simp only [Act.put, List.setIfInBounds_toArray, List.set_cons_zero, List.set_cons_succ, i64_w, i32_w]
          rfl
        refine pure_ (i := 8) (N := some 28) (v := undef) (a' := ?_) #[true, true, true, true, true, true, true, true, true, false, false, false, false, false, false, false, false, false, false, false, false, false, false, false, false, false, false, false, false] rfl rfl (any_of HT_.out (by kernel_rfl)) (fun _ _ _ h => h) (Or.inr ⟨by rfl, rfl⟩) ?_ ?_
        rotate_left
        · simp only [Act.put, List.setIfInBounds_toArray, List.set_cons_zero, List.set_cons_succ, i64_w, i32_w]
          rfl
        refine pure_ (i := 9) (N := some 29) (v := undef) (a' := ?_) #[true, true, true, true, true, true, true, true, true, true, false, false, false, false, false, false, false, false, false, false, false, false, false, false, false, false, false, false, false] rfl rfl (any_of HT_.out (by kernel_rfl)) (fun _ _ _ h => h) (Or.inr ⟨by rfl, rfl⟩) ?_ ?_
        rotate_left
        · simp only [Act.put, List.setIfInBounds_toArray, List.set_cons_zero, List.set_cons_succ, i64_w, i32_w]
          rfl
        refine pure_ (i := 10) (N := some 30) (v := undef) (a' := ?_) #[true, true, true, true, true, true, true, true, true, true, true, false, false, false, false, false, false, false, false, false, false, false, false, false, false, false, false, false, false] rfl rfl (any_of HT_.out (by kernel_rfl)) (fun _ _ _ h => h) (Or.inr ⟨by rfl, rfl⟩) ?_ ?_
        rotate_left
        · simp only [Act.put, List.setIfInBounds_toArray, List.set_cons_zero, List.set_cons_succ, i64_w, i32_w]
          rfl
        refine pure_ (i := 11) (N := some 31) (v := undef) (a' := ?_) #[true, true, true, true, true, true, true, true, true, true, true, true, false, false, false, false, false, false, false, false, false, false, false, false, false, false, false, false, false] rfl rfl (any_of HT_.out (by kernel_rfl)) (fun _ _ _ h => h) (Or.inr ⟨by rfl, rfl⟩) ?_ ?_
        rotate_left
        · simp only [Act.put, List.setIfInBounds_toArray, List.set_cons_zero, List.set_cons_succ, i64_w, i32_w]
          rfl
        refine pure_ (i := 12) (N := some 32) (v := ?_) (a' := ?_) #[true, true, true, true, true, true, true, true, true, true, true, true, true, false, false, false, false, false, false, false, false, false, false, false, false, false, false, false, false] rfl rfl (any_of HT_.out (by kernel_rfl)) (fun _ _ _ h => h) (Or.inl ⟨by rfl, ?_⟩) ?_ ?_
        rotate_left
        · intro w'
          go_simp
          with_reducible rfl
        rotate_left
        · simp only [Act.put, List.setIfInBounds_toArray, List.set_cons_zero, List.set_cons_succ, i64_w, i32_w]
          rfl
        refine pure_ (i := 13) (N := some 33) (v := ?_) (a' := ?_) #[true, true, true, true, true, true, true, true, true, true, true, true, true, true, false, false, false, false, false, false, false, false, false, false, false, false, false, false, false] rfl rfl (any_of HT_.out (by kernel_rfl)) (fun _ _ _ h => h) (Or.inl ⟨by rfl, ?_⟩) ?_ ?_
        rotate_left
        · intro w'
          go_simp
          with_reducible rfl
        rotate_left
        · simp only [Act.put, List.setIfInBounds_toArray, List.set_cons_zero, List.set_cons_succ, i64_w, i32_w]
          rfl
        refine pure_ (i := 14) (N := some 34) (v := undef) (a' := ?_) #[true, true, true, true, true, true, true, true, true, true, true, true, true, true, true, false, false, false, false, false, false, false, false, false, false, false, false, false, false] rfl rfl (any_of HT_.out (by kernel_rfl)) (fun _ _ _ h => h) (Or.inr ⟨by rfl, rfl⟩) ?_ ?_
        rotate_left
        · simp only [Act.put, List.setIfInBounds_toArray, List.set_cons_zero, List.set_cons_succ, i64_w, i32_w]
          rfl
        refine pure_ (i := 15) (N := some 35) (v := undef) (a' := ?_) #[true, true, true, true, true, true, true, true, true, true, true, true, true, true, true, true, false, false, false, false, false, false, false, false, false, false, false, false, false] rfl rfl (any_of HT_.out (by kernel_rfl)) (fun _ _ _ h => h) (Or.inr ⟨by rfl, rfl⟩) ?_ ?_
        rotate_left
        · simp only [Act.put, List.setIfInBounds_toArray, List.set_cons_zero, List.set_cons_succ, i64_w, i32_w]
          rfl
        refine pure_ (i := 16) (N := some 36) (v := undef) (a' := ?_) #[true, true, true, true, true, true, true, true, true, true, true, true, true, true, true, true, true, false, false, false, false, false, false, false, false, false, false, false, false] rfl rfl (any_of HT_.out (by kernel_rfl)) (fun _ _ _ h => h) (Or.inr ⟨by rfl, rfl⟩) ?_ ?_
        rotate_left
        · simp only [Act.put, List.setIfInBounds_toArray, List.set_cons_zero, List.set_cons_succ, i64_w, i32_w]
          rfl
        refine pure_ (i := 17) (N := some 37) (v := undef) (a' := ?_) #[true, true, true, true, true, true, true, true, true, true, true, true, true, true, true, true, true, true, false, false, false, false, false, false, false, false, false, false, false] rfl rfl (any_of HT_.out (by kernel_rfl)) (fun _ _ _ h => h) (Or.inr ⟨by rfl, rfl⟩) ?_ ?_
        rotate_left
        · simp only [Act.put, List.setIfInBounds_toArray, List.set_cons_zero, List.set_cons_succ, i64_w, i32_w]
          rfl
        refine pure_ (i := 18) (N := some 38) (v := undef) (a' := ?_) #[true, true, true, true, true, true, true, true, true, true, true, true, true, true, true, true, true, true, true, false, false, false, false, false, false, false, false, false, false] rfl rfl (any_of HT_.out (by kernel_rfl)) (fun _ _ _ h => h) (Or.inr ⟨by rfl, rfl⟩) ?_ ?_
        rotate_left
        · simp only [Act.put, List.setIfInBounds_toArray, List.set_cons_zero, List.set_cons_succ, i64_w, i32_w]
          rfl
        refine pure_ (i := 19) (N := some 39) (v := undef) (a' := ?_) #[true, true, true, true, true, true, true, true, true, true, true, true, true, true, true, true, true, true, true, true, false, false, false, false, false, false, false, false, false] rfl rfl (any_of HT_.out (by kernel_rfl)) (fun _ _ _ h => h) (Or.inr ⟨by rfl, rfl⟩) ?_ ?_
        rotate_left
        · simp only [Act.put, List.setIfInBounds_toArray, List.set_cons_zero, List.set_cons_succ, i64_w, i32_w]
          rfl
        refine pure_ (i := 20) (N := some 40) (v := undef) (a' := ?_) #[true, true, true, true, true, true, true, true, true, true, true, true, true, true, true, true, true, true, true, true, true, false, false, false, false, false, false, false, false] rfl rfl (any_of HT_.out (by kernel_rfl)) (fun _ _ _ h => h) (Or.inr ⟨by rfl, rfl⟩) ?_ ?_
        rotate_left
        · simp only [Act.put, List.setIfInBounds_toArray, List.set_cons_zero, List.set_cons_succ, i64_w, i32_w]
          rfl
        refine pure_ (i := 21) (N := some 41) (v := undef) (a' := ?_) #[true, true, true, true, true, true, true, true, true, true, true, true, true, true, true, true, true, true, true, true, true, true, false, false, false, false, false, false, false] rfl rfl (any_of HT_.out (by kernel_rfl)) (fun _ _ _ h => h) (Or.inr ⟨by rfl, rfl⟩) ?_ ?_
        rotate_left
        · simp only [Act.put, List.setIfInBounds_toArray, List.set_cons_zero, List.set_cons_succ, i64_w, i32_w]
          rfl
        refine pure_ (i := 22) (N := some 42) (v := undef) (a' := ?_) #[true, true, true, true, true, true, true, true, true, true, true, true, true, true, true, true, true, true, true, true, true, true, true, false, false, false, false, false, false] rfl rfl (any_of HT_.out (by kernel_rfl)) (fun _ _ _ h => h) (Or.inr ⟨by rfl, rfl⟩) ?_ ?_
        rotate_left
        · simp only [Act.put, List.setIfInBounds_toArray, List.set_cons_zero, List.set_cons_succ, i64_w, i32_w]
          rfl
        refine pure_ (i := 23) (N := some 43) (v := undef) (a' := ?_) #[true, true, true, true, true, true, true, true, true, true, true, true, true, true, true, true, true, true, true, true, true, true, true, true, false, false, false, false, false] rfl rfl (any_of HT_.out (by kernel_rfl)) (fun _ _ _ h => h) (Or.inr ⟨by rfl, rfl⟩) ?_ ?_
        rotate_left
        · simp only [Act.put, List.setIfInBounds_toArray, List.set_cons_zero, List.set_cons_succ, i64_w, i32_w]
          rfl
        refine pure_ (i := 24) (N := some 44) (v := undef) (a' := ?_) #[true, true, true, true, true, true, true, true, true, true, true, true, true, true, true, true, true, true, true, true, true, true, true, true, true, false, false, false, false] rfl rfl (any_of HT_.out (by kernel_rfl)) (fun _ _ _ h => h) (Or.inr ⟨by rfl, rfl⟩) ?_ ?_
        rotate_left
        · simp only [Act.put, List.setIfInBounds_toArray, List.set_cons_zero, List.set_cons_succ, i64_w, i32_w]
          rfl
        refine pure_ (i := 25) (N := some 45) (v := undef) (a' := ?_) #[true, true, true, true, true, true, true, true, true, true, true, true, true, true, true, true, true, true, true, true, true, true, true, true, true, true, false, false, false] rfl rfl (any_of HT_.out (by kernel_rfl)) (fun _ _ _ h => h) (Or.inr ⟨by rfl, rfl⟩) ?_ ?_
        rotate_left
        · simp only [Act.put, List.setIfInBounds_toArray, List.set_cons_zero, List.set_cons_succ, i64_w, i32_w]
          rfl
        refine pure_ (i := 26) (N := some 46) (v := undef) (a' := ?_) #[true, true, true, true, true, true, true, true, true, true, true, true, true, true, true, true, true, true, true, true, true, true, true, true, true, true, true, false, false] rfl rfl (any_of HT_.out (by kernel_rfl)) (fun _ _ _ h => h) (Or.inr ⟨by rfl, rfl⟩) ?_ ?_
        rotate_left
        · simp only [Act.put, List.setIfInBounds_toArray, List.set_cons_zero, List.set_cons_succ, i64_w, i32_w]
          rfl
        refine pure_ (i := 27) (N := some 47) (v := undef) (a' := ?_) #[true, true, true, true, true, true, true, true, true, true, true, true, true, true, true, true, true, true, true, true, true, true, true, true, true, true, true, true, false] rfl rfl (any_of HT_.out (by kernel_rfl)) (fun _ _ _ h => h) (Or.inr ⟨by rfl, rfl⟩) ?_ ?_
        rotate_left
        · simp only [Act.put, List.setIfInBounds_toArray, List.set_cons_zero, List.set_cons_succ, i64_w, i32_w]
          rfl
        refine pure_ (i := 28) (N := some 48) (v := ?_) (a' := ?_) #[true, true, true, true, true, true, true, true, true, true, true, true, true, true, true, true, true, true, true, true, true, true, true, true, true, true, true, true, true] rfl rfl (any_of HT_.out (by kernel_rfl)) (fun _ _ _ h => h) (Or.inl ⟨by rfl, ?_⟩) ?_ ?_
        rotate_left
        · intro w'
          go_simp
          with_reducible rfl
        rotate_left
        · simp only [Act.put, List.setIfInBounds_toArray, List.set_cons_zero, List.set_cons_succ, i64_w, i32_w]
          rfl
        refine done_ (done_of HT_.out (by kernel_rfl)) ?_
        have HPX := Aside0.mk (HPW.out.below hHeld)
        have HCX := Aside0.mk (HC.out.trans (Chg.of_below hHeld))
        clear hS0 hHeld HT_ HW_ HPW HC
        go_wp2
        go_roundw
        case rel => exact ⟨i + 1, by omega, by first | rfl | go_num, by rw [HNX.out]; exact HPX, HCX⟩
        case measure => simp [intOf]; omega
      have e1 : (((lateF now tm S D i).1 i).1 == 1) = true := by rw [HA.out, beq_iff_eq]; exact h1
      by_cases h2 : x.2.2 ≤ now
      case neg =>
        have e2 : decide (now ≥ ((lateF now tm S D i).1 i).2.2) = false := by rw [HA.out]; exact decide_eq_false h2
        replace HNX := Aside0.mk (HNX.out.trans (if_neg (fun h => h2 h.2.1)))
        clear h1 h2
        refine start_ (n := 29) (S := fun w' => Below wr.heap.size wr w') (ds := []) #[false, false, false, false, false, false, false, false, false, false, false, false, false, false, false, false, false, false, false, false, false, false, false, false, false, false, false, false, false] (by kernel_rfl) rfl rfl (by exact hS0) (fun hHeld => ?_)
        refine with_tabW lat_tab4 lat_bits4 (fun HT_ HW_ => ?_)
        generalize wr.drew = wd at hHeld hS0 ⊢
        refine pure_ (i := 0) (N := some 20) (v := ?_) (a' := ?_) #[true, false, false, false, false, false, false, false, false, false, false, false, false, false, false, false, false, false, false, false, false, false, false, false, false, false, false, false, false] rfl rfl (any_of HT_.out (by kernel_rfl)) (fun _ _ _ h => h) (Or.inl ⟨by rfl, ?_⟩) ?_ ?_
        rotate_left
        · intro w'
          go_simp
          with_reducible rfl
        rotate_left
        · simp only [Act.put, List.setIfInBounds_toArray, List.set_cons_zero, List.set_cons_succ, i64_w, i32_w]
          rfl
        refine pure_ (i := 1) (N := some 21) (v := ?_) (a' := ?_) #[true, true, false, false, false, false, false, false, false, false, false, false, false, false, false, false, false, false, false, false, false, false, false, false, false, false, false, false, false] rfl rfl (any_of HT_.out (by kernel_rfl)) (fun _ _ _ h => h) (Or.inl ⟨by rfl, ?_⟩) ?_ ?_
        rotate_left
        · intro w'
          go_simp
          with_reducible rfl
        rotate_left
        · simp only [Act.put, List.setIfInBounds_toArray, List.set_cons_zero, List.set_cons_succ, i64_w, i32_w]
          rfl
        refine pure_ (i := 2) (N := some 22) (v := ?_) (a' := ?_) #[true, true, true, false, false, false, false, false, false, false, false, false, false, false, false, false, false, false, false, false, false, false, false, false, false, false, false, false, false] rfl rfl (any_of HT_.out (by kernel_rfl)) (fun _ _ _ h => h) (Or.inl ⟨by rfl, ?_⟩) ?_ ?_
        rotate_left
        · intro w'
          go_simp
          with_reducible rfl
        rotate_left
        · simp only [Act.put, List.setIfInBounds_toArray, List.set_cons_zero, List.set_cons_succ, i64_w, i32_w]
          rfl
        refine take_ (i := 3) (N := some 23) (v := ?_) (a' := ?_) #[true, true, true, true, false, false, false, false, false, false, false, false, false, false, false, false, false, false, false, false, false, false, false, false, false, false, false, false, false] rfl rfl (take_ofW HT_.out HW_.out (by kernel_rfl)) (fun _ _ _ h => h) (Or.inl ⟨by rfl, ?_⟩) hHeld ?_ ?_
        rotate_left
        · intro w' hSt
          have hx0 := ((HPW.out.below hSt).ch.cu i hlt).1
          go_simp
          with_reducible rfl
        rotate_left
        · simp only [Act.put, List.setIfInBounds_toArray, List.set_cons_zero, List.set_cons_succ, i64_w, i32_w]
          rfl
        refine pure_ (i := 4) (N := some 24) (v := ?_) (a' := ?_) #[true, true, true, true, true, false, false, false, false, false, false, false, false, false, false, false, false, false, false, false, false, false, false, false, false, false, false, false, false] rfl rfl (any_of HT_.out (by kernel_rfl)) (fun _ _ _ h => h) (Or.inl ⟨by rfl, ?_⟩) ?_ ?_
        rotate_left
        · intro w'
          go_simp
          with_reducible rfl
        rotate_left
        · simp only [Act.put, List.setIfInBounds_toArray, List.set_cons_zero, List.set_cons_succ, i64_w, i32_w]
          rfl
        refine pure_ (i := 5) (N := some 25) (v := ?_) (a' := ?_) #[true, true, true, true, true, true, false, false, false, false, false, false, false, false, false, false, false, false, false, false, false, false, false, false, false, false, false, false, false] rfl rfl (any_of HT_.out (by kernel_rfl)) (fun _ _ _ h => h) (Or.inl ⟨by rfl, ?_⟩) ?_ ?_
        rotate_left
        · intro w'
          go_simp
          with_reducible rfl
        rotate_left
        · simp only [Act.put, List.setIfInBounds_toArray, List.set_cons_zero, List.set_cons_succ, i64_w, i32_w]
          rfl
        refine pure_ (i := 6) (N := some 26) (v := ?_) (a' := ?_) #[true, true, true, true, true, true, true, false, false, false, false, false, false, false, false, false, false, false, false, false, false, false, false, false, false, false, false, false, false] rfl rfl (any_of HT_.out (by kernel_rfl)) (fun _ _ _ h => h) (Or.inl ⟨by rfl, ?_⟩) ?_ ?_
        rotate_left
        · intro w'
          go_simp
          with_reducible rfl
        rotate_left
        · simp only [Act.put, List.setIfInBounds_toArray, List.set_cons_zero, List.set_cons_succ, i64_w, i32_w]
          rfl
        refine pure_ (i := 7) (N := some 27) (v := ?_) (a' := ?_) #[true, true, true, true, true, true, true, true, false, false, false, false, false, false, false, false, false, false, false, false, false, false, false, false, false, false, false, false, false] rfl rfl (any_of HT_.out (by kernel_rfl)) (fun _ _ _ h => h) (Or.inl ⟨by rfl, ?_⟩) ?_ ?_
        rotate_left
        · intro w'
          go_simp
          with_reducible rfl
        rotate_left
        · simp only [Act.put, List.setIfInBounds_toArray, List.set_cons_zero, List.set_cons_succ, i64_w, i32_w]
          rfl
        refine pure_ (i := 8) (N := some 28) (v := ?_) (a' := ?_) #[true, true, true, true, true, true, true, true, true, false, false, false, false, false, false, false, false, false, false, false, false, false, false, false, false, false, false, false, false] rfl rfl (any_of HT_.out (by kernel_rfl)) (fun _ _ _ h => h) (Or.inl ⟨by rfl, ?_⟩) ?_ ?_
        rotate_left
        · intro w'
          go_simp
          with_reducible rfl
        rotate_left
        · simp only [Act.put, List.setIfInBounds_toArray, List.set_cons_zero, List.set_cons_succ, i64_w, i32_w]
          rfl
        refine pure_ (i := 9) (N := some 29) (v := ?_) (a' := ?_) #[true, true, true, true, true, true, true, true, true, true, false, false, false, false, false, false, false, false, false, false, false, false, false, false, false, false, false, false, false] rfl rfl (any_of HT_.out (by kernel_rfl)) (fun _ _ _ h => h) (Or.inl ⟨by rfl, ?_⟩) ?_ ?_
        rotate_left
        · intro w'
          go_simp
          with_reducible rfl
        rotate_left
        · simp only [Act.put, List.setIfInBounds_toArray, List.set_cons_zero, List.set_cons_succ, i64_w, i32_w]
          rfl
        refine take_ (i := 10) (N := some 30) (v := ?_) (a' := ?_) #[true, true, true, true, true, true, true, true, true, true, true, false, false, false, false, false, false, false, false, false, false, false, false, false, false, false, false, false, false] rfl rfl (take_ofW HT_.out HW_.out (by kernel_rfl)) (fun _ _ _ h => h) (Or.inl ⟨by rfl, ?_⟩) hHeld ?_ ?_
        rotate_left
        · intro w' hSt
          have hx2 := ((HPW.out.below hSt).ch.cu i hlt).2.2
          go_simp
          with_reducible rfl
        rotate_left
        · simp only [Act.put, List.setIfInBounds_toArray, List.set_cons_zero, List.set_cons_succ, i64_w, i32_w]
          rfl
        refine pure_ (i := 11) (N := some 31) (v := ?_) (a' := ?_) #[true, true, true, true, true, true, true, true, true, true, true, true, false, false, false, false, false, false, false, false, false, false, false, false, false, false, false, false, false] rfl rfl (any_of HT_.out (by kernel_rfl)) (fun _ _ _ h => h) (Or.inl ⟨by rfl, ?_⟩) ?_ ?_
        rotate_left
        · intro w'
          go_simp
          with_reducible rfl
        rotate_left
        · simp only [Act.put, List.setIfInBounds_toArray, List.set_cons_zero, List.set_cons_succ, i64_w, i32_w]
          rfl
        refine pure_ (i := 12) (N := some 32) (v := ?_) (a' := ?_) #[true, true, true, true, true, true, true, true, true, true, true, true, true, false, false, false, false, false, false, false, false, false, false, false, false, false, false, false, false] rfl rfl (any_of HT_.out (by kernel_rfl)) (fun _ _ _ h => h) (Or.inl ⟨by rfl, ?_⟩) ?_ ?_
        rotate_left
        · intro w'
          go_simp
          with_reducible rfl
        rotate_left
        · simp only [Act.put, List.setIfInBounds_toArray, List.set_cons_zero, List.set_cons_succ, i64_w, i32_w]
          rfl
        refine pure_ (i := 13) (N := some 33) (v := ?_) (a' := ?_) #[true, true, true, true, true, true, true, true, true, true, true, true, true, true, false, false, false, false, false, false, false, false, false, false, false, false, false, false, false] rfl rfl (any_of HT_.out (by kernel_rfl)) (fun _ _ _ h => h) (Or.inl ⟨by rfl, ?_⟩) ?_ ?_
        rotate_left
        · intro w'
          go_simp
          with_reducible rfl
        rotate_left
        · simp only [Act.put, List.setIfInBounds_toArray, List.set_cons_zero, List.set_cons_succ, i64_w, i32_w]
          rfl
        refine pure_ (i := 14) (N := some 34) (v := undef) (a' := ?_) #[true, true, true, true, true, true, true, true, true, true, true, true, true, true, true, false, false, false, false, false, false, false, false, false, false, false, false, false, false] rfl rfl (any_of HT_.out (by kernel_rfl)) (fun _ _ _ h => h) (Or.inr ⟨by rfl, rfl⟩) ?_ ?_
        rotate_left
        · simp only [Act.put, List.setIfInBounds_toArray, List.set_cons_zero, List.set_cons_succ, i64_w, i32_w]
          rfl
        refine pure_ (i := 15) (N := some 35) (v := undef) (a' := ?_) #[true, true, true, true, true, true, true, true, true, true, true, true, true, true, true, true, false, false, false, false, false, false, false, false, false, false, false, false, false] rfl rfl (any_of HT_.out (by kernel_rfl)) (fun _ _ _ h => h) (Or.inr ⟨by rfl, rfl⟩) ?_ ?_
        rotate_left
        · simp only [Act.put, List.setIfInBounds_toArray, List.set_cons_zero, List.set_cons_succ, i64_w, i32_w]
          rfl
        refine pure_ (i := 16) (N := some 36) (v := undef) (a' := ?_) #[true, true, true, true, true, true, true, true, true, true, true, true, true, true, true, true, true, false, false, false, false, false, false, false, false, false, false, false, false] rfl rfl (any_of HT_.out (by kernel_rfl)) (fun _ _ _ h => h) (Or.inr ⟨by rfl, rfl⟩) ?_ ?_
        rotate_left
        · simp only [Act.put, List.setIfInBounds_toArray, List.set_cons_zero, List.set_cons_succ, i64_w, i32_w]
          rfl
        refine pure_ (i := 17) (N := some 37) (v := undef) (a' := ?_) #[true, true, true, true, true, true, true, true, true, true, true, true, true, true, true, true, true, true, false, false, false, false, false, false, false, false, false, false, false] rfl rfl (any_of HT_.out (by kernel_rfl)) (fun _ _ _ h => h) (Or.inr ⟨by rfl, rfl⟩) ?_ ?_
        rotate_left
        · simp only [Act.put, List.setIfInBounds_toArray, List.set_cons_zero, List.set_cons_succ, i64_w, i32_w]
          rfl
        refine pure_ (i := 18) (N := some 38) (v := undef) (a' := ?_) #[true, true, true, true, true, true, true, true, true, true, true, true, true, true, true, true, true, true, true, false, false, false, false, false, false, false, false, false, false] rfl rfl (any_of HT_.out (by kernel_rfl)) (fun _ _ _ h => h) (Or.inr ⟨by rfl, rfl⟩) ?_ ?_
        rotate_left
        · simp only [Act.put, List.setIfInBounds_toArray, List.set_cons_zero, List.set_cons_succ, i64_w, i32_w]
          rfl
        refine pure_ (i := 19) (N := some 39) (v := undef) (a' := ?_) #[true, true, true, true, true, true, true, true, true, true, true, true, true, true, true, true, true, true, true, true, false, false, false, false, false, false, false, false, false] rfl rfl (any_of HT_.out (by kernel_rfl)) (fun _ _ _ h => h) (Or.inr ⟨by rfl, rfl⟩) ?_ ?_
        rotate_left
        · simp only [Act.put, List.setIfInBounds_toArray, List.set_cons_zero, List.set_cons_succ, i64_w, i32_w]
          rfl
        refine pure_ (i := 20) (N := some 40) (v := undef) (a' := ?_) #[true, true, true, true, true, true, true, true, true, true, true, true, true, true, true, true, true, true, true, true, true, false, false, false, false, false, false, false, false] rfl rfl (any_of HT_.out (by kernel_rfl)) (fun _ _ _ h => h) (Or.inr ⟨by rfl, rfl⟩) ?_ ?_
        rotate_left
        · simp only [Act.put, List.setIfInBounds_toArray, List.set_cons_zero, List.set_cons_succ, i64_w, i32_w]
          rfl
        refine pure_ (i := 21) (N := some 41) (v := undef) (a' := ?_) #[true, true, true, true, true, true, true, true, true, true, true, true, true, true, true, true, true, true, true, true, true, true, false, false, false, false, false, false, false] rfl rfl (any_of HT_.out (by kernel_rfl)) (fun _ _ _ h => h) (Or.inr ⟨by rfl, rfl⟩) ?_ ?_
        rotate_left
        · simp only [Act.put, List.setIfInBounds_toArray, List.set_cons_zero, List.set_cons_succ, i64_w, i32_w]
          rfl
        refine pure_ (i := 22) (N := some 42) (v := undef) (a' := ?_) #[true, true, true, true, true, true, true, true, true, true, true, true, true, true, true, true, true, true, true, true, true, true, true, false, false, false, false, false, false] rfl rfl (any_of HT_.out (by kernel_rfl)) (fun _ _ _ h => h) (Or.inr ⟨by rfl, rfl⟩) ?_ ?_
        rotate_left
        · simp only [Act.put, List.setIfInBounds_toArray, List.set_cons_zero, List.set_cons_succ, i64_w, i32_w]
          rfl
        refine pure_ (i := 23) (N := some 43) (v := undef) (a' := ?_) #[true, true, true, true, true, true, true, true, true, true, true, true, true, true, true, true, true, true, true, true, true, true, true, true, false, false, false, false, false] rfl rfl (any_of HT_.out (by kernel_rfl)) (fun _ _ _ h => h) (Or.inr ⟨by rfl, rfl⟩) ?_ ?_
        rotate_left
        · simp only [Act.put, List.setIfInBounds_toArray, List.set_cons_zero, List.set_cons_succ, i64_w, i32_w]
          rfl
        refine pure_ (i := 24) (N := some 44) (v := undef) (a' := ?_) #[true, true, true, true, true, true, true, true, true, true, true, true, true, true, true, true, true, true, true, true, true, true, true, true, true, false, false, false, false] rfl rfl (any_of HT_.out (by kernel_rfl)) (fun _ _ _ h => h) (Or.inr ⟨by rfl, rfl⟩) ?_ ?_
        rotate_left
        · simp only [Act.put, List.setIfInBounds_toArray, List.set_cons_zero, List.set_cons_succ, i64_w, i32_w]
          rfl
        refine pure_ (i := 25) (N := some 45) (v := undef) (a' := ?_) #[true, true, true, true, true, true, true, true, true, true, true, true, true, true, true, true, true, true, true, true, true, true, true, true, true, true, false, false, false] rfl rfl (any_of HT_.out (by kernel_rfl)) (fun _ _ _ h => h) (Or.inr ⟨by rfl, rfl⟩) ?_ ?_
        rotate_left
        · simp only [Act.put, List.setIfInBounds_toArray, List.set_cons_zero, List.set_cons_succ, i64_w, i32_w]
          rfl
        refine pure_ (i := 26) (N := some 46) (v := undef) (a' := ?_) #[true, true, true, true, true, true, true, true, true, true, true, true, true, true, true, true, true, true, true, true, true, true, true, true, true, true, true, false, false] rfl rfl (any_of HT_.out (by kernel_rfl)) (fun _ _ _ h => h) (Or.inr ⟨by rfl, rfl⟩) ?_ ?_
        rotate_left
        · simp only [Act.put, List.setIfInBounds_toArray, List.set_cons_zero, List.set_cons_succ, i64_w, i32_w]
          rfl
        refine pure_ (i := 27) (N := some 47) (v := undef) (a' := ?_) #[true, true, true, true, true, true, true, true, true, true, true, true, true, true, true, true, true, true, true, true, true, true, true, true, true, true, true, true, false] rfl rfl (any_of HT_.out (by kernel_rfl)) (fun _ _ _ h => h) (Or.inr ⟨by rfl, rfl⟩) ?_ ?_
        rotate_left
        · simp only [Act.put, List.setIfInBounds_toArray, List.set_cons_zero, List.set_cons_succ, i64_w, i32_w]
          rfl
        refine pure_ (i := 28) (N := some 48) (v := ?_) (a' := ?_) #[true, true, true, true, true, true, true, true, true, true, true, true, true, true, true, true, true, true, true, true, true, true, true, true, true, true, true, true, true] rfl rfl (any_of HT_.out (by kernel_rfl)) (fun _ _ _ h => h) (Or.inl ⟨by rfl, ?_⟩) ?_ ?_
        rotate_left
        · intro w'
          go_simp
          with_reducible rfl
        rotate_left
        · simp only [Act.put, List.setIfInBounds_toArray, List.set_cons_zero, List.set_cons_succ, i64_w, i32_w]
          rfl
        refine done_ (done_of HT_.out (by kernel_rfl)) ?_
        have HPX := Aside0.mk (HPW.out.below hHeld)
        have HCX := Aside0.mk (HC.out.trans (Chg.of_below hHeld))
        clear hS0 hHeld HT_ HW_ HPW HC
        go_wp2
        go_roundw
        case rel => exact ⟨i + 1, by omega, by first | rfl | go_num, by rw [HNX.out]; exact HPX, HCX⟩
        case measure => simp [intOf]; omega
      have e2 : decide (now ≥ ((lateF now tm S D i).1 i).2.2) = true := by rw [HA.out]; exact decide_eq_true h2
      have HWV := Aside0.mk (show IntKind.u64.wrap (IntKind.u64.wrap now - IntKind.u64.wrap ((lateF now tm S D i).1 i).2.2) = now - x.2.2 ∧ IntKind.u64.wrap tm = tm by
        have h5 := (HGI.out h1).2
        have h6 := HN.out
        have h7 := HT.out
        rw [HA.out]
        simp only [IntKind.wrap, IntKind.bits, IntKind.signed]
        simp
        omega)
      by_cases h3 : tm ≤ now - x.2.2
      case neg =>
        have e3 : decide (IntKind.u64.wrap (IntKind.u64.wrap now - IntKind.u64.wrap ((lateF now tm S D i).1 i).2.2) ≥ IntKind.u64.wrap tm) = false := by rw [HWV.out.1, HWV.out.2]; exact decide_eq_false h3
        replace HNX := Aside0.mk (HNX.out.trans (if_neg (fun h => h3 h.2.2)))
        clear h1 h2 h3
        refine start_ (n := 29) (S := fun w' => Below wr.heap.size wr w') (ds := []) #[false, false, false, false, false, false, false, false, false, false, false, false, false, false, false, false, false, false, false, false, false, false, false, false, false, false, false, false, false] (by kernel_rfl) rfl rfl (by exact hS0) (fun hHeld => ?_)
        refine with_tabW lat_tab4 lat_bits4 (fun HT_ HW_ => ?_)
        generalize wr.drew = wd at hHeld hS0 ⊢
        refine pure_ (i := 0) (N := some 20) (v := ?_) (a' := ?_) #[true, false, false, false, false, false, false, false, false, false, false, false, false, false, false, false, false, false, false, false, false, false, false, false, false, false, false, false, false] rfl rfl (any_of HT_.out (by kernel_rfl)) (fun _ _ _ h => h) (Or.inl ⟨by rfl, ?_⟩) ?_ ?_
        rotate_left
        · intro w'
          go_simp
          with_reducible rfl
        rotate_left
        · simp only [Act.put, List.setIfInBounds_toArray, List.set_cons_zero, List.set_cons_succ, i64_w, i32_w]
          rfl
        refine pure_ (i := 1) (N := some 21) (v := ?_) (a' := ?_) #[true, true, false, false, false, false, false, false, false, false, false, false, false, false, false, false, false, false, false, false, false, false, false, false, false, false, false, false, false] rfl rfl (any_of HT_.out (by kernel_rfl)) (fun _ _ _ h => h) (Or.inl ⟨by rfl, ?_⟩) ?_ ?_
        rotate_left
        · intro w'
          go_simp
          with_reducible rfl
        rotate_left
        · simp only [Act.put, List.setIfInBounds_toArray, List.set_cons_zero, List.set_cons_succ, i64_w, i32_w]
          rfl
        refine pure_ (i := 2) (N := some 22) (v := ?_) (a' := ?_) #[true, true, true, false, false, false, false, false, false, false, false, false, false, false, false, false, false, false, false, false, false, false, false, false, false, false, false, false, false] rfl rfl (any_of HT_.out (by kernel_rfl)) (fun _ _ _ h => h) (Or.inl ⟨by rfl, ?_⟩) ?_ ?_
        rotate_left
        · intro w'
          go_simp
          with_reducible rfl
        rotate_left
        · simp only [Act.put, List.setIfInBounds_toArray, List.set_cons_zero, List.set_cons_succ, i64_w, i32_w]
          rfl
        refine take_ (i := 3) (N := some 23) (v := ?_) (a' := ?_) #[true, true, true, true, false, false, false, false, false, false, false, false, false, false, false, false, false, false, false, false, false, false, false, false, false, false, false, false, false] rfl rfl (take_ofW HT_.out HW_.out (by kernel_rfl)) (fun _ _ _ h => h) (Or.inl ⟨by rfl, ?_⟩) hHeld ?_ ?_
        rotate_left
        · intro w' hSt
          have hx0 := ((HPW.out.below hSt).ch.cu i hlt).1
          go_simp
          with_reducible rfl
        rotate_left
        · simp only [Act.put, List.setIfInBounds_toArray, List.set_cons_zero, List.set_cons_succ, i64_w, i32_w]
          rfl
        refine pure_ (i := 4) (N := some 24) (v := ?_) (a' := ?_) #[true, true, true, true, true, false, false, false, false, false, false, false, false, false, false, false, false, false, false, false, false, false, false, false, false, false, false, false, false] rfl rfl (any_of HT_.out (by kernel_rfl)) (fun _ _ _ h => h) (Or.inl ⟨by rfl, ?_⟩) ?_ ?_
        rotate_left
        · intro w'
          go_simp
          with_reducible rfl
        rotate_left
        · simp only [Act.put, List.setIfInBounds_toArray, List.set_cons_zero, List.set_cons_succ, i64_w, i32_w]
          rfl
        refine pure_ (i := 5) (N := some 25) (v := ?_) (a' := ?_) #[true, true, true, true, true, true, false, false, false, false, false, false, false, false, false, false, false, false, false, false, false, false, false, false, false, false, false, false, false] rfl rfl (any_of HT_.out (by kernel_rfl)) (fun _ _ _ h => h) (Or.inl ⟨by rfl, ?_⟩) ?_ ?_
        rotate_left
        · intro w'
          go_simp
          with_reducible rfl
        rotate_left
        · simp only [Act.put, List.setIfInBounds_toArray, List.set_cons_zero, List.set_cons_succ, i64_w, i32_w]
          rfl
        refine pure_ (i := 6) (N := some 26) (v := ?_) (a' := ?_) #[true, true, true, true, true, true, true, false, false, false, false, false, false, false, false, false, false, false, false, false, false, false, false, false, false, false, false, false, false] rfl rfl (any_of HT_.out (by kernel_rfl)) (fun _ _ _ h => h) (Or.inl ⟨by rfl, ?_⟩) ?_ ?_
        rotate_left
        · intro w'
          go_simp
          with_reducible rfl
        rotate_left
        · simp only [Act.put, List.setIfInBounds_toArray, List.set_cons_zero, List.set_cons_succ, i64_w, i32_w]
          rfl
        refine pure_ (i := 7) (N := some 27) (v := ?_) (a' := ?_) #[true, true, true, true, true, true, true, true, false, false, false, false, false, false, false, false, false, false, false, false, false, false, false, false, false, false, false, false, false] rfl rfl (any_of HT_.out (by kernel_rfl)) (fun _ _ _ h => h) (Or.inl ⟨by rfl, ?_⟩) ?_ ?_
        rotate_left
        · intro w'
          go_simp
          with_reducible rfl
        rotate_left
        · simp only [Act.put, List.setIfInBounds_toArray, List.set_cons_zero, List.set_cons_succ, i64_w, i32_w]
          rfl
        refine pure_ (i := 8) (N := some 28) (v := ?_) (a' := ?_) #[true, true, true, true, true, true, true, true, true, false, false, false, false, false, false, false, false, false, false, false, false, false, false, false, false, false, false, false, false] rfl rfl (any_of HT_.out (by kernel_rfl)) (fun _ _ _ h => h) (Or.inl ⟨by rfl, ?_⟩) ?_ ?_
        rotate_left
        · intro w'
          go_simp
          with_reducible rfl
        rotate_left
        · simp only [Act.put, List.setIfInBounds_toArray, List.set_cons_zero, List.set_cons_succ, i64_w, i32_w]
          rfl
        refine pure_ (i := 9) (N := some 29) (v := ?_) (a' := ?_) #[true, true, true, true, true, true, true, true, true, true, false, false, false, false, false, false, false, false, false, false, false, false, false, false, false, false, false, false, false] rfl rfl (any_of HT_.out (by kernel_rfl)) (fun _ _ _ h => h) (Or.inl ⟨by rfl, ?_⟩) ?_ ?_
        rotate_left
        · intro w'
          go_simp
          with_reducible rfl
        rotate_left
        · simp only [Act.put, List.setIfInBounds_toArray, List.set_cons_zero, List.set_cons_succ, i64_w, i32_w]
          rfl
        refine take_ (i := 10) (N := some 30) (v := ?_) (a' := ?_) #[true, true, true, true, true, true, true, true, true, true, true, false, false, false, false, false, false, false, false, false, false, false, false, false, false, false, false, false, false] rfl rfl (take_ofW HT_.out HW_.out (by kernel_rfl)) (fun _ _ _ h => h) (Or.inl ⟨by rfl, ?_⟩) hHeld ?_ ?_
        rotate_left
        · intro w' hSt
          have hx2 := ((HPW.out.below hSt).ch.cu i hlt).2.2
          go_simp
          with_reducible rfl
        rotate_left
        · simp only [Act.put, List.setIfInBounds_toArray, List.set_cons_zero, List.set_cons_succ, i64_w, i32_w]
          rfl
        refine pure_ (i := 11) (N := some 31) (v := ?_) (a' := ?_) #[true, true, true, true, true, true, true, true, true, true, true, true, false, false, false, false, false, false, false, false, false, false, false, false, false, false, false, false, false] rfl rfl (any_of HT_.out (by kernel_rfl)) (fun _ _ _ h => h) (Or.inl ⟨by rfl, ?_⟩) ?_ ?_
        rotate_left
        · intro w'
          go_simp
          with_reducible rfl
        rotate_left
        · simp only [Act.put, List.setIfInBounds_toArray, List.set_cons_zero, List.set_cons_succ, i64_w, i32_w]
          rfl
        refine pure_ (i := 12) (N := some 32) (v := ?_) (a' := ?_) #[true, true, true, true, true, true, true, true, true, true, true, true, true, false, false, false, false, false, false, false, false, false, false, false, false, false, false, false, false] rfl rfl (any_of HT_.out (by kernel_rfl)) (fun _ _ _ h => h) (Or.inl ⟨by rfl, ?_⟩) ?_ ?_
        rotate_left
        · intro w'
          go_simp
          with_reducible rfl
        rotate_left
        · simp only [Act.put, List.setIfInBounds_toArray, List.set_cons_zero, List.set_cons_succ, i64_w, i32_w]
          rfl
        refine pure_ (i := 13) (N := some 33) (v := ?_) (a' := ?_) #[true, true, true, true, true, true, true, true, true, true, true, true, true, true, false, false, false, false, false, false, false, false, false, false, false, false, false, false, false] rfl rfl (any_of HT_.out (by kernel_rfl)) (fun _ _ _ h => h) (Or.inl ⟨by rfl, ?_⟩) ?_ ?_
        rotate_left
        · intro w'
          go_simp
          with_reducible rfl
        rotate_left
        · simp only [Act.put, List.setIfInBounds_toArray, List.set_cons_zero, List.set_cons_succ, i64_w, i32_w]
          rfl
        refine pure_ (i := 14) (N := some 34) (v := ?_) (a' := ?_) #[true, true, true, true, true, true, true, true, true, true, true, true, true, true, true, false, false, false, false, false, false, false, false, false, false, false, false, false, false] rfl rfl (any_of HT_.out (by kernel_rfl)) (fun _ _ _ h => h) (Or.inl ⟨by rfl, ?_⟩) ?_ ?_
        rotate_left
        · intro w'
          go_simp
          with_reducible rfl
        rotate_left
        · simp only [Act.put, List.setIfInBounds_toArray, List.set_cons_zero, List.set_cons_succ, i64_w, i32_w]
          rfl
        refine pure_ (i := 16) (N := some 36) (v := ?_) (a' := ?_) #[true, true, true, true, true, true, true, true, true, true, true, true, true, true, true, false, true, false, false, false, false, false, false, false, false, false, false, false, false] rfl rfl (any_of HT_.out (by kernel_rfl)) (fun _ _ _ h => h) (Or.inl ⟨by rfl, ?_⟩) ?_ ?_
        rotate_left
        · intro w'
          go_simp
          with_reducible rfl
        rotate_left
        · simp only [Act.put, List.setIfInBounds_toArray, List.set_cons_zero, List.set_cons_succ, i64_w, i32_w]
          rfl
        refine pure_ (i := 17) (N := some 37) (v := ?_) (a' := ?_) #[true, true, true, true, true, true, true, true, true, true, true, true, true, true, true, false, true, true, false, false, false, false, false, false, false, false, false, false, false] rfl rfl (any_of HT_.out (by kernel_rfl)) (fun _ _ _ h => h) (Or.inl ⟨by rfl, ?_⟩) ?_ ?_
        rotate_left
        · intro w'
          go_simp
          with_reducible rfl
        rotate_left
        · simp only [Act.put, List.setIfInBounds_toArray, List.set_cons_zero, List.set_cons_succ, i64_w, i32_w]
          rfl
        refine pure_ (i := 18) (N := some 38) (v := ?_) (a' := ?_) #[true, true, true, true, true, true, true, true, true, true, true, true, true, true, true, false, true, true, true, false, false, false, false, false, false, false, false, false, false] rfl rfl (any_of HT_.out (by kernel_rfl)) (fun _ _ _ h => h) (Or.inl ⟨by rfl, ?_⟩) ?_ ?_
        rotate_left
        · intro w'
          go_simp
          with_reducible rfl
        rotate_left
        · simp only [Act.put, List.setIfInBounds_toArray, List.set_cons_zero, List.set_cons_succ, i64_w, i32_w]
          rfl
        refine pure_ (i := 22) (N := some 42) (v := ?_) (a' := ?_) #[true, true, true, true, true, true, true, true, true, true, true, true, true, true, true, false, true, true, true, false, false, false, true, false, false, false, false, false, false] rfl rfl (any_of HT_.out (by kernel_rfl)) (fun _ _ _ h => h) (Or.inl ⟨by rfl, ?_⟩) ?_ ?_
        rotate_left
        · intro w'
          go_simp
          with_reducible rfl
        rotate_left
        · simp only [Act.put, List.setIfInBounds_toArray, List.set_cons_zero, List.set_cons_succ, i64_w, i32_w]
          rfl
        refine pure_ (i := 23) (N := some 43) (v := ?_) (a' := ?_) #[true, true, true, true, true, true, true, true, true, true, true, true, true, true, true, false, true, true, true, false, false, false, true, true, false, false, false, false, false] rfl rfl (any_of HT_.out (by kernel_rfl)) (fun _ _ _ h => h) (Or.inl ⟨by rfl, ?_⟩) ?_ ?_
        rotate_left
        · intro w'
          go_simp
          with_reducible rfl
        rotate_left
        · simp only [Act.put, List.setIfInBounds_toArray, List.set_cons_zero, List.set_cons_succ, i64_w, i32_w]
          rfl
        refine pure_ (i := 24) (N := some 44) (v := ?_) (a' := ?_) #[true, true, true, true, true, true, true, true, true, true, true, true, true, true, true, false, true, true, true, false, false, false, true, true, true, false, false, false, false] rfl rfl (any_of HT_.out (by kernel_rfl)) (fun _ _ _ h => h) (Or.inl ⟨by rfl, ?_⟩) ?_ ?_
        rotate_left
        · intro w'
          go_simp
          with_reducible rfl
        rotate_left
        · simp only [Act.put, List.setIfInBounds_toArray, List.set_cons_zero, List.set_cons_succ, i64_w, i32_w]
          rfl
        refine take_ (i := 19) (N := some 39) (v := ?_) (a' := ?_) #[true, true, true, true, true, true, true, true, true, true, true, true, true, true, true, false, true, true, true, true, false, false, true, true, true, false, false, false, false] rfl rfl (take_ofW HT_.out HW_.out (by kernel_rfl)) (fun _ _ _ h => h) (Or.inl ⟨by rfl, ?_⟩) hHeld ?_ ?_
        rotate_left
        · intro w' hSt
          have hx2 := ((HPW.out.below hSt).ch.cu i hlt).2.2
          go_simp
          with_reducible rfl
        rotate_left
        · simp only [Act.put, List.setIfInBounds_toArray, List.set_cons_zero, List.set_cons_succ, i64_w, i32_w]
          rfl
        refine take_ (i := 25) (N := some 45) (v := ?_) (a' := ?_) #[true, true, true, true, true, true, true, true, true, true, true, true, true, true, true, false, true, true, true, true, false, false, true, true, true, true, false, false, false] rfl rfl (take_ofW HT_.out HW_.out (by kernel_rfl)) (fun _ _ _ h => h) (Or.inl ⟨by rfl, ?_⟩) hHeld ?_ ?_
        rotate_left
        · intro w' hSt
          have hx4 := (HPW.out.below hSt).blk.c4
          go_simp
          with_reducible rfl
        rotate_left
        · simp only [Act.put, List.setIfInBounds_toArray, List.set_cons_zero, List.set_cons_succ, i64_w, i32_w]
          rfl
        refine pure_ (i := 15) (N := some 35) (v := ?_) (a' := ?_) #[true, true, true, true, true, true, true, true, true, true, true, true, true, true, true, true, true, true, true, true, false, false, true, true, true, true, false, false, false] rfl rfl (any_of HT_.out (by kernel_rfl)) (fun _ _ _ h => h) (Or.inl ⟨by rfl, ?_⟩) ?_ ?_
        rotate_left
        · intro w'
          go_simp
          with_reducible rfl
        rotate_left
        · simp only [Act.put, List.setIfInBounds_toArray, List.set_cons_zero, List.set_cons_succ, i64_w, i32_w]
          rfl
        refine pure_ (i := 20) (N := some 40) (v := ?_) (a' := ?_) #[true, true, true, true, true, true, true, true, true, true, true, true, true, true, true, true, true, true, true, true, true, false, true, true, true, true, false, false, false] rfl rfl (any_of HT_.out (by kernel_rfl)) (fun _ _ _ h => h) (Or.inl ⟨by rfl, ?_⟩) ?_ ?_
        rotate_left
        · intro w'
          go_simp
          with_reducible rfl
        rotate_left
        · simp only [Act.put, List.setIfInBounds_toArray, List.set_cons_zero, List.set_cons_succ, i64_w, i32_w]
          rfl
        refine pure_ (i := 26) (N := some 46) (v := ?_) (a' := ?_) #[true, true, true, true, true, true, true, true, true, true, true, true, true, true, true, true, true, true, true, true, true, false, true, true, true, true, true, false, false] rfl rfl (any_of HT_.out (by kernel_rfl)) (fun _ _ _ h => h) (Or.inl ⟨by rfl, ?_⟩) ?_ ?_
        rotate_left
        · intro w'
          go_simp
          with_reducible rfl
        rotate_left
        · simp only [Act.put, List.setIfInBounds_toArray, List.set_cons_zero, List.set_cons_succ, i64_w, i32_w]
          rfl
        refine pure_ (i := 21) (N := some 41) (v := ?_) (a' := ?_) #[true, true, true, true, true, true, true, true, true, true, true, true, true, true, true, true, true, true, true, true, true, true, true, true, true, true, true, false, false] rfl rfl (any_of HT_.out (by kernel_rfl)) (fun _ _ _ h => h) (Or.inl ⟨by rfl, ?_⟩) ?_ ?_
        rotate_left
        · intro w'
          go_simp
          with_reducible rfl
        rotate_left
        · simp only [Act.put, List.setIfInBounds_toArray, List.set_cons_zero, List.set_cons_succ, i64_w, i32_w]
          rfl
        refine pure_ (i := 27) (N := some 47) (v := ?_) (a' := ?_) #[true, true, true, true, true, true, true, true, true, true, true, true, true, true, true, true, true, true, true, true, true, true, true, true, true, true, true, true, false] rfl rfl (any_of HT_.out (by kernel_rfl)) (fun _ _ _ h => h) (Or.inl ⟨by rfl, ?_⟩) ?_ ?_
        rotate_left
        · intro w'
          go_simp
          with_reducible rfl
        rotate_left
        · simp only [Act.put, List.setIfInBounds_toArray, List.set_cons_zero, List.set_cons_succ, i64_w, i32_w]
          rfl
        refine pure_ (i := 28) (N := some 48) (v := ?_) (a' := ?_) #[true, true, true, true, true, true, true, true, true, true, true, true, true, true, true, true, true, true, true, true, true, true, true, true, true, true, true, true, true] rfl rfl (any_of HT_.out (by kernel_rfl)) (fun _ _ _ h => h) (Or.inl ⟨by rfl, ?_⟩) ?_ ?_
        rotate_left
        · intro w'
          go_simp
          with_reducible rfl
        rotate_left
        · simp only [Act.put, List.setIfInBounds_toArray, List.set_cons_zero, List.set_cons_succ, i64_w, i32_w]
          rfl
        refine done_ (done_of HT_.out (by kernel_rfl)) ?_
        have HPX := Aside0.mk (HPW.out.below hHeld)
        have HCX := Aside0.mk (HC.out.trans (Chg.of_below hHeld))
        clear hS0 hHeld HT_ HW_ HPW HC
        go_wp2
        go_roundw
        case rel => exact ⟨i + 1, by omega, by first | rfl | go_num, by rw [HNX.out]; exact HPX, HCX⟩
        case measure => simp [intOf]; omega
      have e3 : decide (IntKind.u64.wrap (IntKind.u64.wrap now - IntKind.u64.wrap ((lateF now tm S D i).1 i).2.2) ≥ IntKind.u64.wrap tm) = true := by rw [HWV.out.1, HWV.out.2]; exact decide_eq_true h3
      replace HNX := Aside0.mk (HNX.out.trans (if_pos ⟨h1, h2, h3⟩))
      obtain ⟨hp0, hp1⟩ := (HGI.out h1).1
      clear h2 h3 h1
      refine start_ (n := 29) (S := fun w' => Below wr.heap.size wr w') (ds := []) #[false, false, false, false, false, false, false, false, false, false, false, false, false, false, false, false, false, false, false, false, false, false, false, false, false, false, false, false, false] (by kernel_rfl) rfl rfl (by exact hS0) (fun hHeld => ?_)
      refine with_tabW lat_tab4 lat_bits4 (fun HT_ HW_ => ?_)
      generalize wr.drew = wd at hHeld hS0 ⊢
      refine pure_ (i := 0) (N := some 20) (v := ?_) (a' := ?_) #[true, false, false, false, false, false, false, false, false, false, false, false, false, false, false, false, false, false, false, false, false, false, false, false, false, false, false, false, false] rfl rfl (any_of HT_.out (by kernel_rfl)) (fun _ _ _ h => h) (Or.inl ⟨by rfl, ?_⟩) ?_ ?_
      rotate_left
      · intro w'
        go_simp
        with_reducible rfl
      rotate_left
      · simp only [Act.put, List.setIfInBounds_toArray, List.set_cons_zero, List.set_cons_succ, i64_w, i32_w]
        rfl
      refine pure_ (i := 1) (N := some 21) (v := ?_) (a' := ?_) #[true, true, false, false, false, false, false, false, false, false, false, false, false, false, false, false, false, false, false, false, false, false, false, false, false, false, false, false, false] rfl rfl (any_of HT_.out (by kernel_rfl)) (fun _ _ _ h => h) (Or.inl ⟨by rfl, ?_⟩) ?_ ?_
      rotate_left
      · intro w'
        go_simp
        with_reducible rfl
      rotate_left
      · simp only [Act.put, List.setIfInBounds_toArray, List.set_cons_zero, List.set_cons_succ, i64_w, i32_w]
        rfl
      refine pure_ (i := 2) (N := some 22) (v := ?_) (a' := ?_) #[true, true, true, false, false, false, false, false, false, false, false, false, false, false, false, false, false, false, false, false, false, false, false, false, false, false, false, false, false] rfl rfl (any_of HT_.out (by kernel_rfl)) (fun _ _ _ h => h) (Or.inl ⟨by rfl, ?_⟩) ?_ ?_
      rotate_left
      · intro w'
        go_simp
        with_reducible rfl
      rotate_left
      · simp only [Act.put, List.setIfInBounds_toArray, List.set_cons_zero, List.set_cons_succ, i64_w, i32_w]
        rfl
      refine take_ (i := 3) (N := some 23) (v := ?_) (a' := ?_) #[true, true, true, true, false, false, false, false, false, false, false, false, false, false, false, false, false, false, false, false, false, false, false, false, false, false, false, false, false] rfl rfl (take_ofW HT_.out HW_.out (by kernel_rfl)) (fun _ _ _ h => h) (Or.inl ⟨by rfl, ?_⟩) hHeld ?_ ?_
      rotate_left
      · intro w' hSt
        have hx0 := ((HPW.out.below hSt).ch.cu i hlt).1
        go_simp
        with_reducible rfl
      rotate_left
      · simp only [Act.put, List.setIfInBounds_toArray, List.set_cons_zero, List.set_cons_succ, i64_w, i32_w]
        rfl
      refine pure_ (i := 4) (N := some 24) (v := ?_) (a' := ?_) #[true, true, true, true, true, false, false, false, false, false, false, false, false, false, false, false, false, false, false, false, false, false, false, false, false, false, false, false, false] rfl rfl (any_of HT_.out (by kernel_rfl)) (fun _ _ _ h => h) (Or.inl ⟨by rfl, ?_⟩) ?_ ?_
      rotate_left
      · intro w'
        go_simp
        with_reducible rfl
      rotate_left
      · simp only [Act.put, List.setIfInBounds_toArray, List.set_cons_zero, List.set_cons_succ, i64_w, i32_w]
        rfl
      refine pure_ (i := 5) (N := some 25) (v := ?_) (a' := ?_) #[true, true, true, true, true, true, false, false, false, false, false, false, false, false, false, false, false, false, false, false, false, false, false, false, false, false, false, false, false] rfl rfl (any_of HT_.out (by kernel_rfl)) (fun _ _ _ h => h) (Or.inl ⟨by rfl, ?_⟩) ?_ ?_
      rotate_left
      · intro w'
        go_simp
        with_reducible rfl
      rotate_left
      · simp only [Act.put, List.setIfInBounds_toArray, List.set_cons_zero, List.set_cons_succ, i64_w, i32_w]
        rfl
      refine pure_ (i := 6) (N := some 26) (v := ?_) (a' := ?_) #[true, true, true, true, true, true, true, false, false, false, false, false, false, false, false, false, false, false, false, false, false, false, false, false, false, false, false, false, false] rfl rfl (any_of HT_.out (by kernel_rfl)) (fun _ _ _ h => h) (Or.inl ⟨by rfl, ?_⟩) ?_ ?_
      rotate_left
      · intro w'
        go_simp
        with_reducible rfl
      rotate_left
      · simp only [Act.put, List.setIfInBounds_toArray, List.set_cons_zero, List.set_cons_succ, i64_w, i32_w]
        rfl
      refine pure_ (i := 7) (N := some 27) (v := ?_) (a' := ?_) #[true, true, true, true, true, true, true, true, false, false, false, false, false, false, false, false, false, false, false, false, false, false, false, false, false, false, false, false, false] rfl rfl (any_of HT_.out (by kernel_rfl)) (fun _ _ _ h => h) (Or.inl ⟨by rfl, ?_⟩) ?_ ?_
      rotate_left
      · intro w'
        go_simp
        with_reducible rfl
      rotate_left
      · simp only [Act.put, List.setIfInBounds_toArray, List.set_cons_zero, List.set_cons_succ, i64_w, i32_w]
        rfl
      refine pure_ (i := 8) (N := some 28) (v := ?_) (a' := ?_) #[true, true, true, true, true, true, true, true, true, false, false, false, false, false, false, false, false, false, false, false, false, false, false, false, false, false, false, false, false] rfl rfl (any_of HT_.out (by kernel_rfl)) (fun _ _ _ h => h) (Or.inl ⟨by rfl, ?_⟩) ?_ ?_
      rotate_left
      · intro w'
        go_simp
        with_reducible rfl
      rotate_left
      · simp only [Act.put, List.setIfInBounds_toArray, List.set_cons_zero, List.set_cons_succ, i64_w, i32_w]
        rfl
      refine pure_ (i := 9) (N := some 29) (v := ?_) (a' := ?_) #[true, true, true, true, true, true, true, true, true, true, false, false, false, false, false, false, false, false, false, false, false, false, false, false, false, false, false, false, false] rfl rfl (any_of HT_.out (by kernel_rfl)) (fun _ _ _ h => h) (Or.inl ⟨by rfl, ?_⟩) ?_ ?_
      rotate_left
      · intro w'
        go_simp
        with_reducible rfl
      rotate_left
      · simp only [Act.put, List.setIfInBounds_toArray, List.set_cons_zero, List.set_cons_succ, i64_w, i32_w]
        rfl
      refine take_ (i := 10) (N := some 30) (v := ?_) (a' := ?_) #[true, true, true, true, true, true, true, true, true, true, true, false, false, false, false, false, false, false, false, false, false, false, false, false, false, false, false, false, false] rfl rfl (take_ofW HT_.out HW_.out (by kernel_rfl)) (fun _ _ _ h => h) (Or.inl ⟨by rfl, ?_⟩) hHeld ?_ ?_
      rotate_left
      · intro w' hSt
        have hx2 := ((HPW.out.below hSt).ch.cu i hlt).2.2
        go_simp
        with_reducible rfl
      rotate_left
      · simp only [Act.put, List.setIfInBounds_toArray, List.set_cons_zero, List.set_cons_succ, i64_w, i32_w]
        rfl
      refine pure_ (i := 11) (N := some 31) (v := ?_) (a' := ?_) #[true, true, true, true, true, true, true, true, true, true, true, true, false, false, false, false, false, false, false, false, false, false, false, false, false, false, false, false, false] rfl rfl (any_of HT_.out (by kernel_rfl)) (fun _ _ _ h => h) (Or.inl ⟨by rfl, ?_⟩) ?_ ?_
      rotate_left
      · intro w'
        go_simp
        with_reducible rfl
      rotate_left
      · simp only [Act.put, List.setIfInBounds_toArray, List.set_cons_zero, List.set_cons_succ, i64_w, i32_w]
        rfl
      refine pure_ (i := 12) (N := some 32) (v := ?_) (a' := ?_) #[true, true, true, true, true, true, true, true, true, true, true, true, true, false, false, false, false, false, false, false, false, false, false, false, false, false, false, false, false] rfl rfl (any_of HT_.out (by kernel_rfl)) (fun _ _ _ h => h) (Or.inl ⟨by rfl, ?_⟩) ?_ ?_
      rotate_left
      · intro w'
        go_simp
        with_reducible rfl
      rotate_left
      · simp only [Act.put, List.setIfInBounds_toArray, List.set_cons_zero, List.set_cons_succ, i64_w, i32_w]
        rfl
      refine pure_ (i := 13) (N := some 33) (v := ?_) (a' := ?_) #[true, true, true, true, true, true, true, true, true, true, true, true, true, true, false, false, false, false, false, false, false, false, false, false, false, false, false, false, false] rfl rfl (any_of HT_.out (by kernel_rfl)) (fun _ _ _ h => h) (Or.inl ⟨by rfl, ?_⟩) ?_ ?_
      rotate_left
      · intro w'
        go_simp
        with_reducible rfl
      rotate_left
      · simp only [Act.put, List.setIfInBounds_toArray, List.set_cons_zero, List.set_cons_succ, i64_w, i32_w]
        rfl
      refine pure_ (i := 14) (N := some 34) (v := ?_) (a' := ?_) #[true, true, true, true, true, true, true, true, true, true, true, true, true, true, true, false, false, false, false, false, false, false, false, false, false, false, false, false, false] rfl rfl (any_of HT_.out (by kernel_rfl)) (fun _ _ _ h => h) (Or.inl ⟨by rfl, ?_⟩) ?_ ?_
      rotate_left
      · intro w'
        go_simp
        with_reducible rfl
      rotate_left
      · simp only [Act.put, List.setIfInBounds_toArray, List.set_cons_zero, List.set_cons_succ, i64_w, i32_w]
        rfl
      refine pure_ (i := 16) (N := some 36) (v := ?_) (a' := ?_) #[true, true, true, true, true, true, true, true, true, true, true, true, true, true, true, false, true, false, false, false, false, false, false, false, false, false, false, false, false] rfl rfl (any_of HT_.out (by kernel_rfl)) (fun _ _ _ h => h) (Or.inl ⟨by rfl, ?_⟩) ?_ ?_
      rotate_left
      · intro w'
        go_simp
        with_reducible rfl
      rotate_left
      · simp only [Act.put, List.setIfInBounds_toArray, List.set_cons_zero, List.set_cons_succ, i64_w, i32_w]
        rfl
      refine pure_ (i := 17) (N := some 37) (v := ?_) (a' := ?_) #[true, true, true, true, true, true, true, true, true, true, true, true, true, true, true, false, true, true, false, false, false, false, false, false, false, false, false, false, false] rfl rfl (any_of HT_.out (by kernel_rfl)) (fun _ _ _ h => h) (Or.inl ⟨by rfl, ?_⟩) ?_ ?_
      rotate_left
      · intro w'
        go_simp
        with_reducible rfl
      rotate_left
      · simp only [Act.put, List.setIfInBounds_toArray, List.set_cons_zero, List.set_cons_succ, i64_w, i32_w]
        rfl
      refine pure_ (i := 18) (N := some 38) (v := ?_) (a' := ?_) #[true, true, true, true, true, true, true, true, true, true, true, true, true, true, true, false, true, true, true, false, false, false, false, false, false, false, false, false, false] rfl rfl (any_of HT_.out (by kernel_rfl)) (fun _ _ _ h => h) (Or.inl ⟨by rfl, ?_⟩) ?_ ?_
      rotate_left
      · intro w'
        go_simp
        with_reducible rfl
      rotate_left
      · simp only [Act.put, List.setIfInBounds_toArray, List.set_cons_zero, List.set_cons_succ, i64_w, i32_w]
        rfl
      refine pure_ (i := 22) (N := some 42) (v := ?_) (a' := ?_) #[true, true, true, true, true, true, true, true, true, true, true, true, true, true, true, false, true, true, true, false, false, false, true, false, false, false, false, false, false] rfl rfl (any_of HT_.out (by kernel_rfl)) (fun _ _ _ h => h) (Or.inl ⟨by rfl, ?_⟩) ?_ ?_
      rotate_left
      · intro w'
        go_simp
        with_reducible rfl
      rotate_left
      · simp only [Act.put, List.setIfInBounds_toArray, List.set_cons_zero, List.set_cons_succ, i64_w, i32_w]
        rfl
      refine pure_ (i := 23) (N := some 43) (v := ?_) (a' := ?_) #[true, true, true, true, true, true, true, true, true, true, true, true, true, true, true, false, true, true, true, false, false, false, true, true, false, false, false, false, false] rfl rfl (any_of HT_.out (by kernel_rfl)) (fun _ _ _ h => h) (Or.inl ⟨by rfl, ?_⟩) ?_ ?_
      rotate_left
      · intro w'
        go_simp
        with_reducible rfl
      rotate_left
      · simp only [Act.put, List.setIfInBounds_toArray, List.set_cons_zero, List.set_cons_succ, i64_w, i32_w]
        rfl
      refine pure_ (i := 24) (N := some 44) (v := ?_) (a' := ?_) #[true, true, true, true, true, true, true, true, true, true, true, true, true, true, true, false, true, true, true, false, false, false, true, true, true, false, false, false, false] rfl rfl (any_of HT_.out (by kernel_rfl)) (fun _ _ _ h => h) (Or.inl ⟨by rfl, ?_⟩) ?_ ?_
      rotate_left
      · intro w'
        go_simp
        with_reducible rfl
      rotate_left
      · simp only [Act.put, List.setIfInBounds_toArray, List.set_cons_zero, List.set_cons_succ, i64_w, i32_w]
        rfl
      refine take_ (i := 19) (N := some 39) (v := ?_) (a' := ?_) #[true, true, true, true, true, true, true, true, true, true, true, true, true, true, true, false, true, true, true, true, false, false, true, true, true, false, false, false, false] rfl rfl (take_ofW HT_.out HW_.out (by kernel_rfl)) (fun _ _ _ h => h) (Or.inl ⟨by rfl, ?_⟩) hHeld ?_ ?_
      rotate_left
      · intro w' hSt
        have hx2 := ((HPW.out.below hSt).ch.cu i hlt).2.2
        go_simp
        with_reducible rfl
      rotate_left
      · simp only [Act.put, List.setIfInBounds_toArray, List.set_cons_zero, List.set_cons_succ, i64_w, i32_w]
        rfl
      refine take_ (i := 25) (N := some 45) (v := ?_) (a' := ?_) #[true, true, true, true, true, true, true, true, true, true, true, true, true, true, true, false, true, true, true, true, false, false, true, true, true, true, false, false, false] rfl rfl (take_ofW HT_.out HW_.out (by kernel_rfl)) (fun _ _ _ h => h) (Or.inl ⟨by rfl, ?_⟩) hHeld ?_ ?_
      rotate_left
      · intro w' hSt
        have hx4 := (HPW.out.below hSt).blk.c4
        go_simp
        with_reducible rfl
      rotate_left
      · simp only [Act.put, List.setIfInBounds_toArray, List.set_cons_zero, List.set_cons_succ, i64_w, i32_w]
        rfl
      refine pure_ (i := 15) (N := some 35) (v := ?_) (a' := ?_) #[true, true, true, true, true, true, true, true, true, true, true, true, true, true, true, true, true, true, true, true, false, false, true, true, true, true, false, false, false] rfl rfl (any_of HT_.out (by kernel_rfl)) (fun _ _ _ h => h) (Or.inl ⟨by rfl, ?_⟩) ?_ ?_
      rotate_left
      · intro w'
        go_simp
        with_reducible rfl
      rotate_left
      · simp only [Act.put, List.setIfInBounds_toArray, List.set_cons_zero, List.set_cons_succ, i64_w, i32_w]
        rfl
      refine pure_ (i := 20) (N := some 40) (v := ?_) (a' := ?_) #[true, true, true, true, true, true, true, true, true, true, true, true, true, true, true, true, true, true, true, true, true, false, true, true, true, true, false, false, false] rfl rfl (any_of HT_.out (by kernel_rfl)) (fun _ _ _ h => h) (Or.inl ⟨by rfl, ?_⟩) ?_ ?_
      rotate_left
      · intro w'
        go_simp
        with_reducible rfl
      rotate_left
      · simp only [Act.put, List.setIfInBounds_toArray, List.set_cons_zero, List.set_cons_succ, i64_w, i32_w]
        rfl
      refine pure_ (i := 26) (N := some 46) (v := ?_) (a' := ?_) #[true, true, true, true, true, true, true, true, true, true, true, true, true, true, true, true, true, true, true, true, true, false, true, true, true, true, true, false, false] rfl rfl (any_of HT_.out (by kernel_rfl)) (fun _ _ _ h => h) (Or.inl ⟨by rfl, ?_⟩) ?_ ?_
      rotate_left
      · intro w'
        go_simp
        with_reducible rfl
      rotate_left
      · simp only [Act.put, List.setIfInBounds_toArray, List.set_cons_zero, List.set_cons_succ, i64_w, i32_w]
        rfl
      refine pure_ (i := 21) (N := some 41) (v := ?_) (a' := ?_) #[true, true, true, true, true, true, true, true, true, true, true, true, true, true, true, true, true, true, true, true, true, true, true, true, true, true, true, false, false] rfl rfl (any_of HT_.out (by kernel_rfl)) (fun _ _ _ h => h) (Or.inl ⟨by rfl, ?_⟩) ?_ ?_
      rotate_left
      · intro w'
        go_simp
        with_reducible rfl
      rotate_left
      · simp only [Act.put, List.setIfInBounds_toArray, List.set_cons_zero, List.set_cons_succ, i64_w, i32_w]
        rfl
      refine pure_ (i := 27) (N := some 47) (v := ?_) (a' := ?_) #[true, true, true, true, true, true, true, true, true, true, true, true, true, true, true, true, true, true, true, true, true, true, true, true, true, true, true, true, false] rfl rfl (any_of HT_.out (by kernel_rfl)) (fun _ _ _ h => h) (Or.inl ⟨by rfl, ?_⟩) ?_ ?_
      rotate_left
      · intro w'
        go_simp
        with_reducible rfl
      rotate_left
      · simp only [Act.put, List.setIfInBounds_toArray, List.set_cons_zero, List.set_cons_succ, i64_w, i32_w]
        rfl
      refine pure_ (i := 28) (N := some 48) (v := ?_) (a' := ?_) #[true, true, true, true, true, true, true, true, true, true, true, true, true, true, true, true, true, true, true, true, true, true, true, true, true, true, true, true, true] rfl rfl (any_of HT_.out (by kernel_rfl)) (fun _ _ _ h => h) (Or.inl ⟨by rfl, ?_⟩) ?_ ?_
      rotate_left
      · intro w'
        go_simp
        with_reducible rfl
      rotate_left
      · simp only [Act.put, List.setIfInBounds_toArray, List.set_cons_zero, List.set_cons_succ, i64_w, i32_w]
        rfl
      refine done_ (done_of HT_.out (by kernel_rfl)) ?_
      have HPX := Aside0.mk (HPW.out.below hHeld)
      have HCX := Aside0.mk (HC.out.trans (Chg.of_below hHeld))
      clear hS0 hHeld HT_ HW_ HPW HC HWV e1 e2 e3
      obtain ⟨pk, hpk⟩ := Int.eq_ofNat_of_zero_le hp0
      have hpm : pk < m := by omega
      have HPK := Aside0.mk (show ((lateF now tm S D i).1 i).2.1 = (pk : Int) by rw [HA.out]; exact hpk)
      have HNY := HNX.out
      rw [hpk, Int.toNat_natCast] at HNY
      replace HNX := Aside0.mk HNY
      have hwr : Go.RowKit.wrap64 ((lateF now tm S D i).2 pk + 1) = (lateF now tm S D i).2 pk + 1 := by
        have := HD.out pk
        have := HBB.out
        unfold Go.RowKit.wrap64
        omega
      have hm64 := HPX.out.m1
      clear hp0 hp1 hpk HNY hcw
      go_upto_region 5 with (fail)
      have hS0 : Below wd.heap.size wd wd.drew := below_drew1 (Below.refl _ _)
      refine start_ (n := 13) (S := fun w' => Below wd.heap.size wd w') (ds := [12]) #[false, false, false, false, false, false, false, false, false, false, false, false, false] (by kernel_rfl) rfl rfl (by exact hS0) (fun hHeld => ?_)
      refine with_tabW lat_tab5 lat_bits5 (fun HT_ HW_ => ?_)
      generalize wd.drew = we at hHeld hS0 ⊢
      refine pure_ (i := 0) (N := some 49) (v := ?_) (a' := ?_) #[true, false, false, false, false, false, false, false, false, false, false, false, false] rfl rfl (any_of HT_.out (by kernel_rfl)) (fun _ _ _ h => h) (Or.inl ⟨by rfl, ?_⟩) ?_ ?_
      rotate_left
      · intro w'
        go_simp
        with_reducible rfl
      rotate_left
      · simp only [Act.put, List.setIfInBounds_toArray, List.set_cons_zero, List.set_cons_succ, i64_w, i32_w]
        rfl
      refine pure_ (i := 1) (N := some 50) (v := ?_) (a' := ?_) #[true, true, false, false, false, false, false, false, false, false, false, false, false] rfl rfl (any_of HT_.out (by kernel_rfl)) (fun _ _ _ h => h) (Or.inl ⟨by rfl, ?_⟩) ?_ ?_
      rotate_left
      · intro w'
        go_simp
        with_reducible rfl
      rotate_left
      · simp only [Act.put, List.setIfInBounds_toArray, List.set_cons_zero, List.set_cons_succ, i64_w, i32_w]
        rfl
      refine pure_ (i := 2) (N := some 51) (v := ?_) (a' := ?_) #[true, true, true, false, false, false, false, false, false, false, false, false, false] rfl rfl (any_of HT_.out (by kernel_rfl)) (fun _ _ _ h => h) (Or.inl ⟨by rfl, ?_⟩) ?_ ?_
      rotate_left
      · intro w'
        go_simp
        with_reducible rfl
      rotate_left
      · simp only [Act.put, List.setIfInBounds_toArray, List.set_cons_zero, List.set_cons_succ, i64_w, i32_w]
        rfl
      refine pure_ (i := 4) (N := some 53) (v := ?_) (a' := ?_) #[true, true, true, false, true, false, false, false, false, false, false, false, false] rfl rfl (any_of HT_.out (by kernel_rfl)) (fun _ _ _ h => h) (Or.inl ⟨by rfl, ?_⟩) ?_ ?_
      rotate_left
      · intro w'
        go_simp
        with_reducible rfl
      rotate_left
      · simp only [Act.put, List.setIfInBounds_toArray, List.set_cons_zero, List.set_cons_succ, i64_w, i32_w]
        rfl
      refine pure_ (i := 5) (N := some 54) (v := ?_) (a' := ?_) #[true, true, true, false, true, true, false, false, false, false, false, false, false] rfl rfl (any_of HT_.out (by kernel_rfl)) (fun _ _ _ h => h) (Or.inl ⟨by rfl, ?_⟩) ?_ ?_
      rotate_left
      · intro w'
        go_simp
        with_reducible rfl
      rotate_left
      · simp only [Act.put, List.setIfInBounds_toArray, List.set_cons_zero, List.set_cons_succ, i64_w, i32_w]
        rfl
      refine pure_ (i := 6) (N := some 55) (v := ?_) (a' := ?_) #[true, true, true, false, true, true, true, false, false, false, false, false, false] rfl rfl (any_of HT_.out (by kernel_rfl)) (fun _ _ _ h => h) (Or.inl ⟨by rfl, ?_⟩) ?_ ?_
      rotate_left
      · intro w'
        go_simp
        with_reducible rfl
      rotate_left
      · simp only [Act.put, List.setIfInBounds_toArray, List.set_cons_zero, List.set_cons_succ, i64_w, i32_w]
        rfl
      refine take_ (i := 3) (N := some 52) (v := ?_) (a' := ?_) #[true, true, true, true, true, true, true, false, false, false, false, false, false] rfl rfl (take_ofW HT_.out HW_.out (by kernel_rfl)) (fun _ _ _ h => h) (Or.inl ⟨by rfl, ?_⟩) hHeld ?_ ?_
      rotate_left
      · intro w' hSt
        have hx0 := (HPX.out.below hSt).blk.c1
        go_simp
        with_reducible rfl
      rotate_left
      · simp only [Act.put, List.setIfInBounds_toArray, List.set_cons_zero, List.set_cons_succ, i64_w, i32_w]
        rfl
      refine take_ (i := 7) (N := some 56) (v := ?_) (a' := ?_) #[true, true, true, true, true, true, true, true, false, false, false, false, false] rfl rfl (take_ofW HT_.out HW_.out (by kernel_rfl)) (fun _ _ _ h => h) (Or.inl ⟨by rfl, ?_⟩) hHeld ?_ ?_
      rotate_left
      · intro w' hSt
        have hx1 := ((HPX.out.below hSt).ch.cu i hlt).2.1
        rw [HPK.out] at hx1
        go_simp
        with_reducible rfl
      rotate_left
      · simp only [Act.put, List.setIfInBounds_toArray, List.set_cons_zero, List.set_cons_succ, i64_w, i32_w]
        rfl
      refine pure_ (i := 8) (N := some 57) (v := ?_) (a' := ?_) #[true, true, true, true, true, true, true, true, true, false, false, false, false] rfl rfl (any_of HT_.out (by kernel_rfl)) (fun _ _ _ h => h) (Or.inl ⟨by rfl, ?_⟩) ?_ ?_
      rotate_left
      · intro w'
        go_simp
        with_reducible rfl
      rotate_left
      · simp only [Act.put, List.setIfInBounds_toArray, List.set_cons_zero, List.set_cons_succ, i64_w, i32_w]
        rfl
      refine take_ (i := 9) (N := some 58) (v := ?_) (a' := ?_) #[true, true, true, true, true, true, true, true, true, true, false, false, false] rfl rfl (take_ofW HT_.out HW_.out (by kernel_rfl)) (fun _ _ _ h => h) (Or.inl ⟨by rfl, ?_⟩) hHeld ?_ ?_
      rotate_left
      · intro w' hSt
        have hx2 := (HPX.out.below hSt).de.cu pk hpm
        go_simp
        with_reducible rfl
      rotate_left
      · simp only [Act.put, List.setIfInBounds_toArray, List.set_cons_zero, List.set_cons_succ, i64_w, i32_w]
        rfl
      refine pure_ (i := 10) (N := some 59) (v := ?_) (a' := ?_) #[true, true, true, true, true, true, true, true, true, true, true, false, false] rfl rfl (any_of HT_.out (by kernel_rfl)) (fun _ _ _ h => h) (Or.inl ⟨by rfl, ?_⟩) ?_ ?_
      rotate_left
      · intro w'
        go_simp
        with_reducible rfl
      rotate_left
      · simp only [Act.put, List.setIfInBounds_toArray, List.set_cons_zero, List.set_cons_succ, i64_w, i32_w]
        rfl
      refine pure_ (i := 11) (N := some 60) (v := ?_) (a' := ?_) #[true, true, true, true, true, true, true, true, true, true, true, true, false] rfl rfl (any_of HT_.out (by kernel_rfl)) (fun _ _ _ h => h) (Or.inl ⟨by rfl, ?_⟩) ?_ ?_
      rotate_left
      · intro w'
        go_simp
        with_reducible rfl
      rotate_left
      · simp only [Act.put, List.setIfInBounds_toArray, List.set_cons_zero, List.set_cons_succ, i64_w, i32_w]
        rfl
      refine last_ (i := 12) (N := none) #[true, true, true, true, true, true, true, true, true, true, true, true, true] rfl rfl (one_of HT_.out (by kernel_rfl)) (by decide) (fun K hK => ?_)
      have y0 := (HPX.out.below hHeld).de.cu pk hpm
      have z0 := (HPX.out.below hHeld).de.fz pk
      refine skip_ (w1 := ?_) (by rfl) rfl ?_ ?_
      rotate_left
      · go_simp
        rfl
      clear y0 z0
      have HPY := Aside0.mk ((HPX.out.below hHeld).putD pk hpm ((lateF now tm S D i).2 pk + 1))
      have HCY := Aside0.mk ((HCX.out.trans (Chg.of_below hHeld)).trans (Chg.of_set gd pk _ (.int .i64 ((lateF now tm S D i).2 pk + 1)) (Or.inr (Or.inl rfl))))
      generalize we.setCell ⟨gd, pk, none⟩ (.int .i64 ((lateF now tm S D i).2 pk + 1)) = wf at HPY HCY ⊢
      refine hK.out _ _ ?_
      clear hK K
      refine norm_ (a' := ?_) ?_ ?_
      rotate_left
      · first
        | (show Act.put _ none _ = _; simp only [Act.put, List.setIfInBounds_toArray, List.set_cons_zero, List.set_cons_succ, i64_w, i32_w]; rfl)
        | rfl
      refine done_ (done_of HT_.out (by kernel_rfl)) ?_
      have y0 := HPY.out.ch.cu i hlt
      have z0 := HPY.out.ch.fz (i * 3)
      have z1 := HPY.out.ch.fz (i * 3 + 1)
      have z2 := HPY.out.ch.fz (i * 3 + 2)
      obtain ⟨y1, y2, y3⟩ := y0
      have HPZ := Aside0.mk (HPY.out.put i hlt (0, 0, 0))
      have HCZ := Aside0.mk (HCY.out.trans ((put3_chg wf gc i (0, 0, 0) gd gd)))
      clear hwr HPX HCX HPY HCY
      go_wp2
      go_roundw
      case rel => exact ⟨i + 1, by omega, by first | rfl | go_num, by rw [HNX.out]; exact HPZ, HCZ⟩
      case measure => simp [intOf]; omega
    · obtain rfl : n = i := by omega
      go_wp2
      go_end0
      exact ⟨⟨_, rfl⟩, HPW.out, HC.out⟩
end Go.Proofs.YtoiblfmlahedlaaDoor.As
end
