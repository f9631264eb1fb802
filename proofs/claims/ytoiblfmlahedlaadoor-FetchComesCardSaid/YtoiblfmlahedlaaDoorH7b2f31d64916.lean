/- What calls of Go functions of this seat come to, as the rows need it: under the conditions that each theorem names. -/
import Derived.Test.YtoiblfmlahedlaaDoorH9754ffa71ed7
import Derived.Test.YtoiblfmlahedlaaDoorH1f87673584ff
import Derived.Test.YtoiblfmlahedlaaDoorH68227917bba1
import Derived.Test.YtoiblfmlahedlaaDoorProg
import Derived.Below
import Derived.Deep.Draws
import Derived.Deep.AppendLies
import Derived.Maps.AppendAt
import Derived.OwnWalk
import Derived.Laws.BytesArg
import Derived.Laws.MakeOwn
import Derived.Laws.OwnMore
import Derived.Deep.OwnRows
import Derived.Tactics
import Derived.Lib.ConvBytes
import Derived.Laws.Slices
import Derived.WalkKit
import Derived.KernelRfl
import Derived.RowKit3
import Derived.Deep.LoopGhost
import Derived.Deep.QuietTactic
import Derived.BigQuiet
import Derived.WideLaws
import Derived.Deep.DeepCutAuto
import Derived.Deep.CutBlock
import Derived.Deep.RegionHeld3
import Derived.Laws.Rows
import Derived.Lib.AppendStr
import Derived.ArgAppend
import Derived.Laws.IdiomCopy
import Derived.OrdersHeld
import Derived.Laws.BitsLemmas
import Derived.RowKit
import Derived.Outline
import Derived.Sort.Row
import Derived.Sort.Grow
import Derived.WalkSpells
section
namespace Go.Proofs.YtoiblfmlahedlaaDoor.Fe
open Go.RowKit Go.Proofs.YtoiblfmlahedlaaDoorW.PrintWords Go.Proofs.YtoiblfmlahedlaaDoorW.PrintLast Go.Proofs.YtoiblfmlahedlaaDoorW.PrintMore
set_option linter.unusedVariables false
set_option linter.unusedSimpArgs false
set_option maxRecDepth 100000
open Go.Sort (Holds putRow grow ahead)
abbrev I : Kd Int := Kd.int .i64
theorem infoI : (Tryd.prog.info? 3).map (fun i => (i.zero, i.size, i.bytes)) = some (some (.int .i64 0), 1, 8) := by kernel_rfl
set_option maxHeartbeats 1600000 in
theorem clone_nil (c : Nat) (w : World) : Calls Tryd.prog 30 #[.slice none 0 c] w fun e w' => e = .returned (.slice none 0 0) ∧ w' = w := by
  have hq := Lib.run_eql_slice_nil (P := Tryd.prog) w 23 3 none 0 c 0 0 Tryd.underlying23
  go_enter Tryd.func30, Tryd.ntmps30
  go_wp2
  go_ret
  exact ⟨rfl, rfl⟩
set_option maxHeartbeats 1600000 in
theorem clone_some (a : Addr) (c : Nat) (xs : List Int) (w : World) (hr : I.C w (some a) xs.length xs) (hl : xs.length ≤ 1000000) :
    Calls Tryd.prog 30 #[.slice (some a) xs.length c] w fun e w' => ∃ v, e = .returned v ∧ Kd.R I 3 w' w.heap.size (fun _ => True) v xs ∧ v ≠ .slice none 0 0 ∧ Below w.heap.size w w' := by
  have HR := Aside0.mk hr
  clear hr
  have hq := Lib.run_eql_slice_nil (P := Tryd.prog) w 23 3 (some a) xs.length c 0 0 Tryd.underlying23
  go_enter Tryd.func30, Tryd.ntmps30
  go_upto_region 3 with (fail)
  go_wp2_with (first
    | ((with_reducible refine gate_dst (N := 5) rfl ?_); refine Kd.R_lit I (w0 := w) w.heap.size 3 ?hg (N := 5) ?hd (xs := ([] : List Int)) (inner := []) (ok := fun _ => True) (okp := fun _ => True) ?hr ?hp (fun _ hk => hk) trivial (Below.refl _ _) (Nat.le_refl _) (by simp) ?_; (case hd => rfl); (case hg => rfl); (case hr => first | (go_simp; done) | (go_simp; rfl)); (case hp => exact Reps.none _ _); intro v2 w2 ho hb1 hg2 hnew; have HO2 := Aside0.mk ho; have HB2 := Aside0.mk hb1; have HN2 := Aside0.mk hnew; clear ho hb1 hg2 hnew)
    | ((with_reducible refine gate_builtin (b := .append) (xs := #[.tmp 5, .tmp 6]) rfl ?_); at_builtin; refine Kd.R_append_rows I (w0 := w) w.heap.size rfl (.tmp 5) (.tmp 6) 23 3 (.int .i64 0) 8 rfl Tryd.underlying23 infoI rfl (by decide) (by omega) _ [] xs _ _ _ (fun _ => True) (fun _ => False) rfl rfl HO2.out (Kd.C_below HR.out HB2.out) (fun _ _ h => h) (fun _ h => h.elim) (fun _ _ => trivial) HB2.out HB2.out.size ?aL ?_; (case aL => simp; omega); intro v3 w3 ho hb2 hg hat; have HO3 := Aside0.mk ho; have HB3 := Aside0.mk hb2; have HA3 := Aside0.mk hat; clear ho hb2 hg hat))
  rw [List.nil_append] at HO3
  go_ret
  refine ⟨_, rfl, HO3.out, ?_, HB3.out⟩
  intro e
  have h1 := HA3.out
  obtain ⟨b, hb, _⟩ := HN2.out
  rcases h1 with h1 | ⟨b', hb', _⟩
  · have h2 : (Value.slice none 0 0).ownBlock = some b := (congrArg Value.ownBlock e.symm).trans (h1.trans hb)
    simp [Value.ownBlock] at h2
  · have h2 : (Value.slice none 0 0).ownBlock = some b' := (congrArg Value.ownBlock e.symm).trans hb'
    simp [Value.ownBlock] at h2
structure Nm (w : World) (base g cap : Nat) (xs : List Int) : Prop where
  hb : base ≤ g
  hg : g < w.heap.size
  hh : Holds (Value.int .i64) w g 0 xs.toArray
  hc : xs.length ≤ cap
theorem nm_of_R {w : World} {base : Nat} {v : Value} {xs : List Int} (h : Kd.R I 3 w base (fun _ => True) v xs) (hv : v ≠ .slice none 0 0) : ∃ g cap, v = .slice (some ⟨g, 0, none⟩) xs.length cap ∧ Nm w base g cap xs := by
  have ho := Kd.own_of_R h
  rcases ho.2 with ⟨h0, _⟩ | ⟨g, cap, cur, rfl, hB, hg, hnc, hcm, hcs, ht⟩
  · exact absurd h0 hv
  · refine ⟨g, cap, rfl, hB, (Array.getElem?_eq_some_iff.1 hg).1, fun j hj => ?_, hnc⟩
    have hj' : j < xs.length := by simpa using hj
    have hcell : cur[j]? = some (.int .i64 xs[j]) := by
      have e : (cur.toList.take (xs.length * 1))[j]? = cur.toList[j]? := List.getElem?_take_of_lt (by omega)
      rw [ht] at e
      rw [← Array.getElem?_toList, ← e]
      unfold encs
      rw [List.getElem?_map, List.getElem?_eq_getElem hj']
      rfl
    refine ⟨?_, by simp [World.frozen?, hg]⟩
    rw [Nat.zero_add, getElem!_pos xs.toArray j hj]
    simp only [World.cell?, hg]
    simpa using hcell
theorem below_put {w : World} {base g : Nat} (hb : base ≤ g) (hg : g < w.heap.size) (n : Nat) (d : Array Int) (os : Array Obj) : Below base w (grow (putRow (Value.int .i64) (Go.Sort.ahead w n) g 0 d) os) := by
  refine ⟨rfl, rfl, rfl, ?_, fun k hk => ?_⟩
  · simp [grow, putRow, Go.Sort.mapBlock, Go.Sort.ahead]
  · have hk2 : k < w.heap.size := by omega
    have hk3 : g ≠ k := by omega
    rw [Go.Sort.heap_grow_old _ _ (by simpa [putRow, Go.Sort.mapBlock, Go.Sort.ahead] using hk2)]
    simp [putRow, Go.Sort.mapBlock, Go.Sort.ahead, Array.getElem?_modify, hk3]
theorem nm_put {w : World} {base g cap : Nat} {xs ys : List Int} (h : Nm w base g cap xs) (hl : ys.length = xs.length) (n : Nat) (os : Array Obj) : Nm (grow (putRow (Value.int .i64) (Go.Sort.ahead w n) g 0 ys.toArray) os) base g cap ys := by
  have hs : (putRow (Value.int .i64) (Go.Sort.ahead w n) g 0 ys.toArray).heap.size = w.heap.size := by simp [putRow, Go.Sort.mapBlock, Go.Sort.ahead]
  refine ⟨h.hb, ?_, ?_, by have := h.hc; omega⟩
  · have := h.hg
    simp only [Go.Sort.size_grow, hs]
    omega
  · refine Go.Sort.holds_grow _ _ _ _ _ _ (by rw [hs]; exact h.hg) ?_
    exact Go.Sort.holds_putRow _ _ _ _ xs.toArray _ h.hh (by simpa using hl)
theorem sort_calls {base g cap : Nat} {xs : List Int} (w : World) (h : Nm w base g cap xs) (hl : xs.length ≤ 1000000) :
    Calls Tryd.prog 31 #[.slice (some ⟨g, 0, none⟩) xs.length cap] w fun e w' => e = .returned (.tuple #[]) ∧ Nm w' base g cap (xs.mergeSort fun x y => decide (x ≤ y)) ∧ Below base w w' := by
  refine (Tryd.slices_Sort_int g 0 cap xs w h.hh h.hg (by omega)).mono ?_
  rintro e w' ⟨rfl, n, os, rfl⟩
  exact ⟨rfl, nm_put h (List.length_mergeSort _) n os, below_put h.hb h.hg n _ os⟩
theorem compact_calls {base g cap : Nat} {xs : List Int} (w : World) (h : Nm w base g cap xs) (hl : xs.length ≤ 1000000) :
    Calls Tryd.prog 32 #[.slice (some ⟨g, 0, none⟩) xs.length cap] w fun e w' => e = .returned (.slice (some ⟨g, 0, none⟩) (Go.Lib.compact xs).length cap) ∧ Below base w w' := by
  refine (Tryd.slices_Compact_int g 0 cap xs w h.hh (by omega) h.hc).mono ?_
  rintro e w' ⟨rfl, n, rfl⟩
  refine ⟨rfl, ?_⟩
  have := below_put h.hb h.hg n (Go.Lib.compact xs ++ List.replicate (xs.length - (Go.Lib.compact xs).length) 0).toArray #[]
  rwa [Go.Sort.grow_empty] at this
abbrev srt (xs : List Int) : List Int := xs.mergeSort fun x y => decide (x ≤ y)
theorem srt_le (xs : List Int) : (srt xs).Pairwise (· ≤ ·) := by
  have h := List.pairwise_mergeSort (le := fun x y : Int => decide (x ≤ y)) (fun a b c h1 h2 => by simp at *; omega) (fun a b => by simp; omega) xs
  exact h.imp (fun h => by simpa using h)
theorem twins (xs : List Int) : (Go.Lib.compact (srt xs)).length = xs.length ↔ xs.Nodup := by
  have hp : (srt xs).Perm xs := List.mergeSort_perm xs _
  rw [← hp.nodup_iff, ← hp.length_eq]
  have hs := srt_le xs
  generalize srt xs = s at hs
  have get : ∀ j (h : j < s.length), s.toArray[j]! = s[j] := fun j h => by rw [getElem!_pos s.toArray j (by simpa using h)]; simp
  constructor
  · intro h
    have hk : ∀ j, j < s.length → Go.Lib.keeps s.toArray j = true := by
      intro j hj
      unfold Go.Lib.compact Go.Lib.compactUpTo at h
      rw [List.length_map] at h
      have h2 := List.filter_eq_self.1 (List.filter_sublist.eq_of_length (by rw [h, List.length_range]))
      exact h2 j (List.mem_range.2 hj)
    refine List.pairwise_iff_getElem.2 fun i j hi hj hij he => ?_
    have h1 := hk j hj
    have h2 : s.toArray[j]! ≠ s.toArray[j - 1]! := by
      have := of_decide_eq_true (show decide (j = 0 ∨ s.toArray[j]! ≠ s.toArray[j - 1]!) = true from h1)
      rcases this with h0 | h0
      · omega
      · exact h0
    rw [get j hj, get (j - 1) (by omega)] at h2
    have h3 : s[i] ≤ s[j - 1] := by
      by_cases e : i = j - 1
      · subst e; exact Int.le_refl _
      · exact List.pairwise_iff_getElem.1 hs i (j - 1) hi (by omega) (by omega)
    have h4 : s[j - 1] ≤ s[j] := List.pairwise_iff_getElem.1 hs (j - 1) j (by omega) hj (by omega)
    omega
  · intro h
    rw [Go.Lib.compact_all]
    intro j hj
    by_cases h0 : j = 0
    · simp [Go.Lib.keeps, h0]
    · refine Go.Lib.keeps_pos ?_
      rw [get j hj, get (j - 1) (by omega)]
      intro e
      exact List.pairwise_iff_getElem.1 h (j - 1) j (by omega) hj (by omega) e.symm
end Go.Proofs.YtoiblfmlahedlaaDoor.Fe
end
