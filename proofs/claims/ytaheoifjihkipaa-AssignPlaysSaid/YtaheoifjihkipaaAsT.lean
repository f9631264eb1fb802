/- What calls of Go functions of this seat come to, as the rows need it: under the conditions that each theorem names. -/
import Derived.Test.YtaheoifjihkipaaAsS
import Derived.Deep.RegionWith
namespace Go.Proofs.Ytaheoifjihkipaa.As
open Go.RowKit Go.Proofs.YtaheoifjihkipaaW.PrintWords Go.Proofs.YtaheoifjihkipaaW.PrintLast Go.Proofs.YtaheoifjihkipaaW.PrintMore
set_option linter.unusedVariables false
set_option linter.unusedSimpArgs false
open Go.Maps
theorem infoC : (Try.prog.info? 55).map (fun i => (i.zero, i.size, i.bytes)) = some (some (.agg #[.int .i64 0, .int .i64 0, .int .i64 0]), 3, 24) := by kernel_rfl
theorem infoI : (Try.prog.info? 3).map (fun i => (i.zero, i.size, i.bytes)) = some (some (.int .i64 0), 1, 8) := by kernel_rfl
def zC (n : Nat) : Array Value := madeCells #[.int .i64 0, .int .i64 0, .int .i64 0] (n * 3)
def zI (n : Nat) : Array Value := madeCells #[.int .i64 0] (n * 1)
theorem zC_at (n j : Nat) (h : j < n * 3) : (zC n)[j]? = some (.int .i64 0) := by
  unfold zC madeCells
  have : j % 3 = 0 ∨ j % 3 = 1 ∨ j % 3 = 2 := by omega
  rcases this with e | e | e <;> simp [h, e]
theorem zI_at (n j : Nat) (h : j < n) : (zI n)[j]? = some (.int .i64 0) := by
  unfold zI madeCells
  have : j < n * 1 := by omega
  have e : (Array.range (n * 1))[j]? = some j := by rw [Array.getElem?_range]; simp [h]
  rw [Array.getElem?_map, e]
  simp [Nat.mod_one]
theorem make_C (n : Nat) (hn : n ≤ 100) (w : World) : (Instr.makeSlice 48 (.int .i64 (n : Int)) (.int .i64 (n : Int))).run Try.prog w = .ok (.slice (some ⟨w.heap.size, 0, none⟩) n n) (w.alloc (.cells (zC n) 55)) := by
  obtain ⟨i, hi, hz, hs, hb⟩ := info_parts infoC
  have h := run_make (P := Try.prog) w 48 55 i _ Try.underlying48 hi hz .i64 .i64 (n : Int) (n : Int) (by omega) (Int.le_refl _) (by rw [hb]; omega) (by omega)
  rw [hs] at h
  simp only [Int.toNat_natCast] at h
  exact h
theorem make_I (n : Nat) (hn : n ≤ 100) (w : World) : (Instr.makeSlice 35 (.int .i64 (n : Int)) (.int .i64 (n : Int))).run Try.prog w = .ok (.slice (some ⟨w.heap.size, 0, none⟩) n n) (w.alloc (.cells (zI n) 3)) := by
  obtain ⟨i, hi, hz, hs, hb⟩ := info_parts infoI
  have h := run_make (P := Try.prog) w 35 3 i _ Try.underlying35 hi hz .i64 .i64 (n : Int) (n : Int) (by omega) (Int.le_refl _) (by rw [hb]; omega) (by omega)
  rw [hs] at h
  simp only [Int.toNat_natCast] at h
  exact h
theorem new_fin {w w4 : World} {p gc gd gm n m : Nat} {win tm : Int} (hn : n ≤ 100) (hm : m ≤ 64) (ht : 1 ≤ tm ∧ tm ≤ 1000000) (hb : Below w.heap.size w w4)
    (hp : w4.heap[p]? = some (.cells #[.slice (some ⟨gc, 0, none⟩) n n, .slice (some ⟨gd, 0, none⟩) m m, .map (some gm), .int .i64 win, .int .i64 tm] 51 (0, 0)))
    (hc : w4.heap[gc]? = some (.cells (zC n) 55 (0, 0))) (hd : w4.heap[gd]? = some (.cells (zI m) 3 (0, 0))) (hg : w4.heap[gm]? = some (.map #[] 0))
    (l1 : w.heap.size ≤ p) (l2 : w.heap.size ≤ gc) (l3 : w.heap.size ≤ gd) (l4 : w.heap.size ≤ gm) (e1 : p ≠ gc ∧ p ≠ gd ∧ gc ≠ gd ∧ gm ≠ p ∧ gm ≠ gc ∧ gm ≠ gd) :
    PW w4 p gc gd gm n m n m win tm 0 (fun _ => (0, 0, 0), fun _ => 0, fun _ _ => 0) ∧ Below w.heap.size w w4 ∧ w.heap.size ≤ p ∧ w.heap.size ≤ gc ∧ w.heap.size ≤ gd ∧ w.heap.size ≤ gm := by
  obtain ⟨a1, a2, a3, a4, a5, a6⟩ := e1
  refine ⟨⟨⟨hp, ⟨zC n, hc, Nat.le_of_eq (by simp [zC, size_madeCells]), fun i hi => ⟨zC_at _ _ (by omega), zC_at _ _ (by omega), zC_at _ _ (by omega)⟩⟩, ⟨zI m, hd, Nat.le_of_eq (by simp [zI, size_madeCells]), fun k hk => zI_at _ _ hk⟩, hn, hm, a1, a2, a3, a4, a5, a6⟩, ?_, ⟨(fun i hi hs => by cases hs), fun k => ⟨Int.le_refl _, by show (0 : Int) ≤ _; omega⟩⟩, fun i k => ⟨Int.le_refl _, Int.le_refl _⟩, ht.1, ht.2⟩, hb, l1, l2, l3, l4⟩
  exact ⟨_, ⟨#[], 0, hg, ⟨by simp, ⟨by simp, by simp⟩, by simp⟩, Nat.le_refl _, rfl⟩, ⟨[], rfl⟩, fun i k _ _ => rfl⟩
theorem al_new {w : World} {o : Obj} {k : Nat} (h : k = w.heap.size) : (w.alloc o).heap[k]? = some o := by subst h; exact heap_new w o
theorem al_old {w : World} {o x : Obj} {k : Nat} (h : w.heap[k]? = some x) : (w.alloc o).heap[k]? = some x := heap_keep h ((Below.refl _ _).alloc (Nat.le_refl _) _)
theorem al_drew {w : World} {x : Obj} {k : Nat} (h : w.heap[k]? = some x) : w.drew.heap[k]? = some x := h
set_option maxHeartbeats 3200000 in
set_option maxRecDepth 100000 in
theorem new_yes (n m : Nat) (win tm : Int) (w : World) (h : mayB n m win tm = true) : Calls Try.prog 9 #[.int .i64 (n : Int), .int .i64 (m : Int), .int .i64 win, .int .i64 tm] w fun e w' => ∃ p gc gd gm cc cd, e = .returned (.tuple #[.pointer (some ⟨p, 0, none⟩), .int .i64 0]) ∧
    PW w' p gc gd gm cc cd n m win tm 0 (fun _ => (0, 0, 0), fun _ => 0, fun _ _ => 0) ∧ Below w.heap.size w w' ∧ w.heap.size ≤ p ∧ w.heap.size ≤ gc ∧ w.heap.size ≤ gd ∧ w.heap.size ≤ gm := by
  have H1 := Aside0.mk (in_calls n 0 100)
  have H2 := Aside0.mk (in_calls m 0 64)
  have H3 := Aside0.mk (in_calls win 1 100)
  have H4 := Aside0.mk (in_calls tm 1 1000000)
  have hh : ((inB n 0 100 = true ∧ inB m 0 64 = true) ∧ inB win 1 100 = true) ∧ inB tm 1 1000000 = true := by simpa [mayB] using h
  obtain ⟨⟨⟨a1, a2⟩, a3⟩, a4⟩ := hh
  rw [a1] at H1
  rw [a2] at H2
  rw [a3] at H3
  rw [a4] at H4
  have b1 : n ≤ 100 := by have := of_decide_eq_true a1; omega
  have b2 : m ≤ 64 := by have := of_decide_eq_true a2; omega
  have HB4 := Aside0.mk (of_decide_eq_true a4)
  clear h a1 a2 a3 a4
  have k1 := make_C n b1
  have k2 := make_I m (by omega)
  have k3 := @run_makeMap Try.prog
  go_enter Try.func9, Try.ntmps9
  go_wp2_with fail
  refine (H1.out _).mono ?_
  rintro e w1 ⟨rfl, hw⟩
  replace hw := hw.symm
  subst hw
  go_wp2_with fail
  refine (H2.out _).mono ?_
  rintro e w1 ⟨rfl, hw⟩
  replace hw := hw.symm
  subst hw
  go_wp2_with fail
  refine (H3.out _).mono ?_
  rintro e w1 ⟨rfl, hw⟩
  replace hw := hw.symm
  subst hw
  go_wp2_with fail
  refine (H4.out _).mono ?_
  rintro e w1 ⟨rfl, hw⟩
  replace hw := hw.symm
  subst hw
  go_upto_region 4 with (fail)
  go_region_with (fail)
  all_goals
    go_wp2
    go_ret2
  · exact ⟨w.heap.size + 1 + 1 + 1, w.heap.size, w.heap.size + 1, w.heap.size + 1 + 1, n, m, by simp [Act.put], new_fin b1 b2 HB4.out (by repeat (first | exact Below.refl _ _ | apply below_drew1 | apply below_alloc)) (by refine al_drew ?_; repeat (first | exact al_new (by simp) | refine al_old ?_)) (by refine al_drew ?_; repeat (first | exact al_new (by simp) | refine al_old ?_)) (by refine al_drew ?_; repeat (first | exact al_new (by simp) | refine al_old ?_)) (by refine al_drew ?_; repeat (first | exact al_new (by simp) | refine al_old ?_)) (by omega) (by omega) (by omega) (by omega) (by omega)⟩
  · exact ⟨w.heap.size + 1 + 1 + 1, w.heap.size, w.heap.size + 1 + 1, w.heap.size + 1, n, m, by simp [Act.put], new_fin b1 b2 HB4.out (by repeat (first | exact Below.refl _ _ | apply below_drew1 | apply below_alloc)) (by refine al_drew ?_; repeat (first | exact al_new (by simp) | refine al_old ?_)) (by refine al_drew ?_; repeat (first | exact al_new (by simp) | refine al_old ?_)) (by refine al_drew ?_; repeat (first | exact al_new (by simp) | refine al_old ?_)) (by refine al_drew ?_; repeat (first | exact al_new (by simp) | refine al_old ?_)) (by omega) (by omega) (by omega) (by omega) (by omega)⟩
  · exact ⟨w.heap.size + 1 + 1 + 1, w.heap.size + 1, w.heap.size, w.heap.size + 1 + 1, n, m, by simp [Act.put], new_fin b1 b2 HB4.out (by repeat (first | exact Below.refl _ _ | apply below_drew1 | apply below_alloc)) (by refine al_drew ?_; repeat (first | exact al_new (by simp) | refine al_old ?_)) (by refine al_drew ?_; repeat (first | exact al_new (by simp) | refine al_old ?_)) (by refine al_drew ?_; repeat (first | exact al_new (by simp) | refine al_old ?_)) (by refine al_drew ?_; repeat (first | exact al_new (by simp) | refine al_old ?_)) (by omega) (by omega) (by omega) (by omega) (by omega)⟩
  · exact ⟨w.heap.size + 1 + 1 + 1, w.heap.size + 1 + 1, w.heap.size, w.heap.size + 1, n, m, by simp [Act.put], new_fin b1 b2 HB4.out (by repeat (first | exact Below.refl _ _ | apply below_drew1 | apply below_alloc)) (by refine al_drew ?_; repeat (first | exact al_new (by simp) | refine al_old ?_)) (by refine al_drew ?_; repeat (first | exact al_new (by simp) | refine al_old ?_)) (by refine al_drew ?_; repeat (first | exact al_new (by simp) | refine al_old ?_)) (by refine al_drew ?_; repeat (first | exact al_new (by simp) | refine al_old ?_)) (by omega) (by omega) (by omega) (by omega) (by omega)⟩
  · exact ⟨w.heap.size + 1 + 1 + 1, w.heap.size + 1, w.heap.size + 1 + 1, w.heap.size, n, m, by simp [Act.put], new_fin b1 b2 HB4.out (by repeat (first | exact Below.refl _ _ | apply below_drew1 | apply below_alloc)) (by refine al_drew ?_; repeat (first | exact al_new (by simp) | refine al_old ?_)) (by refine al_drew ?_; repeat (first | exact al_new (by simp) | refine al_old ?_)) (by refine al_drew ?_; repeat (first | exact al_new (by simp) | refine al_old ?_)) (by refine al_drew ?_; repeat (first | exact al_new (by simp) | refine al_old ?_)) (by omega) (by omega) (by omega) (by omega) (by omega)⟩
  · exact ⟨w.heap.size + 1 + 1 + 1, w.heap.size + 1 + 1, w.heap.size + 1, w.heap.size, n, m, by simp [Act.put], new_fin b1 b2 HB4.out (by repeat (first | exact Below.refl _ _ | apply below_drew1 | apply below_alloc)) (by refine al_drew ?_; repeat (first | exact al_new (by simp) | refine al_old ?_)) (by refine al_drew ?_; repeat (first | exact al_new (by simp) | refine al_old ?_)) (by refine al_drew ?_; repeat (first | exact al_new (by simp) | refine al_old ?_)) (by refine al_drew ?_; repeat (first | exact al_new (by simp) | refine al_old ?_)) (by omega) (by omega) (by omega) (by omega) (by omega)⟩
end Go.Proofs.Ytaheoifjihkipaa.As
