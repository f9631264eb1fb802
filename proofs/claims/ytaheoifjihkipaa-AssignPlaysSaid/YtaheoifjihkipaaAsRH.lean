/- What calls of Go functions of this seat come to, as the rows need it: under the conditions that each theorem names. -/
import Derived.Test.YtaheoifjihkipaaAsRG
namespace Go.Proofs.Ytaheoifjihkipaa.As
open Go.RowKit Go.Proofs.YtaheoifjihkipaaW.PrintWords Go.Proofs.YtaheoifjihkipaaW.PrintLast Go.Proofs.YtaheoifjihkipaaW.PrintMore
set_option linter.unusedVariables false
set_option linter.unusedSimpArgs false
theorem Ri.of_own {w w' : World} {r k : Nat} {v : Value} (h : w.ownsRow (r + 1) 3 1 v k (List.replicate k (.int .i64 0))) (hk : 0 < k) (hb : ∀ g, v.ownBlock = some g → w'.heap[g]? = w.heap[g]?) :
    ∃ g c, v = .slice (some ⟨g, 0, none⟩) k c ∧ k ≤ c ∧ c ≤ 9223372036854775807 ∧ r + 1 ≤ g ∧ g < w.heap.size ∧ Ri w' g k (fun _ => 0) := by
  rcases h.2 with ⟨_, h0⟩ | ⟨g, cap, cur, hv, hB, hg, hnc, hcm, hcs, ht⟩
  · omega
  · subst hv
    refine ⟨g, cap, rfl, hnc, by unfold maxLen at hcm; omega, hB, (Array.getElem?_eq_some_iff.1 hg).1, cur, (hb g rfl).trans hg, by omega, fun q hq => ?_⟩
    have h1 : (cur.toList.take (k * 1))[q]? = some (.int .i64 0) := by rw [ht]; simp [hq]
    rw [List.getElem?_take_of_lt (by omega)] at h1
    simpa using h1
theorem rows_of_own {w w' : World} {r k m : Nat} {v : Value} {tl : List Nat} (hl : tl.length = k) (h : w.ownsRow (r + 1) 35 1 v tl.length (tl.map fun t => .slice (some ⟨t, 0, none⟩) m m)) (hk : 0 < k) (hb : ∀ g, v.ownBlock = some g → w'.heap[g]? = w.heap[g]?) :
    ∃ g c, v = .slice (some ⟨g, 0, none⟩) k c ∧ k ≤ c ∧ c ≤ 9223372036854775807 ∧ r + 1 ≤ g ∧ g < w.heap.size ∧ ∃ cs, w'.heap[g]? = some (.cells cs 35 (0, 0)) ∧ ∀ i, i < k → cs[i]? = some (.slice (some ⟨tl.getD i 0, 0, none⟩) m m) := by
  rcases h.2 with ⟨_, h0⟩ | ⟨g, cap, cur, hv, hB, hg, hnc, hcm, hcs, ht⟩
  · omega
  · subst hv
    rw [hl] at ht hnc
    refine ⟨g, cap, by rw [hl], hnc, by unfold maxLen at hcm; omega, hB, (Array.getElem?_eq_some_iff.1 hg).1, cur, (hb g rfl).trans hg, fun q hq => ?_⟩
    have h1 : (cur.toList.take (k * 1))[q]? = some (.slice (some ⟨tl.getD q 0, 0, none⟩) m m) := by
      rw [ht, List.getElem?_map, List.getD_eq_getElem?_getD, List.getElem?_eq_getElem (by omega)]
      rfl
    rw [List.getElem?_take_of_lt (by omega)] at h1
    simpa using h1
theorem nodup_getD {tl : List Nat} (h : tl.Nodup) {i j : Nat} (hi : i < tl.length) (hj : j < tl.length) (e : tl.getD i 0 = tl.getD j 0) : i = j := by
  rw [List.getD_eq_getElem?_getD, List.getElem?_eq_getElem hi, List.getD_eq_getElem?_getD, List.getElem?_eq_getElem hj] at e
  exact (List.getElem_inj h).1 e
theorem mem_getD {tl : List Nat} {i : Nat} (hi : i < tl.length) : tl.getD i 0 ∈ tl := by
  rw [List.getD_eq_getElem?_getD, List.getElem?_eq_getElem hi]
  exact List.getElem_mem hi
def LL (g0 g1 g2 gb g4 : Nat) (tl : List Nat) : Nat → Nat
  | 0 => g0
  | 1 => g1
  | 2 => g2
  | 3 => gb
  | 4 => g4
  | a + 5 => tl.getD a 0
theorem LL5 (g0 g1 g2 gb g4 : Nat) (tl : List Nat) (i : Nat) : LL g0 g1 g2 gb g4 tl (5 + i) = tl.getD i 0 := by rw [show 5 + i = i + 5 by omega]; rfl
def L0 (gb s : Nat) (a : Nat) : Nat := if a = 3 then gb else s + 10 + a
theorem rplan_new (n m : Nat) (win tm : Int) (w : World) (hn : n ≤ 100) (hm : m ≤ 64) :
    Calls Try.prog 20 #[.int .i64 (n : Int), .int .i64 (m : Int), .int .i64 win, .int .i64 tm] w fun e w' => ∃ r L c0 c1 c2 c4, e = .returned (.pointer (some ⟨r, 0, none⟩)) ∧ RPs w' r L n m c0 c1 c2 c4 win tm ks0 ∧ Below w.heap.size w w' ∧ w.heap.size ≤ r ∧ ∀ a, a < n + 5 → w.heap.size ≤ L a := by
  refine (rnew_calls n m win tm w hn hm).mono ?_
  rintro e w' ⟨r, v0, v1, v2, v4, tl, gb, rfl, hr, hB, wq, h, hnil, hlen, hw, hgb⟩
  have hrl := (Array.getElem?_eq_some_iff.1 h.blk).1
  have hs' : (wq.setCell ⟨r, 3, none⟩ (.slice (some ⟨wq.heap.size, 0, none⟩) m m)).heap.size = wq.heap.size := by simp [World.setCell]
  have hb3 : w'.heap[r]? = some (.cells #[v0, v1, v2, .slice (some ⟨gb, 0, none⟩) m m, v4, .int .i64 win, .int .i64 tm] 65 (0, 0)) := by
    rw [hw, hgb]
    refine al_old ?_
    rw [heap_setCell_same wq r 3 _ _ _ h.blk]
    rfl
  have hkeep : ∀ g, g ≠ r → g < wq.heap.size → w'.heap[g]? = wq.heap[g]? := fun g hg hlt => by
    rw [hw]
    exact (Below.heap_alloc _ _ g (by omega)).trans (Below.heap_setCell wq ⟨r, 3, none⟩ _ g hg)
  have hbad : Ri w' gb m (fun _ => 0) := by
    refine ⟨zI m, ?_, by simp [zI, size_madeCells], fun k hk => zI_at _ _ hk⟩
    rw [hw, hgb]
    exact al_new hs'.symm
  have hgbl : gb < w'.heap.size := hbad.lt
  have htr : ∀ i, i < n → Ri w' (tl.getD i 0) m (fun _ => 0) := fun i hi => by
    have hmem := mem_getD (tl := tl) (i := i) (by omega)
    obtain ⟨a, b⟩ := h.tr _ hmem
    exact b.keep (hkeep _ (by omega) b.lt)
  have hwr : w.heap.size ≤ wq.heap.size := by omega
  by_cases hn0 : n = 0
  · subst hn0
    obtain ⟨rfl, rfl, rfl, rfl⟩ := hnil rfl
    refine ⟨r, L0 gb w'.heap.size, 0, 0, 0, 0, rfl, ⟨fun _ => (0, 0, 0), fun i hi => by omega, ⟨hb3, fun a b ha hb e => ?_, fun a ha => ?_, fun h => by omega, fun h => by omega, fun h => by omega, hbad, fun h => by omega, fun i hi => by omega, by omega, hm, by omega, by omega⟩⟩, hB, hr, fun a ha => ?_⟩
    · unfold L0 at e
      split at e <;> split at e <;> omega
    · unfold L0
      have := hb3
      have hrw := (Array.getElem?_eq_some_iff.1 hb3).1
      by_cases h1 : a = 3
      · rw [if_pos h1]; omega
      · rw [if_neg h1]; omega
    · unfold L0
      have := hB.size
      by_cases h1 : a = 3
      · rw [if_pos h1]; omega
      · rw [if_neg h1]; omega
  · have hpos : 0 < n := by omega
    have hkk : ∀ {v : Value} {e k : Nat} {xs : List Value}, wq.ownsRow (r + 1) e 1 v k xs → ∀ g, v.ownBlock = some g → w'.heap[g]? = wq.heap[g]? := fun h1 g hg => hkeep g (by have := (h1.lt g hg).1; omega) (h1.lt g hg).2
    obtain ⟨g0, c0, rfl, hc0, hd0, hl0, hs0, hr0⟩ := Ri.of_own (w' := w') h.o0 hpos (hkk h.o0)
    obtain ⟨g1, c1, rfl, hc1, hd1, hl1, hs1, hr1⟩ := Ri.of_own (w' := w') h.o1 hpos (hkk h.o1)
    obtain ⟨g2, c2, rfl, hc2, hd2, hl2, hs2, hr2⟩ := Ri.of_own (w' := w') h.o2 hpos (hkk h.o2)
    obtain ⟨g4, c4, rfl, hc4, hd4, hl4, hs4, cs4, hr4, hr4x⟩ := rows_of_own (w' := w') hlen h.o4 hpos (hkk h.o4)
    have ne : ∀ {x y cx cy : Nat}, apt (.slice (some ⟨x, 0, none⟩) n cx) (.slice (some ⟨y, 0, none⟩) n cy) → x ≠ y := fun ha e => by
      rcases ha with ha | ha
      · cases ha
      · exact ha (by rw [e]; rfl)
    have n01 := ne h.a01
    have n02 := ne h.a02
    have n04 := ne h.a04
    have n12 := ne h.a12
    have n14 := ne h.a14
    have n24 := ne h.a24
    have nt : ∀ i, i < n → r < tl.getD i 0 ∧ tl.getD i 0 < wq.heap.size ∧ g0 ≠ tl.getD i 0 ∧ g1 ≠ tl.getD i 0 ∧ g2 ≠ tl.getD i 0 ∧ g4 ≠ tl.getD i 0 := fun i hi => by
      have hmem := mem_getD (tl := tl) (i := i) (by omega)
      obtain ⟨a, b⟩ := h.tr _ hmem
      exact ⟨a, b.lt, fun e => h.t0 _ hmem (by rw [← e]; rfl), fun e => h.t1 _ hmem (by rw [← e]; rfl), fun e => h.t2 _ hmem (by rw [← e]; rfl), fun e => h.t4 _ hmem (by rw [← e]; rfl)⟩
    refine ⟨r, LL g0 g1 g2 gb g4 tl, c0, c1, c2, c4, rfl, ⟨fun _ => (0, 0, 0), fun i hi => ⟨rfl, fun h => rfl⟩, ⟨?_, fun a b ha hb e => ?_, fun a ha => ?_, fun _ => hr0, fun _ => hr1, fun _ => hr2, hbad, fun _ => ⟨cs4, hr4, fun i hi => by rw [LL5]; exact hr4x i hi⟩, fun i hi => by rw [LL5]; exact htr i hi, hn, hm, ⟨hc0, hc1, hc2, hc4⟩, ⟨hd0, hd1, hd2, hd4⟩⟩⟩, hB, hr, fun a ha => ?_⟩
    · rw [slN_pos hpos, slN_pos hpos, slN_pos hpos, slN_pos hpos]
      exact hb3
    · have hA := nt
      rcases a with _ | _ | _ | _ | _ | a <;> rcases b with _ | _ | _ | _ | _ | b <;> simp only [LL] at e ⊢
      all_goals first
        | rfl
        | omega
        | (have h1 := nt b (by omega); omega)
        | (have h1 := nt a (by omega); omega)
        | (have := nodup_getD h.tnd (by omega) (by omega) e; omega)
    · rcases a with _ | _ | _ | _ | _ | a <;> simp only [LL]
      all_goals first
        | omega
        | (have h1 := nt a (by omega); omega)
    · rcases a with _ | _ | _ | _ | _ | a <;> simp only [LL]
      all_goals first
        | omega
        | (have h1 := nt a (by omega); omega)
end Go.Proofs.Ytaheoifjihkipaa.As
