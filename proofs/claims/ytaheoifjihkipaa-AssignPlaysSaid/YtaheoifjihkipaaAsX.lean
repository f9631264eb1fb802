/- What calls of Go functions of this seat come to, as the rows need it: under the conditions that each theorem names. -/
import Derived.Test.YtaheoifjihkipaaAsW
import Derived.Maps.AppendAt
import Derived.Shelf.SlMaps.Clone
import Derived.WalkSpells
namespace Go.Proofs.Ytaheoifjihkipaa.As
open Go.RowKit Go.Proofs.YtaheoifjihkipaaW.PrintWords Go.Proofs.YtaheoifjihkipaaW.PrintLast Go.Proofs.YtaheoifjihkipaaW.PrintMore
set_option linter.unusedVariables false
set_option linter.unusedSimpArgs false
theorem own_empty (w : World) (B : Nat) (e : TypeId) (sz g : Nat) (hg : w.heap[g]? = some (.cells #[] e (0, 0))) (hB : B ≤ g) : w.ownsRow B e sz (.slice (some ⟨g, 0, none⟩) 0 0) 0 [] :=
  ⟨by simp, .inr ⟨g, 0, #[], rfl, hB, hg, Nat.le_refl _, Nat.zero_le _, by simp, by simp⟩⟩
/-- A row of the call's own, not nil: where it lies and what it holds. -/
theorem own_some {w : World} {B e sz n : Nat} {v : Value} {xs : List Value} (h : w.ownsRow B e sz v n xs) (hv : v ≠ .slice none 0 0) : ∃ g c cur, v = .slice (some ⟨g, 0, none⟩) n c ∧ B ≤ g ∧ g < w.heap.size ∧ w.heap[g]? = some (.cells cur e (0, 0)) ∧ n * sz ≤ cur.size ∧ cur.toList.take (n * sz) = xs := by
  rcases h.2 with ⟨h0, _⟩ | ⟨g, cap, cur, hv, hB, hg, hnc, hcm, hcs, ht⟩
  · exact absurd h0 hv
  · exact ⟨g, cap, cur, hv, hB, (Array.getElem?_eq_some_iff.1 hg).1, hg, by rw [hcs]; exact Nat.mul_le_mul_right _ hnc, ht⟩
theorem take_get {cur : Array Value} {k j : Nat} {xs : List Value} (h : cur.toList.take k = xs) (hj : j < k) : cur[j]? = xs[j]? := by
  rw [← h, List.getElem?_take_of_lt hj]
  simp
section
variable {ops : Array Oper} {rest : List Oper} {o : Oper} {a : Act} {w : World} {Q : Exit → Act → World → Prop}
theorem cloneI1 (hgd : o.guard = none) (s x : Operand) (ho : o.op = .call { callee := .builtin .append, args := #[s, x], argTypes := #[35, 35] }) (g : Nat) (hs : a.eval s = .slice (some ⟨g, 0, none⟩) 0 0) (gd m cd : Nat) (D : Nat → Int)
    (hx : a.eval x = .slice (some ⟨gd, 0, none⟩) m cd) (hw : w.heap[g]? = some (.cells #[] 3 (0, 0))) (hd : Dem w gd m D) (hm : m ≤ 1000)
    (h : ∀ g' c' w', g ≤ g' → g' < w'.heap.size → Dem w' g' m D → w.grownBy w' (some g) → wpList Try.prog ops Q rest (a.put o.dst (.slice (some ⟨g', 0, none⟩) m c')) w') : wpList Try.prog ops Q (o :: rest) a w := by
  obtain ⟨i, hi, hz, hsz, hb⟩ := info_parts infoI
  obtain ⟨cs, h1, h2, h3⟩ := hd
  have hgl := (Array.getElem?_eq_some_iff.1 hw).1
  refine wpList_append_own_at (P := Try.prog) w hgd s x 35 ho g 3 i (.int .i64 0) 1 8 Try.underlying35 hi hz hsz hb rfl (by decide) _ 0 [] hs (own_empty w g _ 1 g hw (Nat.le_refl _)) ⟨gd, 0, none⟩ m cd (cs.toList.take m) hx (by simp; omega) (fun j u hj => ?_) (fun u hu => ?_) (by unfold maxLen; omega) (by omega) (by omega) (fun v' w' h1' h2' h3' _ => ?_)
  · have hjm : j < m := by
      by_cases e : j < m
      · exact e
      · rw [List.getElem?_eq_none (by simp; omega)] at hj; cases hj
    rw [List.getElem?_take_of_lt hjm] at hj
    have : (⟨gd, 0, none⟩ : Addr).add j = ⟨gd, j, none⟩ := by unfold Addr.add; split <;> simp_all
    rw [this]
    exact (cell_of h1).2 (by simpa using hj)
  · obtain ⟨j, hj, rfl⟩ := List.mem_iff_getElem.1 hu
    have hjm : j < m := by simp at hj; omega
    have := h3 j hjm
    have e : (cs.toList.take m)[j]? = some (.int .i64 (D j)) := by rw [List.getElem?_take_of_lt hjm]; simpa using this
    rw [List.getElem?_eq_getElem hj] at e
    injection e with e
    rw [e]
    rfl
  · rw [Nat.zero_add, List.nil_append] at h1'
    obtain ⟨g', c', cur, rfl, hB, hlt, hc, hsz', ht⟩ := own_some h1' (fun e => by have := (h3'.1 e).1; cases this)
    refine h g' c' w' hB hlt ⟨cur, hc, by omega, fun k hk => ?_⟩ h2'
    rw [take_get ht (by omega), List.getElem?_take_of_lt hk]
    simpa using h3 k hk
theorem cloneC1 (hgd : o.guard = none) (s x : Operand) (ho : o.op = .call { callee := .builtin .append, args := #[s, x], argTypes := #[48, 48] }) (g : Nat) (hs : a.eval s = .slice (some ⟨g, 0, none⟩) 0 0) (gc n cc : Nat) (S : Nat → U)
    (hx : a.eval x = .slice (some ⟨gc, 0, none⟩) n cc) (hw : w.heap[g]? = some (.cells #[] 55 (0, 0))) (hd : Chs w gc n S) (hm : n ≤ 1000)
    (h : ∀ g' c' w', g ≤ g' → g' < w'.heap.size → Chs w' g' n S → w.grownBy w' (some g) → wpList Try.prog ops Q rest (a.put o.dst (.slice (some ⟨g', 0, none⟩) n c')) w') : wpList Try.prog ops Q (o :: rest) a w := by
  obtain ⟨i, hi, hz, hsz, hb⟩ := info_parts infoC
  obtain ⟨cs, h1, h2, h3⟩ := hd
  have hgl := (Array.getElem?_eq_some_iff.1 hw).1
  have hint : ∀ j, j < n * 3 → ∃ x, cs[j]? = some (.int .i64 x) := fun j hj => by
    obtain ⟨p, q, r⟩ := h3 (j / 3) (by omega)
    have : j = j / 3 * 3 ∨ j = j / 3 * 3 + 1 ∨ j = j / 3 * 3 + 2 := by omega
    rcases this with e | e | e
    · exact ⟨_, by rw [e]; exact p⟩
    · exact ⟨_, by rw [e]; exact q⟩
    · exact ⟨_, by rw [e]; exact r⟩
  refine wpList_append_own_at (P := Try.prog) w hgd s x 48 ho g 55 i (.agg #[.int .i64 0, .int .i64 0, .int .i64 0]) 3 24 Try.underlying48 hi hz hsz hb rfl (by decide) _ 0 [] hs (own_empty w g _ 3 g hw (Nat.le_refl _)) ⟨gc, 0, none⟩ n cc (cs.toList.take (n * 3)) hx (by simp; omega) (fun j u hj => ?_) (fun u hu => ?_) (by unfold maxLen; omega) (by omega) (by omega) (fun v' w' h1' h2' h3' _ => ?_)
  · have hjm : j < n * 3 := by
      by_cases e : j < n * 3
      · exact e
      · rw [List.getElem?_eq_none (by simp; omega)] at hj; cases hj
    rw [List.getElem?_take_of_lt hjm] at hj
    have : (⟨gc, 0, none⟩ : Addr).add j = ⟨gc, j, none⟩ := by unfold Addr.add; split <;> simp_all
    rw [this]
    exact (cell_of h1).2 (by simpa using hj)
  · obtain ⟨j, hj, rfl⟩ := List.mem_iff_getElem.1 hu
    have hjm : j < n * 3 := by simp at hj; omega
    obtain ⟨y, hy⟩ := hint j hjm
    have e : (cs.toList.take (n * 3))[j]? = some (.int .i64 y) := by rw [List.getElem?_take_of_lt hjm]; simpa using hy
    rw [List.getElem?_eq_getElem hj] at e
    injection e with e
    rw [e]
    rfl
  · rw [Nat.zero_add, List.nil_append] at h1'
    obtain ⟨g', c', cur, rfl, hB, hlt, hc, hsz', ht⟩ := own_some h1' (fun e => by have := (h3'.1 e).1; cases this)
    have hg : ∀ j, j < n * 3 → cur[j]? = cs[j]? := fun j hj => by
      rw [take_get ht hj, List.getElem?_take_of_lt hj]
      simp
    refine h g' c' w' hB hlt ⟨cur, hc, hsz', fun k hk => ?_⟩ h2'
    rw [hg _ (by omega), hg _ (by omega), hg _ (by omega)]
    exact h3 k hk
end
theorem grown_new {w w' : World} {o : Obj} {g : Nat} (hg : w.heap.size = g) (h : (w.alloc o).grownBy w' (some g)) : Below w.heap.size w w' :=
  ⟨h.os, h.tape, h.output, Nat.le_trans (by simp) h.size, fun k hk => (h.block k (by simp; omega) (fun e => by injection e with e; omega)).trans (Below.heap_alloc w o k hk)⟩
theorem cloneD_calls {gd m cd : Nat} {D : Nat → Int} (w : World) (h : Dem w gd m D) (hm : m ≤ 64) :
    Calls Try.prog 38 #[.slice (some ⟨gd, 0, none⟩) m cd] w fun e w' => ∃ g c, e = .returned (.slice (some ⟨g, 0, none⟩) m c) ∧ w.heap.size ≤ g ∧ g < w'.heap.size ∧ Dem w' g m D ∧ Below w.heap.size w w' := by
  have H := Aside0.mk h
  clear h
  have hq : ∀ W : World, (binOp .eql 35 (.slice (some ⟨gd, 0, none⟩) m cd) (.slice none 0 0)).run Try.prog W = .ok (.bool false) W := fun W => Lib.run_eql_slice_nil W _ _ _ _ _ _ _ Try.underlying35
  go_enter Try.func38, Try.ntmps38
  go_wp2_with (at_builtin; refine cloneI1 (by rfl) (.tmp 5) (.tmp 6) (by rfl) w.heap.size rfl gd m cd D rfl (heap_new _ _) (H.out.below ((Below.refl _ _).alloc (Nat.le_refl _) _)) (by omega) ?_; intro g' c' w2 h1 h2 h3 h4; have H1 := Aside0.mk h1; have H2 := Aside0.mk h2; have H3 := Aside0.mk h3; have H4 := Aside0.mk h4; clear h1 h2 h3 h4)
  go_ret
  exact ⟨g', c', rfl, H1.out, H2.out, H3.out, grown_new rfl H4.out⟩
theorem cloneC_calls {gc n cc : Nat} {S : Nat → U} (w : World) (h : Chs w gc n S) (hm : n ≤ 100) :
    Calls Try.prog 37 #[.slice (some ⟨gc, 0, none⟩) n cc] w fun e w' => ∃ g c, e = .returned (.slice (some ⟨g, 0, none⟩) n c) ∧ w.heap.size ≤ g ∧ g < w'.heap.size ∧ Chs w' g n S ∧ Below w.heap.size w w' := by
  have H := Aside0.mk h
  clear h
  have hq : ∀ W : World, (binOp .eql 48 (.slice (some ⟨gc, 0, none⟩) n cc) (.slice none 0 0)).run Try.prog W = .ok (.bool false) W := fun W => Lib.run_eql_slice_nil W _ _ _ _ _ _ _ Try.underlying48
  go_enter Try.func37, Try.ntmps37
  go_wp2_with (at_builtin; refine cloneC1 (by rfl) (.tmp 5) (.tmp 6) (by rfl) w.heap.size rfl gc n cc S rfl (heap_new _ _) (H.out.below ((Below.refl _ _).alloc (Nat.le_refl _) _)) (by omega) ?_; intro g' c' w2 h1 h2 h3 h4; have H1 := Aside0.mk h1; have H2 := Aside0.mk h2; have H3 := Aside0.mk h3; have H4 := Aside0.mk h4; clear h1 h2 h3 h4)
  go_ret
  exact ⟨g', c', rfl, H1.out, H2.out, H3.out, grown_new rfl H4.out⟩
theorem cloneM_calls {gm c : Nat} {T : Nat → Nat → Int} (w : World) (h : Tm w gm c T) :
    Calls Try.prog 39 #[.map (some gm)] w fun e w' => ∃ g, e = .returned (.map (some g)) ∧ w.heap.size ≤ g ∧ g < w'.heap.size ∧ Tm w' g c T ∧ Below w.heap.size w w' := by
  obtain ⟨D, hown, h2, h3⟩ := h
  obtain ⟨es, clock, hb, F, hs, hD⟩ := hown
  have hq := fun w => run_eql_map_nil_sl (P := Try.prog) w 49 _ _ (some gm) Try.underlying49
  have HB := Aside0.mk hb
  have HX : Aside0 (∀ W : World, Tm W W.heap.size c T → True) := ⟨fun _ _ => trivial⟩
  have HT := Aside0.mk (show Tm (w.alloc (.map es clock)) w.heap.size c T from ⟨D, ⟨es, clock, heap_new w _, F, hs, hD⟩, h2, h3⟩)
  clear hb F hs hD h2 h3 HX
  go_enter Try.func39, Try.ntmps39
  go_wp2
  rw [run_callFunc_extern Try.func45 (by kernel_rfl) (by kernel_rfl) (by kernel_rfl) (e := Extern.MapsClone.clone) (by kernel_rfl), run_maps_clone_sl w 49 HB.out]
  simp only [Result.andThen]
  rw [Oper.upon_value]
  go_wp2
  rw [run_typeAssert_map_sl _ 49 _ _ _ _ Try.underlying49]
  simp only [Result.andThen]
  rw [Oper.upon_value]
  go_wp2
  go_ret
  exact ⟨w.heap.size, rfl, Nat.le_refl _, by simp, HT.out, (Below.refl _ _).alloc (Nat.le_refl _) _⟩
end Go.Proofs.Ytaheoifjihkipaa.As
