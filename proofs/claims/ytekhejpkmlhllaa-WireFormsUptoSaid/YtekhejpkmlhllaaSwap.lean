/- What calls of Go functions of this seat come to, as the rows need it: under the conditions that each theorem names. -/
import Derived.Test.YtekhejpkmlhllaaSame
import Derived.Test.YtekhejpkmlhllaaWTab
namespace Go.Proofs.YtekhejpkmlhllaaW.PrintLast
open Go
variable {P : Program} {ops : Array Oper} {Q : Exit → Act → World → Prop} {md : Region.Mode} {S S' : World → Prop}
/-- In the midst of a region that draws its order: what is kept from here on may be more than was kept till now. -/
theorem swap_S (hSS : ∀ w, S' w → S w) : ∀ (fuel : Nat) (l : Array Bool) (a : Act) (w : World), S' w → wpAnyLast P md ops Q S' [] fuel l a w → wpAnyLast P md ops Q S [] fuel l a w
  | 0, _, _, _, _, h => h
  | fuel + 1, _, _, _, hS, h => ⟨h.1, fun i hi => wpOp_mono (fun a' w' h' => ⟨fun _ _ => hSS _ (h'.1 (by simp) hS), swap_S hSS fuel _ a' w' (h'.1 (by simp) hS) h'.2⟩) (h.2 i hi)⟩
/-- The same beside last operations, behind which nothing more may come up. -/
theorem swap_L {ds : List Nat} (hSS : ∀ w, S' w → S w) (hl : ∀ (l : Array Bool) (i : Nat), i ∈ ds → i ∈ Region.ready md ops l → Region.ready md ops (l.setIfInBounds i true) = []) :
    ∀ (fuel : Nat) (l : Array Bool) (a : Act) (w : World), S' w → wpAnyLast P md ops Q S' ds fuel l a w → wpAnyLast P md ops Q S ds fuel l a w
  | 0, _, _, _, _, h => h
  | fuel + 1, l, _, _, hS, h => ⟨h.1, fun i hi => by
    by_cases hd : i ∈ ds
    · refine wpOp_mono (fun a' w' h' => ⟨fun hn => absurd hd hn, ?_⟩) (h.2 i hi)
      have hr := hl l i hd hi
      cases fuel with
      | zero => exact h'.2
      | succ f => exact ⟨h'.2.1, fun j hj => by rw [hr] at hj; cases hj⟩
    · exact wpOp_mono (fun a' w' h' => ⟨fun hn hs => hSS _ (h'.1 hn hS), swap_L hSS hl fuel _ a' w' (h'.1 hd hS) h'.2⟩) (h.2 i hi)⟩
theorem last_all {T : Bool × List (List Nat × List Nat)} (hT : rtab md ops = T) (d : Nat) (h : ((List.range T.2.length).all fun j => j == d || (((T.2[d]?).map (·.1)).getD []).contains j) = true) :
    ∀ (l : Array Bool) (i : Nat), i ∈ [d] → i ∈ Region.ready md ops l → Region.ready md ops (l.setIfInBounds i true) = [] := by
  intro l i hi hr
  obtain rfl : i = d := by simpa using hi
  rw [ready_eq, hT] at hr ⊢
  unfold readyT at hr ⊢
  obtain ⟨hlt, hra⟩ := List.mem_filter.1 hr
  rw [List.filter_eq_nil_iff]
  intro j hj hrj
  unfold readyAt at hra hrj
  simp only [Bool.and_eq_true, Bool.not_eq_true'] at hra hrj
  obtain ⟨h1, h2⟩ := hra
  obtain ⟨h3, _⟩ := hrj
  rw [Array.toList_setIfInBounds] at h3
  have hil : i < l.toList.length := by
    rcases Nat.lt_or_ge i l.toList.length with h | h
    · exact h
    · rw [List.getD_eq_getElem?_getD, List.getElem?_eq_none h] at h1
      cases h1
  by_cases hij : j = i
  · subst hij
    rw [List.getD_eq_getElem?_getD, List.getElem?_set_self hil] at h3
    cases h3
  · have hc := List.all_eq_true.1 h j hj
    simp only [Bool.or_eq_true, beq_iff_eq, hij, false_or] at hc
    cases hT2 : T.2[i]? with
    | none => rw [hT2] at hc; simp at hc
    | some r =>
      rw [hT2] at h2 hc
      have h5 := List.all_eq_true.1 h2 j (by simpa using hc)
      rw [List.getD_eq_getElem?_getD, List.getElem?_set_ne (by omega)] at h3
      rw [List.getD_eq_getElem?_getD] at h5
      cases hx : l.toList[j]? with
      | none => rw [hx] at h5; cases h5
      | some b => rw [hx] at h3 h5; simp at h3 h5; rw [h3] at h5; cases h5
end Go.Proofs.YtekhejpkmlhllaaW.PrintLast
