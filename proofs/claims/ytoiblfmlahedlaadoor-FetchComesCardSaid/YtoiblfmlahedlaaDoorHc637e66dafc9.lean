/- What calls of Go functions of this seat come to, as the rows need it: under the conditions that each theorem names. -/
import Derived.Test.YtoiblfmlahedlaaDoorH68227917bba1
import Derived.Test.YtoiblfmlahedlaaDoorRows
import Derived.WalkKit
import Derived.ProofKit
import Derived.OpenShut
import Derived.ShutString
import Derived.JoinedCond
import Derived.Below
import Derived.Deep.Slices
import Derived.Deep.CondSized
section
namespace Go.Proofs.YtoiblfmlahedlaaDoor.Open
open Go.RowKit Go.Proofs.YtoiblfmlahedlaaDoorW.PrintWords Go.ChangeShapes Go.Deep
set_option linter.unusedVariables false
set_option linter.unusedSimpArgs false
structure Opn {α : Type} (P : Program) (t : TypeId) (K : Kd α) (ok : α → Prop) (blk : α → Nat) : Prop where
  opn : ∀ {H : Type} {enc : TypeId × Value → H} {w : World} {base : Nat} {spare : Nat → Bool} {held : Bool} {fuel : Nat} {cs : List Value} {d : DataW H} {ps : List MemPlace},
    DataW.trod enc P w base spare held fuel t cs = some (d, ps) → ∃ x, K.K w x cs ∧ ok x ∧ blk x ≤ Rows.uptoBulk d
theorem opn_int {P : Program} {t : TypeId} {k : IntKind} (ht : P.underlying t = some (.int k)) : Opn P t (Kd.int k) (fun x => (Lit.int k x).wf = true) (fun _ => 1) := ⟨fun h => by
  obtain ⟨n, rfl, e, hw⟩ := DataW.trod_int ht h
  cases e
  exact ⟨n, rfl, hw, by simp [Rows.uptoBulk]⟩⟩
theorem pick {α : Type} (p : Nat → α → Prop) : ∀ n, (∀ i, i < n → ∃ x, p i x) → ∃ xs : List α, xs.length = n ∧ ∀ i x, xs[i]? = some x → p i x
  | 0, _ => ⟨[], rfl, fun i x h => by simp at h⟩
  | n + 1, h => by
    obtain ⟨xs, hl, hx⟩ := pick p n (fun i hi => h i (by omega))
    obtain ⟨x, hp⟩ := h n (by omega)
    refine ⟨xs ++ [x], by simp [hl], fun i y hy => ?_⟩
    rcases Nat.lt_or_ge i n with hi | hi
    · rw [List.getElem?_append_left (by omega)] at hy
      exact hx i y hy
    · rw [List.getElem?_append_right (by omega)] at hy
      have hi0 : i - xs.length = 0 := by
        rcases Nat.eq_zero_or_pos (i - xs.length) with h0 | h0
        · exact h0
        · rw [List.getElem?_eq_none (by simp; omega)] at hy
          cases hy
      rw [hi0] at hy
      obtain rfl : x = y := by simpa using hy
      rwa [show i = n by omega]
theorem bulk_sum {H : Type} {α : Type} {blk : α → Nat} : ∀ (xs : List α) (D : Nat → DataW H), (∀ i x, xs[i]? = some x → blk x ≤ Rows.uptoBulk (D i)) → (xs.map blk).sum ≤ Rows.uptoBulkAll ((List.range xs.length).map D)
  | [], D, _ => by simp
  | x :: xs, D, h => by
    have ih := bulk_sum xs (fun i => D (i + 1)) (fun i y hy => h (i + 1) y (by simpa using hy))
    have h0 := h 0 x (by simp)
    simp only [List.length_cons, List.range_succ_eq_map, List.map_cons, List.map_map, Rows.uptoBulkAll, List.sum_cons]
    have e : (List.map (D ∘ Nat.succ) (List.range xs.length)) = (List.range xs.length).map (fun i => D (i + 1)) := rfl
    rw [e]
    omega
theorem opn_slice {α : Type} {P : Program} {t e : TypeId} {K : Kd α} {ok : α → Prop} {blk : α → Nat} (ht : P.underlying t = some (.slice e)) (hc : P.cellsOf e = K.sz) (he : Opn P e K ok blk) :
    Opn P t (Kd.slice e K) (fun xs => ∀ x ∈ xs, ok x) (fun xs => (xs.map blk).sum + 1) := ⟨fun h => by
  rcases open_slice ht h with ⟨rfl, e⟩ | ⟨a, len, cap, m, n, D, Pl, rfl, hb, hl, hm, hmm, e, hx⟩
  · cases e
    exact ⟨[], ⟨none, 0, rfl, Nat.le_refl _, rfl, by simp, fun h => absurd h (by simp)⟩, (fun x hx => by cases hx), by simp [Rows.uptoBulk]⟩
  · cases e
    have hlm : len ≤ m := by rw [hmm]; split <;> omega
    obtain ⟨xs, hxl, hxs⟩ := pick (fun i x => ∃ cs', _ ∧ K.K _ x cs' ∧ ok x ∧ blk x ≤ Rows.uptoBulk (D i)) len (fun i hi => by
      obtain ⟨cs', h1, h2⟩ := hx i (by omega)
      obtain ⟨x, k1, k2, k3⟩ := he.opn h2
      exact ⟨x, cs', h1, k1, k2, k3⟩)
    subst hxl
    refine ⟨xs, ⟨some a, cap, rfl, hl, rfl, by unfold maxLen at hm; omega, fun _ => ⟨a, rfl, fun j p hj => ?_⟩⟩, fun x hx => ?_, ?_⟩
    · obtain ⟨cs', h1, k1, _⟩ := hxs j p hj
      refine ⟨cs', K.K_len k1, k1, fun i u hu => ?_⟩
      obtain ⟨_, h2, h3⟩ := World.cells?_some h1
      have h4 := h3 i (by have := (List.getElem?_eq_some_iff.1 hu).1; omega)
      rw [hc, Deep.add_add] at h4
      exact h4.trans hu
    · obtain ⟨i, hi, rfl⟩ := List.mem_iff_getElem.1 hx
      obtain ⟨_, _, _, k2, _⟩ := hxs i _ (List.getElem?_eq_getElem hi)
      exact k2
    · have := bulk_sum (H := _) (blk := blk) xs D (fun i x hx => by obtain ⟨_, _, _, _, k3⟩ := hxs i x hx; exact k3)
      simp only [Rows.uptoBulk]
      omega⟩
end Go.Proofs.YtoiblfmlahedlaaDoor.Open
end
