/- What calls of Go functions of this seat come to, as the rows need it: under the conditions that each theorem names. -/
import Derived.Test.YticpifhnfpnibaaGrows
namespace Go.Proofs.Yticpifhnfpnibaa.Mem
open Go.RowKit Go.Proofs.YticpifhnfpnibaaW.PrintWords Go.Proofs.YticpifhnfpnibaaW.PrintLast Go.Proofs.YticpifhnfpnibaaW.PrintMore
set_option linter.unusedVariables false
set_option linter.unusedSimpArgs false
/-- What holds of what stands, its states too. -/
def Good3 (n : Nat) (f : Nat → U) : Prop := ∀ j, j < n → (f j).1 = j ∧ 1 ≤ (f j).2.1 ∧ (f j).2.1 ≤ 3 ∧ (f j).2.2 ≤ 1099511627776
theorem next_ok3 {s : Nat} {x u : U} {k : Nat} (hx : x.1 = k ∧ 1 ≤ x.2.1 ∧ x.2.1 ≤ 3 ∧ x.2.2 ≤ 1099511627776) (hu : u.1 = k ∧ 1 ≤ u.2.1 ∧ u.2.1 ≤ 3 ∧ u.2.2 ≤ 1099511627776) :
    (next s x u).1 = k ∧ 1 ≤ (next s x u).2.1 ∧ (next s x u).2.1 ≤ 3 ∧ (next s x u).2.2 ≤ 1099511627776 := by
  unfold next
  split
  · split
    · exact hu
    · exact hx
  · split
    · exact ⟨hx.1, hx.2.1, hx.2.2.1, by show max _ _ ≤ _; omega⟩
    · split
      · exact ⟨hx.1, hx.2.1, hx.2.2.1, by show min _ _ ≤ _; omega⟩
      · exact hx
theorem good3_hear {s n : Nat} {f : Nat → U} (h : Good3 n f) (u : U) : Good3 n (hearF s n f u) := by
  by_cases hm : may n u
  · rw [hearF_yes hm]
    intro j hj
    have h1 := hm.1
    by_cases e : j = u.1.toNat
    · subst e
      rw [upd_same]
      exact next_ok3 (h _ hj) ⟨by omega, hm.2.1, hm.2.2.1, hm.2.2.2⟩
    · rw [upd_other _ _ _ _ e]
      exact h j hj
  · rw [hearF_no hm]
    exact h
theorem good3_hears {s n : Nat} (l : List U) : ∀ {f : Nat → U}, Good3 n f → Good3 n (hears s n f l) := by
  induction l with
  | nil => intro f h; exact h
  | cons u l ih => intro f h; exact ih (good3_hear h u)
theorem good3_good {n : Nat} {f : Nat → U} (h : Good3 n f) : Good n f := fun j hj => ⟨(h j hj).1, (h j hj).2.2.2⟩
theorem alive_hears {s n : Nat} (l : List U) : ∀ {f : Nat → U}, Good n f → (f s).2.1 = 1 → (hears s n f l s).2.1 = 1 := by
  induction l with
  | nil => intro f _ h; exact h
  | cons u l ih => intro f hg h; exact ih (good_hear hg u) (step_hear hg h u).2.1
theorem good3_first (s n : Nat) (inc : Int) (hi : inc ≤ 1099511627776) : Good3 n (first s n inc) := by
  intro j hj
  unfold first
  rw [if_pos hj]
  refine ⟨rfl, ?_, ?_, ?_⟩
  · show (1 : Int) ≤ 1; omega
  · show (1 : Int) ≤ 3; omega
  · show (if j = s then inc else 0) ≤ _
    split <;> omega
/-- Hearing all that stands for another. -/
def merge (s n : Nat) (f g : Nat → U) : Nat → U := fun j => if j < n then next s (f j) (g j) else f j
theorem hears_part {s n : Nat} {f g : Nat → U} (hg : Good3 n g) : ∀ k, k ≤ n → hears s n f (lst g k) = fun j => if j < k then next s (f j) (g j) else f j
  | 0, _ => by funext j; simp [lst, hears]
  | k + 1, hk => by
    rw [lst_succ, hears_snoc, hears_part hg k (by omega)]
    have hgk := hg k (by omega)
    have hm : may n (g k) := ⟨by omega, hgk.2.1, hgk.2.2.1, hgk.2.2.2⟩
    rw [hearF_yes hm]
    have e : (g k).1.toNat = k := by rw [hgk.1]; rfl
    rw [e]
    funext j
    unfold upd
    by_cases h1 : j = k
    · subst h1
      rw [if_pos rfl, if_neg (by omega), if_pos (by omega)]
    · rw [if_neg h1]
      show (if j < k then next s (f j) (g j) else f j) = _
      by_cases h2 : j < k
      · rw [if_pos h2, if_pos (by omega)]
      · rw [if_neg h2, if_neg (by omega)]
theorem hears_lst {s n : Nat} {f g : Nat → U} (hg : Good3 n g) : hears s n f (lst g n) = merge s n f g := hears_part hg n (Nat.le_refl n)
/-- So many rounds of telling one another all. -/
def it (n : Nat) (fa fb : Nat → U) : Nat → (Nat → U) × (Nat → U)
  | 0 => (fa, fb)
  | k + 1 => (merge 0 n (it n fa fb k).1 (merge 1 n (it n fa fb k).2 (it n fa fb k).1), merge 1 n (it n fa fb k).2 (it n fa fb k).1)
theorem good3_merge {s n : Nat} {f g : Nat → U} (hf : Good3 n f) (hg : Good3 n g) : Good3 n (merge s n f g) := by
  intro j hj
  unfold merge
  rw [if_pos hj]
  exact next_ok3 (hf j hj) (hg j hj)
theorem good3_it {n : Nat} {fa fb : Nat → U} (ha : Good3 n fa) (hb : Good3 n fb) : ∀ k, Good3 n (it n fa fb k).1 ∧ Good3 n (it n fa fb k).2
  | 0 => ⟨ha, hb⟩
  | k + 1 => by
    obtain ⟨h1, h2⟩ := good3_it ha hb k
    have h3 := good3_merge (s := 1) h2 h1
    exact ⟨good3_merge h1 h3, h3⟩
theorem it_at {n : Nat} {fa fb : Nat → U} (k j : Nat) (hj : j < n) : (it n fa fb (k + 1)).2 j = next 1 ((it n fa fb k).2 j) ((it n fa fb k).1 j) ∧ (it n fa fb (k + 1)).1 j = next 0 ((it n fa fb k).1 j) ((it n fa fb (k + 1)).2 j) := by
  constructor
  · show merge 1 n _ _ j = _
    unfold merge
    rw [if_pos hj]
  · show merge 0 n _ _ j = next 0 _ (merge 1 n _ _ j)
    unfold merge
    rw [if_pos hj, if_pos hj]
theorem le_trans3 {a b c : U} (h1 : gt a b = false) (h2 : gt b c = false) : gt a c = false := by
  have h1' := of_decide_eq_false h1
  have h2' := of_decide_eq_false h2
  exact decide_eq_false (by omega)
theorem it_grows {n : Nat} {fa fb : Nat → U} (ha : Good3 n fa) (hb : Good3 n fb) (j : Nat) (hj : j < n) : ∀ k, gt (fa j) ((it n fa fb k).1 j) = false ∧ gt (fb j) ((it n fa fb k).2 j) = false
  | 0 => ⟨gt_self _, gt_self _⟩
  | k + 1 => by
    obtain ⟨h1, h2⟩ := it_grows ha hb j hj k
    obtain ⟨g1, g2⟩ := good3_it ha hb k
    obtain ⟨e1, e2⟩ := it_at (fa := fa) (fb := fb) k j hj
    rw [e2]
    refine ⟨le_trans3 h1 (next_grows (g1 j hj).2.2.2), ?_⟩
    rw [e1]
    exact le_trans3 h2 (next_grows (g2 j hj).2.2.2)
/-- The greater of both. -/
def want (x y : U) : U := if gt y x = true then y else x
theorem next_third {s j : Nat} {x u : U} (hu : u.1 = j) (hj : j ≠ s) : next s x u = if gt u x = true then u else x := by
  unfold next gt
  rw [if_pos (by omega)]
  by_cases h : x.2.2 < u.2.2 ∨ (u.2.2 = x.2.2 ∧ x.2.1 < u.2.1)
  · rw [if_pos h, if_pos (decide_eq_true h)]
  · rw [if_neg h, if_neg (by rw [decide_eq_false h]; simp)]
theorem third_one {j : Nat} {x y : U} (hx : x.1 = j) (hy : y.1 = j) (hj : 2 ≤ j) : next 1 y x = want x y ∧ next 0 x (next 1 y x) = want x y := by
  have e1 : next 1 y x = want x y := by
    rw [next_third hx (by omega)]
    unfold want
    by_cases h1 : gt x y = true
    · rw [if_pos h1]
      have h1' := of_decide_eq_true h1
      rw [if_neg (fun h => by have := of_decide_eq_true h; omega)]
    · rw [if_neg h1]
      by_cases h2 : gt y x = true
      · rw [if_pos h2]
      · rw [if_neg h2]
        have a := of_decide_eq_false (Bool.eq_false_iff.2 h1)
        have b := of_decide_eq_false (Bool.eq_false_iff.2 h2)
        exact pair3 (by omega) (by omega) (by omega)
  refine ⟨e1, ?_⟩
  rw [e1]
  unfold want
  by_cases h2 : gt y x = true
  · rw [if_pos h2, next_third hy (by omega), if_pos h2]
  · rw [if_neg h2, next_third hx (by omega)]
    split <;> rfl
theorem third_all {n : Nat} {fa fb : Nat → U} (ha : Good3 n fa) (hb : Good3 n fb) (j : Nat) (hj : j < n) (h2 : 2 ≤ j) : ∀ k, (it n fa fb (k + 1)).1 j = want (fa j) (fb j) ∧ (it n fa fb (k + 1)).2 j = want (fa j) (fb j)
  | 0 => by
    obtain ⟨e1, e2⟩ := it_at (fa := fa) (fb := fb) 0 j hj
    obtain ⟨t1, t2⟩ := third_one (ha j hj).1 (hb j hj).1 h2
    refine ⟨?_, by rw [e1]; exact t1⟩
    rw [e2, e1]
    exact t2
  | k + 1 => by
    obtain ⟨h3, h4⟩ := third_all ha hb j hj h2 k
    obtain ⟨e1, e2⟩ := it_at (fa := fa) (fb := fb) (k + 1) j hj
    have hw : (want (fa j) (fb j)).1 = j := by rw [← h3]; exact ((good3_it ha hb (k + 1)).1 j hj).1
    have hn : ∀ s, j ≠ s → next s (want (fa j) (fb j)) (want (fa j) (fb j)) = want (fa j) (fb j) := fun s hs => by
      rw [next_third hw hs]
      split <;> rfl
    have q : (it n fa fb (k + 1 + 1)).2 j = want (fa j) (fb j) := by rw [e1, h3, h4]; exact hn 1 (by omega)
    exact ⟨by rw [e2, q, h3]; exact hn 0 (by omega), q⟩
/-- One's own, behind a round: as the other has it, or at its end. -/
theorem own0 {x y : U} (hx : x.1 = 0) (hy : y.1 = 0) (ax : x.2.1 = 1) (hy2 : 1 ≤ y.2.1) (ix : x.2.2 ≤ 1099511627776) (iy : y.2.2 ≤ 1099511627776) :
    (next 0 x (next 1 y x) = next 1 y x ∨ (next 0 x (next 1 y x)).2.2 = 1099511627776) ∨ gt (next 0 x (next 1 y x)) (next 1 y x) = true := by
  rw [next_third (s := 1) (j := 0) hx (by omega)]
  obtain ⟨x0, x1, x2⟩ := x
  obtain ⟨y0, y1, y2⟩ := y
  simp only at hx hy ax hy2 ix iy
  subst hx hy ax
  by_cases h1 : gt (0, 1, x2) (0, y1, y2) = true
  · rw [if_pos h1]
    left; left
    unfold next
    rw [if_neg (by simp), if_pos rfl]
    exact pair3 rfl rfl (by simp only; omega)
  · rw [if_neg h1]
    have a := of_decide_eq_false (Bool.eq_false_iff.2 h1)
    simp only at a
    by_cases h2 : y1 = 1
    · subst h2
      left; left
      unfold next
      rw [if_neg (by simp), if_pos rfl]
      exact pair3 rfl rfl (by simp only; omega)
    · unfold next
      rw [if_neg (by simp), if_neg h2, if_pos (by simp only; omega)]
      by_cases h3 : y2 = 1099511627776
      · left; right
        simp only
        omega
      · right
        exact decide_eq_true (by simp only; omega)
theorem own0_gt {x y : U} (hx : x.1 = 0) (ax : x.2.1 = 1) (h : gt x y = true) : next 0 x (next 1 y x) = next 1 y x := by
  rw [next_third (s := 1) (j := 0) hx (by omega), if_pos h]
  unfold next
  rw [if_neg (by simp [hx]), if_pos ax]
  exact pair3 rfl rfl (by simp only; omega)
theorem own0_same {x : U} (hx : x.1 = 0) (ax : x.2.1 = 1) : next 0 x (next 1 x x) = next 1 x x := by
  rw [next_third (s := 1) (j := 0) hx (by omega), gt_self, if_neg (by simp)]
  unfold next
  rw [if_neg (by simp [hx]), if_pos ax]
  exact pair3 rfl rfl (by simp only; omega)
theorem own_end {s : Nat} {x u : U} (h : x.2.2 = 1099511627776) (hu : (next s x u).2.2 ≤ 1099511627776) : (next s x u).2.2 = 1099511627776 := by
  have := of_decide_eq_false (next_grows (s := s) (x := x) (u := u) (by omega))
  omega
theorem own1 {x y : U} (hx : x.1 = 1) (hy : y.1 = 1) (ay : y.2.1 = 1) (hx2 : 1 ≤ x.2.1) (ix : x.2.2 ≤ 1099511627776) (iy : y.2.2 ≤ 1099511627776) :
    next 0 x (next 1 y x) = next 1 y x ∨ (next 0 x (next 1 y x)).2.2 = 1099511627776 := by
  have h1 : (next 1 y x).1 = 1 := by
    unfold next
    rw [if_neg (by simp [hx])]
    split
    · exact hy
    · split <;> exact hy
  rw [next_third (s := 0) (j := 1) h1 (by omega)]
  obtain ⟨x0, x1, x2⟩ := x
  obtain ⟨y0, y1, y2⟩ := y
  simp only at hx hy ay hx2 ix iy
  subst hx hy ay
  split
  · exact Or.inl rfl
  · rename_i hg
    have a := of_decide_eq_false (Bool.eq_false_iff.2 hg)
    revert a
    unfold next
    rw [if_neg (by simp)]
    split
    · rename_i e
      simp only at e
      subst e
      simp only
      intro a
      left
      exact pair3 rfl rfl (by simp only; omega)
    · rename_i e
      simp only at e
      split
      · simp only
        intro a
        right
        omega
      · rename_i e2
        simp only at e2
        simp only
        intro a
        omega
theorem merge_alive {s n : Nat} {f g : Nat → U} (hs : s < n) (hg : (g s).1 = s) (h : (f s).2.1 = 1) : (merge s n f g s).2.1 = 1 := by
  unfold merge
  rw [if_pos hs, next_state hg]
  exact h
theorem alive_it {n : Nat} {fa fb : Nat → U} (hn : 2 ≤ n) (ha : Good3 n fa) (hb : Good3 n fb) (a0 : (fa 0).2.1 = 1) (b1 : (fb 1).2.1 = 1) : ∀ k, ((it n fa fb k).1 0).2.1 = 1 ∧ ((it n fa fb k).2 1).2.1 = 1
  | 0 => ⟨a0, b1⟩
  | k + 1 => by
    obtain ⟨h1, h2⟩ := alive_it hn ha hb a0 b1 k
    obtain ⟨g1, g2⟩ := good3_it ha hb k
    have g3 := good3_merge (s := 1) g2 g1
    exact ⟨merge_alive (by omega) (by simpa using (g3 0 (by omega)).1) h1, merge_alive (by omega) (by simpa using (g1 1 (by omega)).1) h2⟩
theorem own_all {n : Nat} {fa fb : Nat → U} (hn : 2 ≤ n) (ha : Good3 n fa) (hb : Good3 n fb) (a0 : (fa 0).2.1 = 1) (b1 : (fb 1).2.1 = 1) (j : Nat) (hj : j < 2) (hi : ((it n fa fb 3).1 j).2.2 < 1099511627776) :
    (it n fa fb 3).2 j = (it n fa fb 3).1 j ∧ ((it n fa fb 3).1 j).2.1 = 1 := by
  have hjn : j < n := by omega
  have al := fun k => alive_it hn ha hb a0 b1 k
  have g := fun k => good3_it ha hb k
  have e := fun k => it_at (fa := fa) (fb := fb) k j hjn
  rcases j with _ | _ | j
  · have st : ∀ k, (it n fa fb (k + 1)).1 0 = (it n fa fb (k + 1)).2 0 ∨ ((it n fa fb (k + 1)).1 0).2.2 = 1099511627776 ∨ gt ((it n fa fb (k + 1)).1 0) ((it n fa fb (k + 1)).2 0) = true := fun k => by
      rw [(e k).2, (e k).1]
      have p := own0 (x := (it n fa fb k).1 0) (y := (it n fa fb k).2 0) (by simpa using ((g k).1 0 hjn).1) (by simpa using ((g k).2 0 hjn).1) (al k).1 ((g k).2 0 hjn).2.1 ((g k).1 0 hjn).2.2.2 ((g k).2 0 hjn).2.2.2
      rcases p with (p | p) | p
      · exact Or.inl p
      · exact Or.inr (Or.inl p)
      · exact Or.inr (Or.inr p)
    have up : ∀ k, ((it n fa fb (k + 1)).1 0 = (it n fa fb (k + 1)).2 0 ∨ ((it n fa fb (k + 1)).1 0).2.2 = 1099511627776 ∨ gt ((it n fa fb (k + 1)).1 0) ((it n fa fb (k + 1)).2 0) = true) → (it n fa fb (k + 2)).1 0 = (it n fa fb (k + 2)).2 0 ∨ ((it n fa fb (k + 2)).1 0).2.2 = 1099511627776 := fun k p => by
      have hx : ((it n fa fb (k + 1)).1 0).1 = 0 := by simpa using ((g (k + 1)).1 0 hjn).1
      rcases p with p | p | p
      · left
        rw [(e (k + 1)).2, (e (k + 1)).1, ← p]
        exact own0_same hx (al (k + 1)).1
      · right
        have := (((g (k + 2)).1) 0 hjn).2.2.2
        rw [(e (k + 1)).2] at this ⊢
        exact own_end p this
      · left
        rw [(e (k + 1)).2, (e (k + 1)).1]
        exact own0_gt hx (al (k + 1)).1 p
    rcases up 1 (st 1) with p | p
    · exact ⟨p.symm, (al 3).1⟩
    · have : ((it n fa fb 3).1 0).2.2 = 1099511627776 := p
      omega
  · have p := own1 (x := (it n fa fb 2).1 1) (y := (it n fa fb 2).2 1) (by simpa using ((g 2).1 1 hjn).1) (by simpa using ((g 2).2 1 hjn).1) (al 2).2 ((g 2).1 1 hjn).2.1 ((g 2).1 1 hjn).2.2.2 ((g 2).2 1 hjn).2.2.2
    rw [← (e 2).1, ← (e 2).2] at p
    rcases p with p | p
    · exact ⟨p.symm, by rw [p]; exact (al 3).2⟩
    · have : ((it n fa fb 3).1 1).2.2 = 1099511627776 := p
      simp only [Nat.zero_add] at hi
      omega
  · omega
end Go.Proofs.Yticpifhnfpnibaa.Mem
