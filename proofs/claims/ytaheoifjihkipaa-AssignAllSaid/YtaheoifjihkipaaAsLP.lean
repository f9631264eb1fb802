/- What calls of Go functions of this seat come to, as the rows need it: under the conditions that each theorem names. -/
import Derived.Test.YtaheoifjihkipaaAsV
namespace Go.Proofs.Ytaheoifjihkipaa.As
open Go.RowKit Go.Proofs.YtaheoifjihkipaaW.PrintWords Go.Proofs.YtaheoifjihkipaaW.PrintLast Go.Proofs.YtaheoifjihkipaaW.PrintMore
set_option linter.unusedVariables false
set_option linter.unusedSimpArgs false
/-- How often a peer's turn was among the first r. -/
def cn (m r k : Nat) : Int := ((r / m : Nat) : Int) + if k < r % m then 1 else 0
theorem cn_zero (m k : Nat) : cn m 0 k = 0 := by simp [cn]
theorem cn_succ {m : Nat} (r k : Nat) (hk : k < m) : cn m (r + 1) k = if k = r % m then cn m r k + 1 else cn m r k := by
  have hlt := Nat.mod_lt r (show 0 < m by omega)
  have hd := Nat.div_add_mod r m
  unfold cn
  by_cases e : r % m + 1 = m
  · have h1 : (r + 1) % m = 0 := by
      rw [Nat.add_mod, ← Nat.add_mod, ← hd, Nat.add_assoc, e, Nat.mul_add_mod]; simp
    have h2 : (r + 1) / m = r / m + 1 := by
      have : r + 1 = m * (r / m + 1) := by rw [Nat.mul_add]; omega
      rw [this, Nat.mul_div_cancel_left _ (by omega)]
    rw [h1, h2]
    by_cases e2 : k = r % m
    · rw [if_pos e2, if_neg (by omega), if_neg (by omega)]; omega
    · rw [if_neg e2, if_neg (by omega), if_pos (by omega)]; omega
  · have h3 : r + 1 = m * (r / m) + (r % m + 1) := by omega
    have h1 : (r + 1) % m = r % m + 1 := by rw [h3, Nat.mul_add_mod, Nat.mod_eq_of_lt (by omega)]
    have h2 : (r + 1) / m = r / m := by rw [h3, Nat.mul_add_div (by omega), Nat.div_eq_of_lt (a := r % m + 1) (by omega), Nat.add_zero]
    rw [h1, h2]
    by_cases e2 : k = r % m
    · rw [if_pos e2, if_pos (by omega), if_neg (by omega)]; omega
    · rw [if_neg e2]
      by_cases e3 : k < r % m
      · rw [if_pos (by omega), if_pos e3]
      · rw [if_neg (by omega), if_neg e3]
def LInv (m : Nat) (tm at_ : Int) (r : Nat) (s : St) : Prop :=
  (r = 0 → s.1 0 = (0, 0, 0)) ∧ (∀ q, r = q + 1 → s.1 0 = (1, ((q % m : Nat) : Int), at_ + q * tm)) ∧ (∀ k, k < m → s.2.2 0 k = cn m r k) ∧ ∀ k, k < m → s.2.1 k = cn m (r - 1) k
theorem linv_zero (m : Nat) (tm at_ : Int) : LInv m tm at_ 0 (fun _ => (0, 0, 0), fun _ => 0, fun _ _ => 0) :=
  ⟨fun _ => rfl, fun q h => by omega, fun k _ => (cn_zero m k).symm, fun k _ => (cn_zero m k).symm⟩
theorem bestF_turn {m r : Nat} (hm : 0 < m) (hr : r < 3 * m) {S : Nat → U} {D : Nat → Int} {T : Nat → Nat → Int} (hS : (S 0).1 = 0) (hD : ∀ k, k < m → D k = cn m r k) (hT : ∀ k, k < m → T 0 k = cn m r k) :
    ∀ j, j ≤ m → bestF S D T 1 1 0 j = if r % m < j then ((r % m : Nat) : Int) else if j = 0 ∨ 3 ≤ r / m + 1 then -1 else 0 := by
  have hlt := Nat.mod_lt r hm
  have hq : r / m < 3 := Nat.div_lt_of_lt_mul (by rw [Nat.mul_comm]; exact hr)
  have hL : ∀ k : Nat, (loadF S (k : Int) 1 : Nat) = 0 := fun k => by simp [loadF, hS]
  have hown : ∀ k, k < m → ownF S D T 1 0 k = (cn m r k, 0, cn m r k) := fun k hk => by
    unfold ownF
    rw [hL, hT k hk, hD k hk]
    rfl
  have hmay : ∀ k, k < m → (mayF S D 1 1 k ↔ cn m r k < 3) := fun k hk => by
    unfold mayF
    rw [hL, hD k hk]
    simp
  have hcmp : ∀ a b : Int, cmp3 (a, 0, a) (b, 0, b) < 0 ↔ a < b := fun a b => by
    unfold cmp3 cmpI
    simp only []
    by_cases h1 : a < b
    · simp [h1]
    · by_cases h2 : b < a
      · simp [h1, h2]
      · simp [h1, h2]
  intro j
  induction j with
  | zero => intro _; simp [bestF]
  | succ k ih =>
    intro hk
    have ih := ih (by omega)
    unfold bestF
    rw [ih]
    by_cases h1 : k < r % m
    · have hc : cn m r k = ((r / m : Nat) : Int) + 1 := by unfold cn; rw [if_pos h1]
      rw [if_neg (show ¬ r % m < k by omega), if_neg (show ¬ r % m < k + 1 by omega)]
      by_cases h3 : 3 ≤ r / m + 1
      · rw [if_neg (fun h => by have := (hmay k (by omega)).1 h.1; omega), if_pos (Or.inr h3), if_pos (Or.inr h3)]
      · rw [if_neg (show ¬ (k + 1 = 0 ∨ 3 ≤ r / m + 1) by omega)]
        by_cases h0 : k = 0
        · subst h0
          rw [if_pos (c := (0 = 0 ∨ 3 ≤ r / m + 1)) (Or.inl rfl)]
          rw [if_pos ⟨(hmay 0 (by omega)).2 (by omega), Or.inl (by omega)⟩]
          rfl
        · rw [if_neg (show ¬ (k = 0 ∨ 3 ≤ r / m + 1) by omega)]
          rw [if_neg]
          rintro ⟨_, h | h⟩
          · omega
          · rw [show ((0 : Int).toNat) = 0 from rfl, hown k (by omega), hown 0 (by omega)] at h
            have := (hcmp _ _).1 h
            have hc0 : cn m r 0 = ((r / m : Nat) : Int) + 1 := by unfold cn; rw [if_pos (by omega)]
            omega
    · by_cases h2 : k = r % m
      · have hc : cn m r k = ((r / m : Nat) : Int) := by unfold cn; rw [if_neg (by omega)]; omega
        rw [if_neg (show ¬ r % m < k by omega), if_pos (show r % m < k + 1 by omega)]
        rw [if_pos]
        · rw [h2]
        · refine ⟨(hmay k (by omega)).2 (by omega), ?_⟩
          by_cases h3 : k = 0 ∨ 3 ≤ r / m + 1
          · rw [if_pos h3]; left; omega
          · rw [if_neg h3]
            right
            rw [show ((0 : Int).toNat) = 0 from rfl, hown k (by omega), hown 0 (by omega)]
            refine (hcmp _ _).2 ?_
            have hc0 : cn m r 0 = ((r / m : Nat) : Int) + 1 := by unfold cn; rw [if_pos (by omega)]
            omega
      · have hc : cn m r k = ((r / m : Nat) : Int) := by unfold cn; rw [if_neg (by omega)]; omega
        rw [if_pos (show r % m < k by omega), if_pos (show r % m < k + 1 by omega)]
        rw [if_neg]
        rintro ⟨_, h | h⟩
        · omega
        · rw [Int.toNat_natCast, hown k (by omega), hown _ hlt] at h
          have := (hcmp _ _).1 h
          have hc0 : cn m r (r % m) = ((r / m : Nat) : Int) := by unfold cn; rw [if_neg (by omega)]; omega
          omega
theorem late_one (now tm : Int) (S : Nat → U) (D : Nat → Int) : lateF now tm S D 1 = if (S 0).1 = 1 ∧ (S 0).2.2 ≤ now ∧ tm ≤ now - (S 0).2.2 then (upd S 0 (0, 0, 0), updD D (S 0).2.1.toNat (D (S 0).2.1.toNat + 1)) else (S, D) := rfl
/-- After the late ones: the chunk is open, and the demerits are as many as the turns. -/
theorem linv_late {m r : Nat} {tm at_ : Int} {s : St} (hm : 0 < m) (ht : 1 ≤ tm) (h : LInv m tm at_ r s) : ((lateF (at_ + r * tm) tm s.1 s.2.1 1).1 0).1 = 0 ∧ (∀ k, k < m → (lateF (at_ + r * tm) tm s.1 s.2.1 1).2 k = cn m r k) := by
  obtain ⟨h0, h1, h2, h3⟩ := h
  rw [late_one]
  rcases r with _ | q
  · have e := h0 rfl
    rw [if_neg (fun h => by rw [e] at h; exact absurd h.1 (by decide))]
    exact ⟨by rw [e], fun k hk => by have := h3 k hk; simpa using this⟩
  · have e := h1 q rfl
    have e2 : at_ + ((q + 1 : Nat) : Int) * tm = at_ + q * tm + tm := by
      rw [Int.natCast_succ, Int.add_mul]; omega
    rw [e2, e, if_pos ⟨rfl, by show at_ + (q : Int) * tm ≤ _; omega, by show tm ≤ _ - (at_ + (q : Int) * tm); omega⟩]
    refine ⟨by show (upd s.1 0 (0, 0, 0) 0).1 = 0; rw [upd_same], fun k hk => ?_⟩
    show updD s.2.1 ((q % m : Nat) : Int).toNat _ k = _
    rw [Int.toNat_natCast]
    have hq := Nat.mod_lt q hm
    have h4 := h3 k hk
    simp only [Nat.add_sub_cancel] at h4
    rw [cn_succ q k hk]
    by_cases e3 : k = q % m
    · rw [if_pos e3, e3, updD_same]
      have := h3 (q % m) hq
      simp only [Nat.add_sub_cancel] at this
      show s.2.1 ((q % m : Nat) : Int).toNat + 1 = _
      rw [Int.toNat_natCast]
      omega
    · rw [if_neg e3, updD_other _ _ _ _ e3]
      exact h4
theorem linv_next {m r : Nat} {tm at_ : Int} {s : St} (hm : 0 < m) (hr : r < 3 * m) (ht : 1 ≤ tm) (h : LInv m tm at_ r s) :
    (nextF (at_ + r * tm) 1 tm 1 m s).1 = (0, ((r % m : Nat) : Int), true) ∧ LInv m tm at_ (r + 1) (nextF (at_ + r * tm) 1 tm 1 m s).2 := by
  obtain ⟨a, b⟩ := linv_late hm ht h
  obtain ⟨h0, h1, h2, h3⟩ := h
  have hop : openF (lateF (at_ + r * tm) tm s.1 s.2.1 1).1 1 0 = 0 := openF_eq (S := (lateF (at_ + r * tm) tm s.1 s.2.1 1).1) (by omega) a (fun j hj => by omega)
  have hb := bestF_turn hm hr a b h2 m (Nat.le_refl _)
  have hlt := Nat.mod_lt r hm
  rw [if_pos hlt] at hb
  have hn : nextF (at_ + r * tm) 1 tm 1 m s = ((0, ((r % m : Nat) : Int), true), (upd (lateF (at_ + r * tm) tm s.1 s.2.1 1).1 0 (1, ((r % m : Nat) : Int), at_ + r * tm), (lateF (at_ + r * tm) tm s.1 s.2.1 1).2, updT s.2.2 0 (r % m) (s.2.2 0 (r % m) + 1))) := by
    unfold nextF
    simp only [hop, hb]
    rw [if_pos ⟨by omega, by omega⟩, Int.toNat_natCast]
    rfl
  rw [hn]
  refine ⟨rfl, fun h => by omega, fun q hq => ?_, fun k hk => ?_, fun k hk => ?_⟩
  · obtain rfl : q = r := by omega
    generalize (lateF (at_ + q * tm) tm s.1 s.2.1 1).1 = F
    simp [upd]
  · show updT s.2.2 0 (r % m) _ 0 k = _
    rw [cn_succ r k hk]
    unfold updT
    by_cases e : k = r % m
    · rw [if_pos ⟨rfl, e⟩, if_pos e, e, h2 _ hlt]
    · rw [if_neg (fun h => e h.2), if_neg e, h2 k hk]
  · simp only [Nat.add_sub_cancel]
    exact b k hk
theorem linv_stay {m r : Nat} {tm at_ : Int} {s : St} (hm : 0 < m) (h : LInv m tm at_ (r + 1) s) :
    (nextF (at_ + r * tm + tm - 1) 1 tm 1 m s).1 = (0, 0, false) ∧ LInv m tm at_ (r + 1) (nextF (at_ + r * tm + tm - 1) 1 tm 1 m s).2 ∧ (nextF (at_ + r * tm + tm - 1) 1 tm 1 m s).2.2.1 (r % m) = ((r / m : Nat) : Int) := by
  have h' := h
  obtain ⟨h0, h1, h2, h3⟩ := h
  have e := h1 r rfl
  have hl : lateF (at_ + r * tm + tm - 1) tm s.1 s.2.1 1 = (s.1, s.2.1) := by
    rw [late_one, e, if_neg]
    rintro ⟨_, _, h⟩
    have : tm ≤ at_ + r * tm + tm - 1 - (at_ + r * tm) := h
    omega
  have hop : openF s.1 1 0 = 1 := openF_none (fun j hj => by
    obtain rfl : j = 0 := by omega
    rw [e]
    show (1 : Int) ≠ 0
    decide)
  have hn : nextF (at_ + r * tm + tm - 1) 1 tm 1 m s = ((0, 0, false), s) := by
    unfold nextF
    simp only [hl, hop]
    rw [if_neg (fun h => by omega)]
  rw [hn]
  refine ⟨rfl, h', ?_⟩
  show s.2.1 (r % m) = _
  have := h3 (r % m) (Nat.mod_lt r hm)
  simp only [Nat.add_sub_cancel] at this
  rw [this]
  unfold cn
  rw [if_neg (by omega)]
  omega
theorem linv_end {m : Nat} {tm at_ : Int} {s : St} (hm : 0 < m) (ht : 1 ≤ tm) (h : LInv m tm at_ (3 * m) s) :
    (nextF (at_ + (3 * m : Nat) * tm) 1 tm 1 m s).1 = (0, 0, false) ∧ stuckB 1 m (nextF (at_ + (3 * m : Nat) * tm) 1 tm 1 m s).2 = true ∧ leftF (nextF (at_ + (3 * m : Nat) * tm) 1 tm 1 m s).2.1 1 = 1 := by
  obtain ⟨a, b⟩ := linv_late hm ht h
  have hc : ∀ k, cn m (3 * m) k = 3 := fun k => by unfold cn; rw [Nat.mul_div_cancel _ hm, Nat.mul_mod_left]; simp
  have hop : openF (lateF (at_ + (3 * m : Nat) * tm) tm s.1 s.2.1 1).1 1 0 = 0 := openF_eq (by omega) a (fun j hj => by omega)
  have hb : ∀ j, j ≤ m → bestF (lateF (at_ + (3 * m : Nat) * tm) tm s.1 s.2.1 1).1 (lateF (at_ + (3 * m : Nat) * tm) tm s.1 s.2.1 1).2 s.2.2 1 1 0 j = -1 := fun j => by
    induction j with
    | zero => intro _; rfl
    | succ k ih =>
      intro hk
      unfold bestF
      rw [if_neg, ih (by omega)]
      rintro ⟨h, _⟩
      have h1 := h.1
      rw [b k (by omega), hc] at h1
      omega
  have hn : nextF (at_ + (3 * m : Nat) * tm) 1 tm 1 m s = ((0, 0, false), ((lateF (at_ + (3 * m : Nat) * tm) tm s.1 s.2.1 1).1, (lateF (at_ + (3 * m : Nat) * tm) tm s.1 s.2.1 1).2, s.2.2)) := by
    unfold nextF
    simp only [hop, hb m (Nat.le_refl _)]
    rw [if_neg (fun h => by omega)]
  have hl : leftF (lateF (at_ + (3 * m : Nat) * tm) tm s.1 s.2.1 1).1 1 = 1 := by
    have e2 : ¬ ((lateF (at_ + (3 * m : Nat) * tm) tm s.1 s.2.1 1).1 0).1 = 2 := by rw [a]; decide
    unfold leftF leftF
    rw [if_neg e2]
  rw [hn]
  refine ⟨rfl, ?_, hl⟩
  unfold stuckB
  simp only [hl]
  rw [hasD_no (fun k hk => by rw [b k hk, hc]; decide)]
  rfl
end Go.Proofs.Ytaheoifjihkipaa.As
