/- What calls of Go functions of this seat come to, as the rows need it: under the conditions that each theorem names. -/
import Derived.Test.YtoiblfmlahedlaaDoorHc637e66dafc9
import Derived.Test.YtoiblfmlahedlaaDoorHb14e0432db7b
section
namespace Go.Proofs.YtoiblfmlahedlaaDoor.As
open Go.RowKit Go.Proofs.YtoiblfmlahedlaaDoorW.PrintWords Go.Proofs.YtoiblfmlahedlaaDoorW.PrintLast Go.Proofs.YtoiblfmlahedlaaDoorW.PrintMore
set_option linter.unusedVariables false
set_option linter.unusedSimpArgs false
set_option maxRecDepth 100000
theorem heap_chg {w w' : World} {a b c k : Nat} {o : Obj} (h : w.heap[k]? = some o) (hc : Chg a b c w w') (h1 : k ≠ a) (h2 : k ≠ b) (h3 : k ≠ c) : w'.heap[k]? = some o :=
  (hc.block k (Array.getElem?_eq_some_iff.1 h).1 h1 h2 h3).trans h
theorem Dem.chg {w w' : World} {g m a b c : Nat} {D : Nat → Int} (h : Dem w g m D) (hc : Chg a b c w w') (h1 : g ≠ a) (h2 : g ≠ b) (h3 : g ≠ c) : Dem w' g m D := by
  obtain ⟨cs, a1, a2, a3⟩ := h
  exact ⟨cs, heap_chg a1 hc h1 h2 h3, a2, a3⟩
theorem Dem.lt {w : World} {g m : Nat} {D : Nat → Int} (h : Dem w g m D) : g < w.heap.size := by
  obtain ⟨cs, a1, _⟩ := h
  exact (Array.getElem?_eq_some_iff.1 a1).1
theorem PW.far {w : World} {p gc gd gm cc cd n m c : Nat} {win tm : Int} {s : St} (h : PW w p gc gd gm cc cd n m win tm c s) {g : Nat} (k : Nat) (v : Value) (h1 : g ≠ p) (h2 : g ≠ gc) (h3 : g ≠ gd) (h4 : g ≠ gm) : PW (w.setCell ⟨g, k, none⟩ v) p gc gd gm cc cd n m win tm c s := by
  have hk : ∀ (q : Nat) (o : Obj), q ≠ g → w.heap[q]? = some o → (w.setCell ⟨g, k, none⟩ v).heap[q]? = some o := fun q o hq ho => (Below.heap_setCell w ⟨g, k, none⟩ v q (fun e => hq e)).trans ho
  obtain ⟨cs, a, b, c⟩ := h.pl.ch
  obtain ⟨ds, a', b', c'⟩ := h.pl.de
  obtain ⟨D, g1, g2⟩ := h.mp
  obtain ⟨es, clock, x, F, hs, hD⟩ := g1
  exact ⟨⟨hk _ _ h1.symm h.pl.blk, ⟨cs, hk _ _ h2.symm a, b, c⟩, ⟨ds, hk _ _ h3.symm a', b', c'⟩, h.pl.n1, h.pl.m1, h.pl.e1, h.pl.e2, h.pl.e3, h.pl.e4, h.pl.e5, h.pl.e6⟩, ⟨D, ⟨es, clock, hk _ _ h4.symm x, F, hs, hD⟩, g2⟩, h.good, h.tb, h.t1, h.t2⟩
theorem lateF_had (now tm : Int) (S : Nat → U) (D : Nat → Int) : ∀ i j, ((lateF now tm S D i).1 j).1 = 2 ↔ (S j).1 = 2
  | 0, _ => Iff.rfl
  | i + 1, j => by
    have ih := lateF_had now tm S D i j
    unfold lateF
    split
    · rename_i h
      show (upd _ i _ j).1 = 2 ↔ _
      by_cases e : j = i
      · subst e
        rw [upd_same]
        exact ⟨(fun h2 => by cases h2), fun h2 => by omega⟩
      · rw [upd_other _ _ _ _ e]
        exact ih
    · exact ih
theorem next_had (now win tm : Int) (n m : Nat) (s : St) (j : Nat) : ((nextF now win tm n m s).2.1 j).1 = 2 ↔ (s.1 j).1 = 2 := by
  have hl := lateF_had now tm s.1 s.2.1 n j
  unfold nextF
  simp only []
  split
  · rename_i h
    show (upd _ _ _ j).1 = 2 ↔ _
    by_cases e : j = openF (lateF now tm s.1 s.2.1 n).1 n 0
    · have hd := (openF_spec (lateF now tm s.1 s.2.1 n).1 n 0).2.2.2 (by omega)
      rw [← e] at hd
      rw [← hl, e, upd_same, ← e]
      exact ⟨(fun h2 => by cases h2), fun h2 => by omega⟩
    · rw [upd_other _ _ _ _ e]
      exact hl
  · exact hl
theorem next_asks {now win tm : Int} {n m : Nat} {s : St} (h : (nextF now win tm n m s).1.2.2 = true) :
    ∃ i k : Nat, i < n ∧ k < m ∧ (nextF now win tm n m s).1 = ((i : Int), (k : Int), true) ∧ ((lateF now tm s.1 s.2.1 n).1 i).1 = 0 ∧ (nextF now win tm n m s).2 = (upd (lateF now tm s.1 s.2.1 n).1 i (1, (k : Int), now), (lateF now tm s.1 s.2.1 n).2, updT s.2.2 i k (s.2.2 i k + 1)) ∧
      bestF (lateF now tm s.1 s.2.1 n).1 (lateF now tm s.1 s.2.1 n).2 s.2.2 win n i m = k := by
  unfold nextF at h ⊢
  simp only [] at h ⊢
  by_cases hc : openF (lateF now tm s.1 s.2.1 n).1 n 0 < n ∧ 0 ≤ bestF (lateF now tm s.1 s.2.1 n).1 (lateF now tm s.1 s.2.1 n).2 s.2.2 win n (openF (lateF now tm s.1 s.2.1 n).1 n 0) m
  · rw [if_pos hc]
    obtain ⟨k, hk⟩ := Int.eq_ofNat_of_zero_le hc.2
    have hr := (bestF_rng (lateF now tm s.1 s.2.1 n).1 (lateF now tm s.1 s.2.1 n).2 s.2.2 win n (openF (lateF now tm s.1 s.2.1 n).1 n 0) m).2
    refine ⟨_, k, hc.1, by omega, ?_, (openF_spec (lateF now tm s.1 s.2.1 n).1 n 0).2.2.2 (by omega), ?_, hk⟩
    · simp only [hk]
    · simp only [hk, Int.toNat_natCast]
  · rw [if_neg hc] at h
    cases h
theorem bad_had (n m : Nat) (s : St) (i k : Int) (j : Nat) : ((badS n m s i k).1 j).1 = 2 ↔ (s.1 j).1 = 2 := by
  unfold badS
  split
  · rename_i h
    show (upd _ _ _ j).1 = 2 ↔ _
    by_cases e : j = i.toNat
    · rw [e, upd_same]
      exact ⟨(fun h2 => by cases h2), fun h2 => by omega⟩
    · rw [upd_other _ _ _ _ e]
  · exact Iff.rfl
theorem leftF_congr {S S' : Nat → U} : ∀ n, (∀ j, j < n → ((S' j).1 = 2 ↔ (S j).1 = 2)) → leftF S' n = leftF S n
  | 0, _ => rfl
  | n + 1, h => by
    unfold leftF
    rw [leftF_congr n (fun j hj => h j (by omega))]
    have := h n (by omega)
    by_cases e : (S n).1 = 2
    · rw [if_pos e, if_pos (this.2 e)]
    · rw [if_neg e, if_neg (fun h2 => e (this.1 h2))]
end Go.Proofs.YtoiblfmlahedlaaDoor.As
end
section
namespace Go.Proofs.YtoiblfmlahedlaaDoor.As
open Go.RowKit Go.Proofs.YtoiblfmlahedlaaDoorW.PrintWords Go.Proofs.YtoiblfmlahedlaaDoorW.PrintLast Go.Proofs.YtoiblfmlahedlaaDoorW.PrintMore
set_option linter.unusedVariables false
set_option linter.unusedSimpArgs false
set_option maxRecDepth 100000
def Hrel (n : Nat) (s : St) (H : Nat → Int) : Prop := ∀ i, i < n → H i = if (s.1 i).1 = 2 then 1 else 0
theorem Hrel.congr {n : Nat} {s s' : St} {H : Nat → Int} (h : Hrel n s H) (hs : ∀ j, (s'.1 j).1 = 2 ↔ (s.1 j).1 = 2) : Hrel n s' H := fun i hi => by
  rw [h i hi]
  by_cases e : (s.1 i).1 = 2
  · rw [if_pos e, if_pos ((hs i).2 e)]
  · rw [if_neg e, if_neg (fun h2 => e ((hs i).1 h2))]
theorem leftF_start : ∀ n, leftF ks0.1 n = n
  | 0 => rfl
  | n + 1 => by unfold leftF; rw [leftF_start n]; rfl
end Go.Proofs.YtoiblfmlahedlaaDoor.As
end
section
namespace Go.Proofs.YtoiblfmlahedlaaDoor.As
open Go.RowKit Go.Proofs.YtoiblfmlahedlaaDoorW.PrintWords Go.Proofs.YtoiblfmlahedlaaDoorW.PrintLast Go.Proofs.YtoiblfmlahedlaaDoorW.PrintMore
set_option linter.unusedVariables false
set_option linter.unusedSimpArgs false
set_option maxRecDepth 100000
theorem Dem.congr {w : World} {g m : Nat} {D D' : Nat → Int} (h : Dem w g m D) (hd : ∀ k, k < m → D k = D' k) : Dem w g m D' := by
  obtain ⟨cs, a, b, c⟩ := h
  exact ⟨cs, a, b, fun k hk => by rw [← hd k hk]; exact c k hk⟩
end Go.Proofs.YtoiblfmlahedlaaDoor.As
end
section
namespace Go.Proofs.YtoiblfmlahedlaaDoor.As
open Go.RowKit Go.Proofs.YtoiblfmlahedlaaDoorW.PrintWords Go.Proofs.YtoiblfmlahedlaaDoorW.PrintLast Go.Proofs.YtoiblfmlahedlaaDoorW.PrintMore
set_option linter.unusedVariables false
set_option linter.unusedSimpArgs false
set_option maxRecDepth 100000
def csum (T : Nat → Nat → Int) (i : Nat) : Nat → Int
  | 0 => 0
  | k + 1 => csum T i k + T i k
def tsum (T : Nat → Nat → Int) (m : Nat) : Nat → Int
  | 0 => 0
  | i + 1 => tsum T m i + csum T i m
theorem csum_rng {T : Nat → Nat → Int} {i : Nat} : ∀ m, (∀ k, k < m → 0 ≤ T i k ∧ T i k ≤ 1) → 0 ≤ csum T i m ∧ csum T i m ≤ m
  | 0, _ => by unfold csum; omega
  | m + 1, h => by
    have := csum_rng m (fun k hk => h k (by omega))
    have := h m (by omega)
    unfold csum
    omega
theorem csum_upd {T : Nat → Nat → Int} {i k : Nat} : ∀ m, csum (updT T i k (T i k + 1)) i m = csum T i m + if k < m then 1 else 0
  | 0 => by simp [csum]
  | m + 1 => by
    have ih := csum_upd (T := T) (i := i) (k := k) m
    unfold csum
    rw [ih]
    unfold updT
    by_cases e : m = k
    · subst e
      rw [if_pos (show i = i ∧ m = m from ⟨rfl, rfl⟩), if_neg (by omega), if_pos (by omega)]
      omega
    · rw [if_neg (show ¬ (i = i ∧ m = k) from fun h => e h.2)]
      by_cases e2 : k < m
      · rw [if_pos e2, if_pos (by omega)]; omega
      · rw [if_neg e2, if_neg (by omega)]; omega
theorem csum_other {T : Nat → Nat → Int} {i k j : Nat} (x : Int) (h : j ≠ i) : ∀ m, csum (updT T i k x) j m = csum T j m
  | 0 => rfl
  | m + 1 => by
    unfold csum
    rw [csum_other x h m]
    unfold updT
    rw [if_neg (fun e => h e.1)]
theorem tsum_rng {T : Nat → Nat → Int} {m : Nat} : ∀ n, (∀ i, i < n → ∀ k, k < m → 0 ≤ T i k ∧ T i k ≤ 1) → 0 ≤ tsum T m n ∧ tsum T m n ≤ (n : Int) * m
  | 0, _ => by unfold tsum; simp
  | n + 1, h => by
    have h1 := tsum_rng n (fun i hi => h i (by omega))
    have h2 := csum_rng m (h n (by omega))
    unfold tsum
    rw [show ((n + 1 : Nat) : Int) * m = (n : Int) * m + m by rw [Int.natCast_succ, Int.add_mul, Int.one_mul]]
    omega
theorem tsum_upd {T : Nat → Nat → Int} {m i k : Nat} (hk : k < m) : ∀ n, tsum (updT T i k (T i k + 1)) m n = tsum T m n + if i < n then 1 else 0
  | 0 => by simp [tsum]
  | n + 1 => by
    have ih := tsum_upd (T := T) (i := i) hk n
    unfold tsum
    rw [ih]
    by_cases e : n = i
    · subst e
      rw [csum_upd, if_neg (by omega), if_pos hk, if_pos (by omega)]
      omega
    · rw [csum_other _ e]
      by_cases e2 : i < n
      · rw [if_pos e2, if_pos (by omega)]; omega
      · rw [if_neg e2, if_neg (by omega)]; omega
def AInv (e now tm : Int) (n m g : Nat) (s : St) : Prop :=
  (∀ i, i < n → ∀ k, k < m → 0 ≤ s.2.2 i k ∧ s.2.2 i k ≤ 1) ∧ (∀ i, i < n → (s.1 i).1 ≠ 2 → s.2.2 i g = 0) ∧ (∀ i, i < n → (s.1 i).1 = 0 ∨ (s.1 i).1 = 1 ∨ (s.1 i).1 = 2) ∧
  (∀ i, i < n → (s.1 i).1 = 0 → now ≤ csum s.2.2 i m * tm) ∧
  (∀ i, i < n → (s.1 i).1 = 1 → 0 ≤ (s.1 i).2.1 ∧ (s.1 i).2.1 ≠ (g : Int) ∧ now ≤ (s.1 i).2.2 + tm - e ∧ (s.1 i).2.2 + tm ≤ csum s.2.2 i m * tm ∧ (s.1 i).2.2 ≤ now) ∧ s.2.1 g = 0
theorem ainv_start (tm : Int) (n m g : Nat) : AInv 0 0 tm n m g ks0 := by
  refine ⟨fun i _ k _ => ⟨Int.le_refl _, by show (0 : Int) ≤ 1; omega⟩, fun i _ _ => rfl, fun i _ => Or.inl rfl, fun i _ _ => ?_, fun i _ h => absurd h (by show ¬ ((0 : Int) = 1); omega), rfl⟩
  have : ∀ k, csum ks0.2.2 i k = 0 := fun k => by
    induction k with
    | zero => rfl
    | succ k ih => unfold csum; rw [ih]; rfl
  rw [this, Int.zero_mul]
  exact Int.le_refl _
theorem lateF_pt (now tm : Int) (S : Nat → U) (D : Nat → Int) : ∀ i j, j < i → (lateF now tm S D i).1 j = if (S j).1 = 1 ∧ (S j).2.2 ≤ now ∧ tm ≤ now - (S j).2.2 then (0, 0, 0) else S j
  | 0, _, h => by omega
  | i + 1, j, h => by
    by_cases e : j = i
    · subst e
      unfold lateF
      by_cases hc : (S j).1 = 1 ∧ (S j).2.2 ≤ now ∧ tm ≤ now - (S j).2.2
      · rw [if_pos hc, if_pos hc]
        exact upd_same _ _ _
      · rw [if_neg hc, if_neg hc]
        exact lateF_at now tm S D j j (Nat.le_refl _)
    · have ih := lateF_pt now tm S D i j (by omega)
      rw [← ih, show lateF now tm S D (i + 1) = if (S i).1 = 1 ∧ (S i).2.2 ≤ now ∧ tm ≤ now - (S i).2.2 then (upd (lateF now tm S D i).1 i (0, 0, 0), updD (lateF now tm S D i).2 (S i).2.1.toNat ((lateF now tm S D i).2 (S i).2.1.toNat + 1)) else lateF now tm S D i from rfl]
      split
      · exact upd_other _ _ _ _ e
      · rfl
theorem lateF_Dg (now tm : Int) (S : Nat → U) (D : Nat → Int) (g : Nat) : ∀ i, (∀ j, j < i → (S j).1 = 1 → 0 ≤ (S j).2.1 ∧ (S j).2.1 ≠ (g : Int)) → (lateF now tm S D i).2 g = D g
  | 0, _ => rfl
  | i + 1, h => by
    have ih := lateF_Dg now tm S D g i (fun j hj => h j (by omega))
    unfold lateF
    split
    · rename_i hc
      have := h i (by omega) hc.1
      show updD _ _ _ g = _
      rw [updD_other _ _ _ _ (by omega)]
      exact ih
    · exact ih
theorem ainv_late {now tm : Int} {n m g : Nat} {s : St} (h : AInv 0 now tm n m g s) : AInv 1 now tm n m g ((lateF now tm s.1 s.2.1 n).1, (lateF now tm s.1 s.2.1 n).2, s.2.2) := by
  obtain ⟨h1, h2, h3, h4, h5, h6⟩ := h
  have hp := fun i hi => lateF_pt now tm s.1 s.2.1 n i hi
  refine ⟨h1, fun i hi hs => ?_, fun i hi => ?_, fun i hi hs => ?_, fun i hi hs => ?_, ?_⟩
  · refine h2 i hi (fun e => hs ?_)
    show ((lateF now tm s.1 s.2.1 n).1 i).1 = 2
    rw [hp i hi, if_neg (fun hc => by omega)]
    exact e
  · show ((lateF now tm s.1 s.2.1 n).1 i).1 = 0 ∨ ((lateF now tm s.1 s.2.1 n).1 i).1 = 1 ∨ ((lateF now tm s.1 s.2.1 n).1 i).1 = 2
    rw [hp i hi]
    split
    · exact Or.inl rfl
    · exact h3 i hi
  · have hs' : ((lateF now tm s.1 s.2.1 n).1 i).1 = 0 := hs
    rw [hp i hi] at hs'
    split at hs'
    · rename_i hc
      have := h5 i hi hc.1
      show now ≤ csum s.2.2 i m * tm
      omega
    · exact h4 i hi hs'
  · have hs' : ((lateF now tm s.1 s.2.1 n).1 i).1 = 1 := hs
    show 0 ≤ ((lateF now tm s.1 s.2.1 n).1 i).2.1 ∧ ((lateF now tm s.1 s.2.1 n).1 i).2.1 ≠ (g : Int) ∧ now ≤ ((lateF now tm s.1 s.2.1 n).1 i).2.2 + tm - 1 ∧ ((lateF now tm s.1 s.2.1 n).1 i).2.2 + tm ≤ csum s.2.2 i m * tm ∧ ((lateF now tm s.1 s.2.1 n).1 i).2.2 ≤ now
    rw [hp i hi] at hs' ⊢
    split
    · rename_i hc
      rw [if_pos hc] at hs'
      cases hs'
    · rename_i hc
      rw [if_neg hc] at hs'
      have := h5 i hi hs'
      refine ⟨this.1, this.2.1, ?_, this.2.2.2.1, this.2.2.2.2⟩
      have hn : ¬ (tm ≤ now - (s.1 i).2.2) := fun h => hc ⟨hs', this.2.2.2.2, h⟩
      omega
  · show (lateF now tm s.1 s.2.1 n).2 g = 0
    rw [lateF_Dg now tm s.1 s.2.1 g n (fun j hj hs => ⟨(h5 j hj hs).1, (h5 j hj hs).2.1⟩)]
    exact h6
theorem cmp3_neg {x y : U} (h : cmp3 x y < 0) : x.1 ≤ y.1 := by
  unfold cmp3 cmpI at h
  by_cases h1 : x.1 < y.1
  · omega
  · by_cases h2 : y.1 < x.1
    · simp [h1, h2] at h
    · omega
theorem cmp3_pos {x y : U} (h : ¬ cmp3 x y < 0) : y.1 ≤ x.1 := by
  by_cases h1 : x.1 < y.1
  · exfalso
    apply h
    unfold cmp3 cmpI
    simp [h1]
  · omega
theorem bestF_min {S : Nat → U} {D : Nat → Int} {T : Nat → Nat → Int} {win : Int} {n i : Nat} : ∀ j k, k < j → mayF S D win n k → 0 ≤ bestF S D T win n i j ∧ T i (bestF S D T win n i j).toNat ≤ T i k
  | 0, _, h, _ => by omega
  | j + 1, k, hk, hm => by
    unfold bestF
    by_cases hc : mayF S D win n j ∧ (bestF S D T win n i j < 0 ∨ cmp3 (ownF S D T n i j) (ownF S D T n i (bestF S D T win n i j).toNat) < 0)
    · rw [if_pos hc, Int.toNat_natCast]
      refine ⟨by omega, ?_⟩
      by_cases e : k = j
      · rw [e]; exact Int.le_refl _
      · have ih := bestF_min (T := T) (i := i) j k (by omega) hm
        rcases hc.2 with h | h
        · omega
        · have := cmp3_neg h
          exact Int.le_trans this ih.2
    · rw [if_neg hc]
      by_cases e : k = j
      · subst e
        have h1 : ¬ bestF S D T win n i k < 0 := fun h => hc ⟨hm, Or.inl h⟩
        have h2 := cmp3_pos (fun h => hc ⟨hm, Or.inr h⟩)
        exact ⟨by omega, h2⟩
      · exact bestF_min j k (by omega) hm
theorem loadF_none {S : Nat → U} {g : Int} : ∀ n, (∀ i, i < n → (S i).1 = 1 → (S i).2.1 ≠ g) → loadF S g n = 0
  | 0, _ => rfl
  | n + 1, h => by
    unfold loadF
    rw [loadF_none n (fun i hi => h i (by omega)), if_neg (fun hc => h n (by omega) hc.1 hc.2)]
theorem ainv_none {now win tm : Int} {n m g : Nat} {s : St} (hg : g < m) (hw : 1 ≤ win) (h : AInv 0 now tm n m g s) (hf : (nextF now win tm n m s).1.2.2 = false) : AInv 0 (now + 1) tm n m g (nextF now win tm n m s).2 ∧ tsum (nextF now win tm n m s).2.2.2 m n = tsum s.2.2 m n := by
  have hl := ainv_late h
  have hmay : mayF (lateF now tm s.1 s.2.1 n).1 (lateF now tm s.1 s.2.1 n).2 win n g := by
    obtain ⟨_, _, _, _, h5, h6⟩ := hl
    refine ⟨by have : (lateF now tm s.1 s.2.1 n).2 g = 0 := h6; omega, ?_⟩
    rw [loadF_none n (fun i hi hs => (h5 i hi hs).2.1)]
    omega
  have hno : ¬ openF (lateF now tm s.1 s.2.1 n).1 n 0 < n := fun ho => by
    have := (bestF_min (T := s.2.2) (i := openF (lateF now tm s.1 s.2.1 n).1 n 0) m g hg hmay).1
    unfold nextF at hf
    simp only [] at hf
    rw [if_pos ⟨ho, this⟩] at hf
    cases hf
  have hsp := openF_spec (lateF now tm s.1 s.2.1 n).1 n 0
  have he : (nextF now win tm n m s).2 = ((lateF now tm s.1 s.2.1 n).1, (lateF now tm s.1 s.2.1 n).2, s.2.2) := by
    unfold nextF
    simp only []
    rw [if_neg (fun hc => hno hc.1)]
  rw [he]
  obtain ⟨h1, h2, h3, h4, h5, h6⟩ := hl
  refine ⟨⟨h1, h2, h3, fun i hi hs => absurd hs (hsp.2.2.1 i (by omega) (by omega)), fun i hi hs => ?_, h6⟩, rfl⟩
  have := h5 i hi hs
  exact ⟨this.1, this.2.1, by omega, this.2.2.2.1, by omega⟩
theorem ainv_some {now win tm : Int} {n m g : Nat} {s : St} (hg : g < m) (hw : 1 ≤ win) (ht : 1 ≤ tm) (h : AInv 0 now tm n m g s) (hf : (nextF now win tm n m s).1.2.2 = true) :
    ∃ i k : Nat, i < n ∧ k < m ∧ (nextF now win tm n m s).1 = ((i : Int), (k : Int), true) ∧ tsum (nextF now win tm n m s).2.2.2 m n = tsum s.2.2 m n + 1 ∧
      (k = g → hadR n (nextF now win tm n m s).2 i = 0 ∧ AInv 0 now tm n m g (hadS n (nextF now win tm n m s).2 i) ∧ (hadS n (nextF now win tm n m s).2 i).2.2 = (nextF now win tm n m s).2.2.2) ∧
      (k ≠ g → AInv 0 now tm n m g (nextF now win tm n m s).2) ∧
      (k ≠ g → badR n m (nextF now win tm n m s).2 i k = 0 ∧ AInv 0 now tm n m g (badS n m (nextF now win tm n m s).2 i k) ∧ (badS n m (nextF now win tm n m s).2 i k).2.2 = (nextF now win tm n m s).2.2.2) := by
  have hl := ainv_late h
  obtain ⟨i, k, hi, hk, hr, h0, hs, hb⟩ := next_asks hf
  have hmay : mayF (lateF now tm s.1 s.2.1 n).1 (lateF now tm s.1 s.2.1 n).2 win n g := by
    obtain ⟨_, _, _, _, h5, h6⟩ := hl
    refine ⟨by have : (lateF now tm s.1 s.2.1 n).2 g = 0 := h6; omega, ?_⟩
    rw [loadF_none n (fun i hi hs => (h5 i hi hs).2.1)]
    omega
  have hmin := (bestF_min (T := s.2.2) (i := i) m g hg hmay).2
  rw [hb, Int.toNat_natCast] at hmin
  generalize (lateF now tm s.1 s.2.1 n).1 = S1 at hl hb hs h0
  generalize (lateF now tm s.1 s.2.1 n).2 = D1 at hl hb hs
  clear hb hmay
  obtain ⟨h1, h2, h3, h4, h5, h6⟩ := hl
  have hz : s.2.2 i k = 0 := by
    have a := h2 i hi (by show (S1 i).1 ≠ 2; omega)
    have b := h1 i hi k hk
    simp only [] at a b
    omega
  rw [hs]
  have hcs : csum (updT s.2.2 i k (s.2.2 i k + 1)) i m = csum s.2.2 i m + 1 := by rw [csum_upd, if_pos hk]
  have hT : ∀ j, j < n → ∀ q, q < m → 0 ≤ updT s.2.2 i k (s.2.2 i k + 1) j q ∧ updT s.2.2 i k (s.2.2 i k + 1) j q ≤ 1 := fun j hj q hq => by
    have := h1 j hj q hq
    simp only [] at this
    unfold updT
    split
    · omega
    · exact this
  have hmono : ∀ j, csum s.2.2 j m * tm ≤ csum (updT s.2.2 i k (s.2.2 i k + 1)) j m * tm := fun j => by
    by_cases e : j = i
    · rw [e, hcs, Int.add_mul]; omega
    · rw [csum_other _ e]; exact Int.le_refl _
  have hopen := h4 i hi h0
  have hnow : now + tm ≤ csum (updT s.2.2 i k (s.2.2 i k + 1)) i m * tm := by
    rw [hcs, Int.add_mul]
    simp only [] at hopen
    omega
  have hG : ∀ j, j < n → j ≠ i ∨ k ≠ g → (S1 j).1 ≠ 2 → updT s.2.2 i k (s.2.2 i k + 1) j g = 0 := fun j hj hd hs => by
    have := h2 j hj hs
    unfold updT
    rw [if_neg (fun hc => hd.elim (fun a => a hc.1) (fun a => a hc.2.symm))]
    exact this
  refine ⟨i, k, hi, hk, hr, by show tsum (updT _ _ _ _) m n = _; rw [tsum_upd hk, if_pos hi], fun hkg => ?_, fun hkg => ?_, fun hkg => ?_⟩
  · have hR : hadR n (upd S1 i (1, (k : Int), now), D1, updT s.2.2 i k (s.2.2 i k + 1)) (i : Int) = 0 := by
      unfold hadR
      rw [if_pos ⟨by omega, by omega⟩, Int.toNat_natCast]
      simp only [upd_same]
      rfl
    have hS : hadS n (upd S1 i (1, (k : Int), now), D1, updT s.2.2 i k (s.2.2 i k + 1)) (i : Int) = (upd (upd S1 i (1, (k : Int), now)) i (2, 0, 0), D1, updT s.2.2 i k (s.2.2 i k + 1)) := by
      unfold hadS
      rw [if_pos ⟨⟨by omega, by omega⟩, by rw [Int.toNat_natCast]; simp [upd]⟩, Int.toNat_natCast]
    rw [hS]
    have hu : ∀ j, upd (upd S1 i (1, (k : Int), now)) i (2, 0, 0) j = if j = i then (2, 0, 0) else S1 j := fun j => by
      unfold upd
      by_cases e : j = i
      · rw [if_pos e, if_pos e]
      · rw [if_neg e, if_neg e, if_neg e]
    refine ⟨hR, ⟨hT, fun j hj hs => ?_, fun j hj => ?_, fun j hj hs => ?_, fun j hj hs => ?_, h6⟩, rfl⟩
    all_goals simp only [hu] at *
    · by_cases e : j = i
      · rw [if_pos e] at hs; exact absurd rfl hs
      · rw [if_neg e] at hs; exact hG j hj (Or.inl e) hs
    · by_cases e : j = i
      · rw [if_pos e]; exact Or.inr (Or.inr rfl)
      · rw [if_neg e]; exact h3 j hj
    · by_cases e : j = i
      · rw [if_pos e] at hs; cases hs
      · rw [if_neg e] at hs; exact Int.le_trans (h4 j hj hs) (hmono j)
    · by_cases e : j = i
      · rw [if_pos e] at hs; cases hs
      · rw [if_neg e] at hs ⊢
        have := h5 j hj hs
        have := hmono j
        omega
  · refine ⟨hT, fun j hj hs => ?_, fun j hj => ?_, fun j hj hs => ?_, fun j hj hs => ?_, h6⟩
    all_goals simp only [] at *
    · by_cases e : j = i
      · exact hG j hj (Or.inr hkg) (by rw [e, h0]; decide)
      · rw [upd_other _ _ _ _ e] at hs; exact hG j hj (Or.inl e) hs
    · by_cases e : j = i
      · rw [e, upd_same]; exact Or.inr (Or.inl rfl)
      · rw [upd_other _ _ _ _ e]; exact h3 j hj
    · by_cases e : j = i
      · rw [e, upd_same] at hs; cases hs
      · rw [upd_other _ _ _ _ e] at hs; exact Int.le_trans (h4 j hj hs) (hmono j)
    · by_cases e : j = i
      · rw [e, upd_same]
        refine ⟨by show (0 : Int) ≤ k; omega, by show (k : Int) ≠ g; omega, by show now ≤ now + tm - 0; omega, hnow, Int.le_refl _⟩
      · rw [upd_other _ _ _ _ e] at hs ⊢
        have := h5 j hj hs
        have := hmono j
        omega
  · have hR : badR n m (upd S1 i (1, (k : Int), now), D1, updT s.2.2 i k (s.2.2 i k + 1)) (i : Int) (k : Int) = 0 := by
      unfold badR
      rw [if_pos ⟨⟨by omega, by omega⟩, ⟨by omega, by omega⟩⟩, Int.toNat_natCast]
      simp only [upd_same]
      rfl
    have hS : badS n m (upd S1 i (1, (k : Int), now), D1, updT s.2.2 i k (s.2.2 i k + 1)) (i : Int) (k : Int) = (upd (upd S1 i (1, (k : Int), now)) i (0, 0, 0), updD D1 k (D1 k + 1), updT s.2.2 i k (s.2.2 i k + 1)) := by
      unfold badS
      rw [if_pos ⟨⟨⟨by omega, by omega⟩, ⟨by omega, by omega⟩⟩, by rw [Int.toNat_natCast]; simp [upd]⟩, Int.toNat_natCast, Int.toNat_natCast]
    rw [hS]
    have hu : ∀ j, upd (upd S1 i (1, (k : Int), now)) i (0, 0, 0) j = if j = i then (0, 0, 0) else S1 j := fun j => by
      unfold upd
      by_cases e : j = i
      · rw [if_pos e, if_pos e]
      · rw [if_neg e, if_neg e, if_neg e]
    refine ⟨hR, ⟨hT, fun j hj hs => ?_, fun j hj => ?_, fun j hj hs => ?_, fun j hj hs => ?_, by show updD D1 k _ g = 0; rw [updD_other _ _ _ _ (fun e => hkg e.symm)]; exact h6⟩, rfl⟩
    all_goals simp only [hu] at *
    · by_cases e : j = i
      · exact hG j hj (Or.inr hkg) (by rw [e, h0]; decide)
      · rw [if_neg e] at hs; exact hG j hj (Or.inl e) hs
    · by_cases e : j = i
      · rw [if_pos e]; exact Or.inl rfl
      · rw [if_neg e]; exact h3 j hj
    · by_cases e : j = i
      · rw [e]; omega
      · rw [if_neg e] at hs; exact Int.le_trans (h4 j hj hs) (hmono j)
    · by_cases e : j = i
      · rw [if_pos e] at hs; cases hs
      · rw [if_neg e] at hs ⊢
        have := h5 j hj hs
        have := hmono j
        omega
theorem ainv_done {now tm : Int} {n m g : Nat} {s : St} (ht : 1 ≤ tm) (h : AInv 0 now tm n m g s) (hn : (m : Int) * tm < now) : leftF s.1 n = 0 := by
  obtain ⟨h1, h2, h3, h4, h5, h6⟩ := h
  have hc : ∀ i, i < n → csum s.2.2 i m * tm ≤ m * tm := fun i hi => Int.mul_le_mul_of_nonneg_right (csum_rng m (h1 i hi)).2 (by omega)
  have hall : ∀ i, i < n → (s.1 i).1 = 2 := fun i hi => by
    have := hc i hi
    rcases h3 i hi with e | e | e
    · have := h4 i hi e; omega
    · have := h5 i hi e; omega
    · exact e
  have : ∀ N, N ≤ n → leftF s.1 N = 0 := fun N => by
    induction N with
    | zero => intro _; rfl
    | succ N ih => intro hN; unfold leftF; rw [ih (by omega), if_pos (hall N (by omega))]
  exact this n (Nat.le_refl _)
end Go.Proofs.YtoiblfmlahedlaaDoor.As
end
