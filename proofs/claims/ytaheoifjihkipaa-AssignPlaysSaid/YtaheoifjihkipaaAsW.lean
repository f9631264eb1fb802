/- What calls of Go functions of this seat come to, as the rows need it: under the conditions that each theorem names. -/
import Derived.Test.YtaheoifjihkipaaOpOpen
namespace Go.Proofs.Ytaheoifjihkipaa.As
open Go.RowKit Go.Proofs.YtaheoifjihkipaaW.PrintWords Go.Proofs.YtaheoifjihkipaaW.PrintLast Go.Proofs.YtaheoifjihkipaaW.PrintMore
set_option linter.unusedVariables false
set_option linter.unusedSimpArgs false
open Go.Proofs.Ytaheoifjihkipaa.Open (Op4)
abbrev KO : Kd Op4 := Open.k_t37
theorem row_op {w : World} {A : Option Addr} {n : Nat} {xs : List Op4} (h : KO.C w A n xs) (k : Nat) (hk : k < n) (o : Op4) (ho : xs[k]? = some o) :
    ∃ ad, A = some ad ∧ w.cell? (ad.add (k * 4)) = some (.int .i64 o.1) ∧ w.cell? ⟨(ad.add (k * 4)).block, (ad.add (k * 4)).off + 1, none⟩ = some (.int .i64 o.2.1) ∧ w.cell? ⟨(ad.add (k * 4)).block, (ad.add (k * 4)).off + 2, none⟩ = some (.int .i64 o.2.2.1) ∧ w.cell? ⟨(ad.add (k * 4)).block, (ad.add (k * 4)).off + 3, none⟩ = some (.int .i64 o.2.2.2) := by
  obtain ⟨ad, c, e, _, hK, hc0⟩ := Kd.C_get h ((0, 0, 0, 0) : Op4) (k : Int) (by omega) (by omega)
  simp only [Int.toNat_natCast] at hK hc0
  have hu2 : xs.getD k (0, 0, 0, 0) = o := by rw [List.getD_eq_getElem?_getD, ho]; rfl
  rw [hu2] at hK
  have hcs := Open.op_cells hK
  subst hcs
  have a0 := hc0 0 _ rfl
  have a1 := hc0 1 _ rfl
  have a2 := hc0 2 _ rfl
  have a3 := hc0 3 _ rfl
  exact ⟨ad, e, a0, (congrArg w.cell? (add_field ad (k * 4) 1 (by omega))).symm.trans a1, (congrArg w.cell? (add_field ad (k * 4) 2 (by omega))).symm.trans a2, (congrArg w.cell? (add_field ad (k * 4) 3 (by omega))).symm.trans a3⟩
/-- The block of a call on its own. -/
def BoxO (w : World) (b : Nat) (o : Op4) : Prop := w.heap[b]? = some (.cells #[.int .i64 o.1, .int .i64 o.2.1, .int .i64 o.2.2.1, .int .i64 o.2.2.2] 37 (0, 0))
theorem BoxO.cu {w : World} {b : Nat} {o : Op4} (h : BoxO w b o) : w.cell? ⟨b, 0, none⟩ = some (.int .i64 o.1) ∧ w.cell? ⟨b, 1, none⟩ = some (.int .i64 o.2.1) ∧ w.cell? ⟨b, 2, none⟩ = some (.int .i64 o.2.2.1) ∧ w.cell? ⟨b, 3, none⟩ = some (.int .i64 o.2.2.2) :=
  ⟨(cell_of h).2 rfl, (cell_of h).2 rfl, (cell_of h).2 rfl, (cell_of h).2 rfl⟩
theorem BoxO.below {w w' : World} {b : Nat} {o : Op4} (h : BoxO w b o) (hb : Below w.heap.size w w') : BoxO w' b o := heap_keep h hb
theorem heap_chg {w w' : World} {a b c k : Nat} {o : Obj} (h : w.heap[k]? = some o) (hc : Chg a b c w w') (h1 : k ≠ a) (h2 : k ≠ b) (h3 : k ≠ c) : w'.heap[k]? = some o :=
  (hc.block k (Array.getElem?_eq_some_iff.1 h).1 h1 h2 h3).trans h
theorem BoxO.chg {w w' : World} {a b c k : Nat} {o : Op4} (h : BoxO w k o) (hc : Chg a b c w w') (h1 : k ≠ a) (h2 : k ≠ b) (h3 : k ≠ c) : BoxO w' k o := heap_chg h hc h1 h2 h3
theorem Dem.chg {w w' : World} {g m a b c : Nat} {D : Nat → Int} (h : Dem w g m D) (hc : Chg a b c w w') (h1 : g ≠ a) (h2 : g ≠ b) (h3 : g ≠ c) : Dem w' g m D := by
  obtain ⟨cs, a1, a2, a3⟩ := h
  exact ⟨cs, heap_chg a1 hc h1 h2 h3, a2, a3⟩
theorem Dem.lt {w : World} {g m : Nat} {D : Nat → Int} (h : Dem w g m D) : g < w.heap.size := by
  obtain ⟨cs, a1, _⟩ := h
  exact (Array.getElem?_eq_some_iff.1 a1).1
theorem BoxO.lt {w : World} {g : Nat} {o : Op4} (h : BoxO w g o) : g < w.heap.size := (Array.getElem?_eq_some_iff.1 h).1
theorem PW.lts {w : World} {p gc gd gm cc cd n m c : Nat} {win tm : Int} {s : St} (h : PW w p gc gd gm cc cd n m win tm c s) : p < w.heap.size ∧ gc < w.heap.size ∧ gd < w.heap.size ∧ gm < w.heap.size := by
  obtain ⟨_, b1, _⟩ := h.pl.ch
  obtain ⟨_, d1, _⟩ := h.pl.de
  obtain ⟨_, hm, _⟩ := h.mp
  exact ⟨(Array.getElem?_eq_some_iff.1 h.pl.blk).1, (Array.getElem?_eq_some_iff.1 b1).1, (Array.getElem?_eq_some_iff.1 d1).1, hm.lt⟩
/-- A store into a block of numbers beside the plan. -/
theorem PW.far {w : World} {p gc gd gm cc cd n m c : Nat} {win tm : Int} {s : St} (h : PW w p gc gd gm cc cd n m win tm c s) {g : Nat} (k : Nat) (v : Value) (h1 : g ≠ p) (h2 : g ≠ gc) (h3 : g ≠ gd) (h4 : g ≠ gm) : PW (w.setCell ⟨g, k, none⟩ v) p gc gd gm cc cd n m win tm c s := by
  have hk : ∀ (q : Nat) (o : Obj), q ≠ g → w.heap[q]? = some o → (w.setCell ⟨g, k, none⟩ v).heap[q]? = some o := fun q o hq ho => (Below.heap_setCell w ⟨g, k, none⟩ v q (fun e => hq e)).trans ho
  obtain ⟨cs, a, b, c⟩ := h.pl.ch
  obtain ⟨ds, a', b', c'⟩ := h.pl.de
  obtain ⟨D, g1, g2⟩ := h.mp
  obtain ⟨es, clock, x, F, hs, hD⟩ := g1
  exact ⟨⟨hk _ _ h1.symm h.pl.blk, ⟨cs, hk _ _ h2.symm a, b, c⟩, ⟨ds, hk _ _ h3.symm a', b', c'⟩, h.pl.n1, h.pl.m1, h.pl.e1, h.pl.e2, h.pl.e3, h.pl.e4, h.pl.e5, h.pl.e6⟩, ⟨D, ⟨es, clock, hk _ _ h4.symm x, F, hs, hD⟩, g2⟩, h.good, h.tb, h.t1, h.t2⟩
/-! What Next, Had and Bad do to the chunks that are had. -/
theorem lateF_had (now tm : Int) (S : Nat → U) (D : Nat → Int) : ∀ i j, ((lateF now tm S D i).1 j).1 = 2 ↔ (S j).1 = 2
  | 0, _ => Iff.rfl
  | i + 1, j => by
    have ih := lateF_had now tm S D i j
    unfold lateF
    split
    · rename_i h
      show (upd _ i _ j).1 = 2 ↔ _
      by_cases e : j = i
      · subst e
        rw [upd_same]
        exact ⟨(fun h2 => by cases h2), fun h2 => by omega⟩
      · rw [upd_other _ _ _ _ e]
        exact ih
    · exact ih
theorem next_had (now win tm : Int) (n m : Nat) (s : St) (j : Nat) : ((nextF now win tm n m s).2.1 j).1 = 2 ↔ (s.1 j).1 = 2 := by
  have hl := lateF_had now tm s.1 s.2.1 n j
  unfold nextF
  simp only []
  split
  · rename_i h
    show (upd _ _ _ j).1 = 2 ↔ _
    by_cases e : j = openF (lateF now tm s.1 s.2.1 n).1 n 0
    · have hd := (openF_spec (lateF now tm s.1 s.2.1 n).1 n 0).2.2.2 (by omega)
      rw [← e] at hd
      rw [← hl, e, upd_same, ← e]
      exact ⟨(fun h2 => by cases h2), fun h2 => by omega⟩
    · rw [upd_other _ _ _ _ e]
      exact hl
  · exact hl
/-- What Next asks is a chunk, open then, and a peer. -/
theorem next_asks {now win tm : Int} {n m : Nat} {s : St} (h : (nextF now win tm n m s).1.2.2 = true) :
    ∃ i k : Nat, i < n ∧ k < m ∧ (nextF now win tm n m s).1 = ((i : Int), (k : Int), true) ∧ ((lateF now tm s.1 s.2.1 n).1 i).1 = 0 ∧ (nextF now win tm n m s).2 = (upd (lateF now tm s.1 s.2.1 n).1 i (1, (k : Int), now), (lateF now tm s.1 s.2.1 n).2, updT s.2.2 i k (s.2.2 i k + 1)) ∧
      bestF (lateF now tm s.1 s.2.1 n).1 (lateF now tm s.1 s.2.1 n).2 s.2.2 win n i m = k := by
  unfold nextF at h ⊢
  simp only [] at h ⊢
  by_cases hc : openF (lateF now tm s.1 s.2.1 n).1 n 0 < n ∧ 0 ≤ bestF (lateF now tm s.1 s.2.1 n).1 (lateF now tm s.1 s.2.1 n).2 s.2.2 win n (openF (lateF now tm s.1 s.2.1 n).1 n 0) m
  · rw [if_pos hc]
    obtain ⟨k, hk⟩ := Int.eq_ofNat_of_zero_le hc.2
    have hr := (bestF_rng (lateF now tm s.1 s.2.1 n).1 (lateF now tm s.1 s.2.1 n).2 s.2.2 win n (openF (lateF now tm s.1 s.2.1 n).1 n 0) m).2
    refine ⟨_, k, hc.1, by omega, ?_, (openF_spec (lateF now tm s.1 s.2.1 n).1 n 0).2.2.2 (by omega), ?_, hk⟩
    · simp only [hk]
    · simp only [hk, Int.toNat_natCast]
  · rw [if_neg hc] at h
    cases h
theorem next_none {now win tm : Int} {n m : Nat} {s : St} (h : (nextF now win tm n m s).1.2.2 = false) : (nextF now win tm n m s).1 = (0, 0, false) := by
  unfold nextF at h ⊢
  simp only [] at h ⊢
  split
  · rename_i hc
    rw [if_pos hc] at h
    cases h
  · rfl
theorem bad_had (n m : Nat) (s : St) (i k : Int) (j : Nat) : ((badS n m s i k).1 j).1 = 2 ↔ (s.1 j).1 = 2 := by
  unfold badS
  split
  · rename_i h
    show (upd _ _ _ j).1 = 2 ↔ _
    by_cases e : j = i.toNat
    · rw [e, upd_same]
      exact ⟨(fun h2 => by cases h2), fun h2 => by omega⟩
    · rw [upd_other _ _ _ _ e]
  · exact Iff.rfl
theorem leftF_congr {S S' : Nat → U} : ∀ n, (∀ j, j < n → ((S' j).1 = 2 ↔ (S j).1 = 2)) → leftF S' n = leftF S n
  | 0, _ => rfl
  | n + 1, h => by
    unfold leftF
    rw [leftF_congr n (fun j hj => h j (by omega))]
    have := h n (by omega)
    by_cases e : (S n).1 = 2
    · rw [if_pos e, if_pos (this.2 e)]
    · rw [if_neg e, if_neg (fun h2 => e (this.1 h2))]
theorem leftF_upd (S : Nat → U) (i : Nat) (x : U) (hx : x.1 = 2) (h0 : (S i).1 ≠ 2) : ∀ n, leftF (upd S i x) n + (if i < n then 1 else 0) = leftF S n
  | 0 => by simp [leftF]
  | n + 1 => by
    have ih := leftF_upd S i x hx h0 n
    unfold leftF
    by_cases e : n = i
    · subst e
      rw [upd_same, if_pos hx, if_neg h0]
      rw [if_neg (by omega)] at ih
      rw [if_pos (by omega)]
      omega
    · rw [upd_other _ _ _ _ e]
      generalize (if (S n).1 = 2 then 0 else 1) = z
      by_cases e2 : i < n
      · rw [if_pos e2] at ih
        rw [if_pos (show i < n + 1 by omega)]
        omega
      · rw [if_neg e2] at ih
        rw [if_neg (show ¬ i < n + 1 by omega)]
        omega
end Go.Proofs.Ytaheoifjihkipaa.As
