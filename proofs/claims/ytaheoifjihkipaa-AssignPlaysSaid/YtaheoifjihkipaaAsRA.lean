/- What calls of Go functions of this seat come to, as the rows need it: under the conditions that each theorem names. -/
import Derived.Test.YtaheoifjihkipaaAsW
namespace Go.Proofs.Ytaheoifjihkipaa.As
open Go.RowKit Go.Proofs.YtaheoifjihkipaaW.PrintWords Go.Proofs.YtaheoifjihkipaaW.PrintLast Go.Proofs.YtaheoifjihkipaaW.PrintMore
set_option linter.unusedVariables false
set_option linter.unusedSimpArgs false
/-- A row of numbers, the first n of which are told. -/
def Ri (w : World) (g n : Nat) (f : Nat → Int) : Prop := ∃ cs, w.heap[g]? = some (.cells cs 3 (0, 0)) ∧ n ≤ cs.size ∧ ∀ k, k < n → cs[k]? = some (.int .i64 (f k))
theorem Ri.cu {w : World} {g n : Nat} {f : Nat → Int} (h : Ri w g n f) (k : Nat) (hk : k < n) : w.cell? ⟨g, k, none⟩ = some (.int .i64 (f k)) := by
  obtain ⟨cs, h1, h2, h3⟩ := h
  exact (cell_of h1).2 (h3 k hk)
theorem Ri.fz {w : World} {g n : Nat} {f : Nat → Int} (h : Ri w g n f) (j : Nat) : w.frozen? ⟨g, j, none⟩ = false := by
  obtain ⟨cs, h1, h2⟩ := h
  simp [World.frozen?, h1]
theorem Ri.keep {w w' : World} {g n : Nat} {f : Nat → Int} (h : Ri w g n f) (hk : w'.heap[g]? = w.heap[g]?) : Ri w' g n f := by
  obtain ⟨cs, h1, h2⟩ := h
  exact ⟨cs, hk.trans h1, h2⟩
theorem Ri.put {w : World} {g n : Nat} {f : Nat → Int} (h : Ri w g n f) (k : Nat) (hk : k < n) (x : Int) : Ri (w.setCell ⟨g, k, none⟩ (.int .i64 x)) g n (updD f k x) := by
  obtain ⟨cs, h1, h2, h3⟩ := h
  refine ⟨cs.setIfInBounds k (.int .i64 x), heap_setCell_same w g k cs _ _ h1, by simpa using h2, fun j hj => ?_⟩
  unfold updD
  by_cases e : j = k
  · subst e
    rw [if_pos rfl, Array.getElem?_setIfInBounds_self_of_lt (by omega)]
  · rw [if_neg e, Array.getElem?_setIfInBounds_ne (fun h => e h.symm)]
    exact h3 j hj
theorem Ri.lt {w : World} {g n : Nat} {f : Nat → Int} (h : Ri w g n f) : g < w.heap.size := by
  obtain ⟨cs, h1, _⟩ := h
  exact (Array.getElem?_eq_some_iff.1 h1).1
theorem Ri.congr {w : World} {g n : Nat} {f f' : Nat → Int} (h : Ri w g n f) (hd : ∀ k, k < n → f k = f' k) : Ri w g n f' := by
  obtain ⟨cs, a, b, c⟩ := h
  exact ⟨cs, a, b, fun k hk => by rw [← hd k hk]; exact c k hk⟩
theorem Ri.of_dem {w : World} {g n : Nat} {f : Nat → Int} (h : Dem w g n f) : Ri w g n f := by
  obtain ⟨cs, a, b, c⟩ := h
  exact ⟨cs, a, by omega, c⟩
def slN (g n c : Nat) : Value := .slice (if n = 0 then none else some ⟨g, 0, none⟩) n c
theorem slN_pos {g n c : Nat} (h : 0 < n) : slN g n c = .slice (some ⟨g, 0, none⟩) n c := by unfold slN; rw [if_neg (by omega)]
/-- The reference's plan in memory. -/
structure RPl (w : World) (r : Nat) (L : Nat → Nat) (n m c0 c1 c2 c4 : Nat) (win tm : Int) (S : Nat → U) (D : Nat → Int) (T : Nat → Nat → Int) : Prop where
  blk : w.heap[r]? = some (.cells #[slN (L 0) n c0, slN (L 1) n c1, slN (L 2) n c2, .slice (some ⟨L 3, 0, none⟩) m m, slN (L 4) n c4, .int .i64 win, .int .i64 tm] 65 (0, 0))
  inj : ∀ a b, a < n + 5 → b < n + 5 → L a = L b → a = b
  rne : ∀ a, a < n + 5 → L a ≠ r
  st : 0 < n → Ri w (L 0) n (fun i => (S i).1)
  pe : 0 < n → Ri w (L 1) n (fun i => (S i).2.1)
  si : 0 < n → Ri w (L 2) n (fun i => (S i).2.2)
  ba : Ri w (L 3) m D
  ts : 0 < n → ∃ cs, w.heap[L 4]? = some (.cells cs 35 (0, 0)) ∧ ∀ i, i < n → cs[i]? = some (.slice (some ⟨L (5 + i), 0, none⟩) m m)
  tr : ∀ i, i < n → Ri w (L (5 + i)) m (T i)
  n1 : n ≤ 100
  m1 : m ≤ 64
  k0 : n ≤ c0 ∧ n ≤ c1 ∧ n ≤ c2 ∧ n ≤ c4
  kc : c0 ≤ 9223372036854775807 ∧ c1 ≤ 9223372036854775807 ∧ c2 ≤ 9223372036854775807 ∧ c4 ≤ 9223372036854775807
section
variable {w w' : World} {r : Nat} {L : Nat → Nat} {n m c0 c1 c2 c4 : Nat} {win tm : Int} {S : Nat → U} {D : Nat → Int} {T : Nat → Nat → Int}
theorem RPl.keep (h : RPl w r L n m c0 c1 c2 c4 win tm S D T) (hr : w'.heap[r]? = w.heap[r]?) (hk : ∀ a, a < n + 5 → (a ≤ 2 ∨ a = 4 → 0 < n) → w'.heap[L a]? = w.heap[L a]?) : RPl w' r L n m c0 c1 c2 c4 win tm S D T :=
  ⟨hr.trans h.blk, h.inj, h.rne, fun hn => (h.st hn).keep (hk 0 (by omega) (fun _ => hn)), fun hn => (h.pe hn).keep (hk 1 (by omega) (fun _ => hn)), fun hn => (h.si hn).keep (hk 2 (by omega) (fun _ => hn)),
    h.ba.keep (hk 3 (by omega) (fun e => by omega)), fun hn => by obtain ⟨cs, a, b⟩ := h.ts hn; exact ⟨cs, (hk 4 (by omega) (fun _ => hn)).trans a, b⟩, fun i hi => (h.tr i hi).keep (hk (5 + i) (by omega) (fun e => by omega)), h.n1, h.m1, h.k0, h.kc⟩
theorem RPl.lts (h : RPl w r L n m c0 c1 c2 c4 win tm S D T) : r < w.heap.size ∧ ∀ a, a < n + 5 → (a ≤ 2 ∨ a = 4 → 0 < n) → L a < w.heap.size := by
  refine ⟨(Array.getElem?_eq_some_iff.1 h.blk).1, fun a ha hn => ?_⟩
  rcases a with _ | _ | _ | _ | _ | a
  · exact (h.st (hn (by omega))).lt
  · exact (h.pe (hn (by omega))).lt
  · exact (h.si (hn (by omega))).lt
  · exact h.ba.lt
  · obtain ⟨cs, x, _⟩ := h.ts (hn (by omega)); exact (Array.getElem?_eq_some_iff.1 x).1
  · have := (h.tr a (by omega)).lt
    rwa [show 5 + a = a + 5 by omega] at this
theorem RPl.below (h : RPl w r L n m c0 c1 c2 c4 win tm S D T) (hb : Below w.heap.size w w') : RPl w' r L n m c0 c1 c2 c4 win tm S D T :=
  h.keep (hb.block r h.lts.1) (fun a ha hn => hb.block _ (h.lts.2 a ha hn))
/-- A store into one of its blocks: all others stay. -/
theorem RPl.other (h : RPl w r L n m c0 c1 c2 c4 win tm S D T) {a k : Nat} (ha : a < n + 5) (v : Value) {b : Nat} (hb : b < n + 5) (hne : b ≠ a) : (w.setCell ⟨L a, k, none⟩ v).heap[L b]? = w.heap[L b]? :=
  Below.heap_setCell w ⟨L a, k, none⟩ v (L b) (fun e => hne (h.inj b a hb ha e))
theorem RPl.otherR (h : RPl w r L n m c0 c1 c2 c4 win tm S D T) {a k : Nat} (ha : a < n + 5) (v : Value) : (w.setCell ⟨L a, k, none⟩ v).heap[r]? = w.heap[r]? :=
  Below.heap_setCell w ⟨L a, k, none⟩ v r (fun e => h.rne a ha e.symm)
theorem RPl.setS (h : RPl w r L n m c0 c1 c2 c4 win tm S D T) (i : Nat) (hi : i < n) (x : Int) : RPl (w.setCell ⟨L 0, i, none⟩ (.int .i64 x)) r L n m c0 c1 c2 c4 win tm (upd S i (x, (S i).2.1, (S i).2.2)) D T := by
  have o := fun b (hb : b < n + 5) (hne : b ≠ 0) => h.other (a := 0) (k := i) (by omega) (.int .i64 x) hb hne
  refine ⟨(h.otherR (a := 0) (by omega) _).trans h.blk, h.inj, h.rne, fun hn => ((h.st hn).put i hi x).congr (fun k hk => ?_), fun hn => ((h.pe hn).keep (o 1 (by omega) (by omega))).congr (fun k hk => ?_), fun hn => ((h.si hn).keep (o 2 (by omega) (by omega))).congr (fun k hk => ?_),
    h.ba.keep (o 3 (by omega) (by omega)), fun hn => by obtain ⟨cs, a, b⟩ := h.ts hn; exact ⟨cs, (o 4 (by omega) (by omega)).trans a, b⟩, fun j hj => (h.tr j hj).keep (o (5 + j) (by omega) (by omega)), h.n1, h.m1, h.k0, h.kc⟩
  all_goals (unfold upd; (try unfold updD); by_cases e : k = i <;> simp [e])
theorem RPl.setP (h : RPl w r L n m c0 c1 c2 c4 win tm S D T) (i : Nat) (hi : i < n) (x : Int) : RPl (w.setCell ⟨L 1, i, none⟩ (.int .i64 x)) r L n m c0 c1 c2 c4 win tm (upd S i ((S i).1, x, (S i).2.2)) D T := by
  have o := fun b (hb : b < n + 5) (hne : b ≠ 1) => h.other (a := 1) (k := i) (by omega) (.int .i64 x) hb hne
  refine ⟨(h.otherR (a := 1) (by omega) _).trans h.blk, h.inj, h.rne, fun hn => ((h.st hn).keep (o 0 (by omega) (by omega))).congr (fun k hk => ?_), fun hn => ((h.pe hn).put i hi x).congr (fun k hk => ?_), fun hn => ((h.si hn).keep (o 2 (by omega) (by omega))).congr (fun k hk => ?_),
    h.ba.keep (o 3 (by omega) (by omega)), fun hn => by obtain ⟨cs, a, b⟩ := h.ts hn; exact ⟨cs, (o 4 (by omega) (by omega)).trans a, b⟩, fun j hj => (h.tr j hj).keep (o (5 + j) (by omega) (by omega)), h.n1, h.m1, h.k0, h.kc⟩
  all_goals (unfold upd; (try unfold updD); by_cases e : k = i <;> simp [e])
theorem RPl.setI (h : RPl w r L n m c0 c1 c2 c4 win tm S D T) (i : Nat) (hi : i < n) (x : Int) : RPl (w.setCell ⟨L 2, i, none⟩ (.int .i64 x)) r L n m c0 c1 c2 c4 win tm (upd S i ((S i).1, (S i).2.1, x)) D T := by
  have o := fun b (hb : b < n + 5) (hne : b ≠ 2) => h.other (a := 2) (k := i) (by omega) (.int .i64 x) hb hne
  refine ⟨(h.otherR (a := 2) (by omega) _).trans h.blk, h.inj, h.rne, fun hn => ((h.st hn).keep (o 0 (by omega) (by omega))).congr (fun k hk => ?_), fun hn => ((h.pe hn).keep (o 1 (by omega) (by omega))).congr (fun k hk => ?_), fun hn => ((h.si hn).put i hi x).congr (fun k hk => ?_),
    h.ba.keep (o 3 (by omega) (by omega)), fun hn => by obtain ⟨cs, a, b⟩ := h.ts hn; exact ⟨cs, (o 4 (by omega) (by omega)).trans a, b⟩, fun j hj => (h.tr j hj).keep (o (5 + j) (by omega) (by omega)), h.n1, h.m1, h.k0, h.kc⟩
  all_goals (unfold upd; (try unfold updD); by_cases e : k = i <;> simp [e])
theorem RPl.setD (h : RPl w r L n m c0 c1 c2 c4 win tm S D T) (k : Nat) (hk : k < m) (x : Int) : RPl (w.setCell ⟨L 3, k, none⟩ (.int .i64 x)) r L n m c0 c1 c2 c4 win tm S (updD D k x) T := by
  have o := fun b (hb : b < n + 5) (hne : b ≠ 3) => h.other (a := 3) (k := k) (by omega) (.int .i64 x) hb hne
  exact ⟨(h.otherR (a := 3) (by omega) _).trans h.blk, h.inj, h.rne, fun hn => ((h.st hn).keep (o 0 (by omega) (by omega))), fun hn => ((h.pe hn).keep (o 1 (by omega) (by omega))), fun hn => ((h.si hn).keep (o 2 (by omega) (by omega))),
    h.ba.put k hk x, fun hn => by obtain ⟨cs, a, b⟩ := h.ts hn; exact ⟨cs, (o 4 (by omega) (by omega)).trans a, b⟩, fun j hj => (h.tr j hj).keep (o (5 + j) (by omega) (by omega)), h.n1, h.m1, h.k0, h.kc⟩
theorem RPl.setT (h : RPl w r L n m c0 c1 c2 c4 win tm S D T) (i k : Nat) (hi : i < n) (hk : k < m) (x : Int) : RPl (w.setCell ⟨L (5 + i), k, none⟩ (.int .i64 x)) r L n m c0 c1 c2 c4 win tm S D (updT T i k x) := by
  have o := fun b (hb : b < n + 5) (hne : b ≠ 5 + i) => h.other (a := 5 + i) (k := k) (by omega) (.int .i64 x) hb hne
  refine ⟨(h.otherR (a := 5 + i) (by omega) _).trans h.blk, h.inj, h.rne, fun hn => ((h.st hn).keep (o 0 (by omega) (by omega))), fun hn => ((h.pe hn).keep (o 1 (by omega) (by omega))), fun hn => ((h.si hn).keep (o 2 (by omega) (by omega))),
    h.ba.keep (o 3 (by omega) (by omega)), fun hn => by obtain ⟨cs, a, b⟩ := h.ts hn; exact ⟨cs, (o 4 (by omega) (by omega)).trans a, b⟩, fun j hj => ?_, h.n1, h.m1, h.k0, h.kc⟩
  by_cases e : j = i
  · subst e
    refine ((h.tr j hj).put k hk x).congr (fun q hq => ?_)
    unfold updD updT
    by_cases e2 : q = k
    · rw [if_pos e2, if_pos ⟨rfl, e2⟩]
    · rw [if_neg e2, if_neg (fun hh => e2 hh.2)]
  · refine ((h.tr j hj).keep (o (5 + j) (by omega) (by omega))).congr (fun q hq => ?_)
    unfold updT
    rw [if_neg (fun hh => e hh.1)]
theorem RPl.f0 (h : RPl w r L n m c0 c1 c2 c4 win tm S D T) : w.cell? ⟨r, 0, none⟩ = some (slN (L 0) n c0) := (cell_of h.blk).2 rfl
theorem RPl.f1 (h : RPl w r L n m c0 c1 c2 c4 win tm S D T) : w.cell? ⟨r, 1, none⟩ = some (slN (L 1) n c1) := (cell_of h.blk).2 rfl
theorem RPl.f2 (h : RPl w r L n m c0 c1 c2 c4 win tm S D T) : w.cell? ⟨r, 2, none⟩ = some (slN (L 2) n c2) := (cell_of h.blk).2 rfl
theorem RPl.f3 (h : RPl w r L n m c0 c1 c2 c4 win tm S D T) : w.cell? ⟨r, 3, none⟩ = some (.slice (some ⟨L 3, 0, none⟩) m m) := (cell_of h.blk).2 rfl
theorem RPl.f4 (h : RPl w r L n m c0 c1 c2 c4 win tm S D T) : w.cell? ⟨r, 4, none⟩ = some (slN (L 4) n c4) := (cell_of h.blk).2 rfl
theorem RPl.f5 (h : RPl w r L n m c0 c1 c2 c4 win tm S D T) : w.cell? ⟨r, 5, none⟩ = some (.int .i64 win) := (cell_of h.blk).2 rfl
theorem RPl.f6 (h : RPl w r L n m c0 c1 c2 c4 win tm S D T) : w.cell? ⟨r, 6, none⟩ = some (.int .i64 tm) := (cell_of h.blk).2 rfl
theorem RPl.tc (h : RPl w r L n m c0 c1 c2 c4 win tm S D T) (i : Nat) (hi : i < n) : w.cell? ⟨L 4, i, none⟩ = some (.slice (some ⟨L (5 + i), 0, none⟩) m m) := by
  obtain ⟨cs, a, b⟩ := h.ts (by omega)
  exact (cell_of a).2 (b i hi)
end
/-- What the reference holds of a chunk that is not asked may be anything. -/
def Sim (n : Nat) (S R : Nat → U) : Prop := ∀ i, i < n → (R i).1 = (S i).1 ∧ ((S i).1 = 1 → R i = S i)
theorem loadF_sim {S R : Nat → U} (k : Int) : ∀ n, Sim n S R → loadF R k n = loadF S k n
  | 0, _ => rfl
  | n + 1, h => by
    unfold loadF
    rw [loadF_sim k n (fun i hi => h i (by omega))]
    obtain ⟨a, b⟩ := h n (by omega)
    by_cases e : (S n).1 = 1
    · rw [b e]
    · rw [if_neg (fun hc => e (by rw [← a]; exact hc.1)), if_neg (fun hc => e hc.1)]
theorem bestF_sim {S R : Nat → U} {n i : Nat} {D : Nat → Int} {T : Nat → Nat → Int} {win : Int} (h : Sim n S R) : ∀ j, bestF R D T win n i j = bestF S D T win n i j
  | 0 => rfl
  | j + 1 => by
    have ho : ∀ k, ownF R D T n i k = ownF S D T n i k := fun k => by unfold ownF; rw [loadF_sim _ _ h]
    have hm : ∀ k, mayF R D win n k ↔ mayF S D win n k := fun k => by unfold mayF; rw [loadF_sim _ _ h]
    unfold bestF
    rw [bestF_sim h j]
    simp only [ho, hm]
theorem leftF_sim {S R : Nat → U} : ∀ n, Sim n S R → leftF R n = leftF S n
  | 0, _ => rfl
  | n + 1, h => by
    unfold leftF
    rw [leftF_sim n (fun i hi => h i (by omega)), (h n (by omega)).1]
end Go.Proofs.Ytaheoifjihkipaa.As
