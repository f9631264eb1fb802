/- What calls of Go functions of this seat come to, as the rows need it: under the conditions that each theorem names. -/
import Derived.Test.YticpifhnfpnibaaMKnown
namespace Go.Proofs.Yticpifhnfpnibaa.Mem
open Go.RowKit Go.Proofs.YticpifhnfpnibaaW.PrintWords Go.Proofs.YticpifhnfpnibaaW.PrintLast Go.Proofs.YticpifhnfpnibaaW.PrintMore
set_option linter.unusedVariables false
set_option linter.unusedSimpArgs false
/-- What holds of what stands: its place, and its incarnation's bound. -/
def Good (n : Nat) (f : Nat → U) : Prop := ∀ j, j < n → (f j).1 = j ∧ (f j).2.2 ≤ 1099511627776
theorem next_ok {s : Nat} {x u : U} {k : Nat} (hx : x.1 = k ∧ x.2.2 ≤ 1099511627776) (hu : u.1 = k) (hi : u.2.2 ≤ 1099511627776) : (next s x u).1 = k ∧ (next s x u).2.2 ≤ 1099511627776 := by
  unfold next
  split
  · split
    · exact ⟨hu, hi⟩
    · exact hx
  · split
    · exact ⟨hx.1, by have := hx.2; show max _ _ ≤ _; omega⟩
    · split
      · exact ⟨hx.1, by show min _ _ ≤ _; omega⟩
      · exact hx
theorem hearF_no {s n : Nat} {f : Nat → U} {u : U} (h : ¬ may n u) : hearF s n f u = f := by unfold hearF; rw [if_neg h]
theorem hearF_yes {s n : Nat} {f : Nat → U} {u : U} (h : may n u) : hearF s n f u = upd f u.1.toNat (next s (f u.1.toNat) u) := by unfold hearF; rw [if_pos h]
theorem good_hear {s n : Nat} {f : Nat → U} (h : Good n f) (u : U) : Good n (hearF s n f u) := by
  by_cases hm : may n u
  · rw [hearF_yes hm]
    intro j hj
    have h1 := hm.1
    by_cases e : j = u.1.toNat
    · subst e
      rw [upd_same]
      have := h u.1.toNat hj
      exact next_ok this (by omega) hm.2.2.2
    · rw [upd_other _ _ _ _ e]
      exact h j hj
  · rw [hearF_no hm]
    exact h
theorem pair3 {a b : U} (h1 : a.1 = b.1) (h2 : a.2.1 = b.2.1) (h3 : a.2.2 = b.2.2) : a = b := Prod.ext h1 (Prod.ext h2 h3)
theorem next_comm {s k : Nat} {x u v : U} (hx : x.1 = k ∧ x.2.2 ≤ 1099511627776) (hu : u.1 = k) (hv : v.1 = k) (iu : u.2.2 ≤ 1099511627776) (iv : v.2.2 ≤ 1099511627776) : next s (next s x u) v = next s (next s x v) u := by
  obtain ⟨x0, x1, x2⟩ := x
  obtain ⟨u0, u1, u2⟩ := u
  obtain ⟨v0, v1, v2⟩ := v
  simp only at hx hu hv iu iv
  obtain ⟨rfl, hx⟩ := hx
  subst hu hv
  unfold next
  simp only
  by_cases hs : (k : Int) ≠ s
  · simp only [if_pos hs]
    by_cases a : x2 < u2 ∨ (u2 = x2 ∧ x1 < u1) <;> by_cases b : x2 < v2 ∨ (v2 = x2 ∧ x1 < v1) <;> by_cases c : u2 < v2 ∨ (v2 = u2 ∧ u1 < v1) <;> by_cases d : v2 < u2 ∨ (u2 = v2 ∧ v1 < u1) <;> simp only [a, b, c, d, if_true, if_false] <;> (apply pair3 <;> simp only <;> omega)
  · simp only [if_neg hs]
    by_cases a : u1 = 1 <;> by_cases b : v1 = 1 <;> simp only [a, b, if_true, if_false]
    · apply pair3 <;> simp only
      omega
    · split <;> split <;> (apply pair3 <;> simp only <;> omega)
    · split <;> split <;> (apply pair3 <;> simp only <;> omega)
    · split <;> split <;> (try split) <;> (try split) <;> (apply pair3 <;> (try simp only at *) <;> omega)
theorem next_idem {s k : Nat} {x u : U} (hx : x.1 = k ∧ x.2.2 ≤ 1099511627776) (hu : u.1 = k) (iu : u.2.2 ≤ 1099511627776) : next s (next s x u) u = next s x u := by
  obtain ⟨x0, x1, x2⟩ := x
  obtain ⟨u0, u1, u2⟩ := u
  simp only at hx hu iu
  obtain ⟨rfl, hx⟩ := hx
  subst hu
  unfold next
  simp only
  by_cases hs : (k : Int) ≠ s
  · simp only [if_pos hs]
    by_cases a : x2 < u2 ∨ (u2 = x2 ∧ x1 < u1)
    · simp only [a, if_true]
      split <;> rfl
    · simp only [a, if_false]
  · simp only [if_neg hs]
    by_cases a : u1 = 1 <;> simp only [a, if_true, if_false]
    · apply pair3 <;> simp only
      omega
    · by_cases b : x2 ≤ u2
      · simp only [b, if_true]
        split
        · rfl
        · rfl
      · simp only [b, if_false]
theorem hear_comm {s n : Nat} {f : Nat → U} (h : Good n f) (u v : U) : hearF s n (hearF s n f u) v = hearF s n (hearF s n f v) u := by
  by_cases hu : may n u
  · by_cases hv : may n v
    · rw [hearF_yes hu, hearF_yes hv, hearF_yes hv, hearF_yes hu]
      have h1 := hu.1
      have h2 := hv.1
      by_cases e : u.1.toNat = v.1.toNat
      · have hx := h u.1.toNat (by omega)
        rw [← e, upd_same, upd_same, upd_upd, upd_upd, next_comm hx (by omega) (by omega) hu.2.2.2 hv.2.2.2]
      · rw [upd_other _ _ _ _ (fun h => e h.symm), upd_other _ _ _ _ e]
        funext i
        unfold upd
        by_cases a : i = v.1.toNat
        · subst a
          rw [if_pos rfl, if_neg (fun h => e h.symm), if_pos rfl]
        · rw [if_neg a, if_neg a]
    · rw [hearF_no hv, hearF_no hv]
  · rw [hearF_no hu, hearF_no hu]
theorem hear_idem {s n : Nat} {f : Nat → U} (h : Good n f) (u : U) : hearF s n (hearF s n f u) u = hearF s n f u := by
  by_cases hu : may n u
  · have h1 := hu.1
    have hx := h u.1.toNat (by omega)
    rw [hearF_yes hu, hearF_yes hu, upd_same, upd_upd, next_idem hx (by omega) hu.2.2.2]
  · rw [hearF_no hu, hearF_no hu]
/-- What stands behind many updates. -/
def hears (s n : Nat) (f : Nat → U) (l : List U) : Nat → U := l.foldl (hearF s n) f
theorem hears_snoc (s n : Nat) (f : Nat → U) (l : List U) (u : U) : hears s n f (l ++ [u]) = hearF s n (hears s n f l) u := by simp [hears]
theorem hears_append (s n : Nat) (f : Nat → U) (l m : List U) : hears s n f (l ++ m) = hears s n (hears s n f l) m := by simp [hears]
theorem good_hears {s n : Nat} (l : List U) : ∀ {f : Nat → U}, Good n f → Good n (hears s n f l) := by
  induction l with
  | nil => intro f h; exact h
  | cons u l ih => intro f h; exact ih (good_hear h u)
theorem hears_hear {s n : Nat} (l : List U) : ∀ {f : Nat → U}, Good n f → ∀ u, hears s n (hearF s n f u) l = hearF s n (hears s n f l) u := by
  induction l with
  | nil => intro f h u; rfl
  | cons v l ih =>
    intro f h u
    show hears s n (hearF s n (hearF s n f u) v) l = hearF s n (hears s n (hearF s n f v) l) u
    rw [hear_comm h u v, ih (good_hear h v)]
theorem hears_comm {s n : Nat} (l : List U) : ∀ {f : Nat → U}, Good n f → ∀ m, hears s n (hears s n f l) m = hears s n (hears s n f m) l := by
  induction l with
  | nil => intro f h m; rfl
  | cons v l ih =>
    intro f h m
    show hears s n (hears s n (hearF s n f v) l) m = hears s n (hearF s n (hears s n f m) v) l
    rw [ih (good_hear h v), hears_hear m h v]
theorem hears_mem {s n : Nat} (l : List U) : ∀ {f : Nat → U}, Good n f → ∀ u, u ∈ l → hearF s n (hears s n f l) u = hears s n f l := by
  induction l with
  | nil => intro f h u hu; cases hu
  | cons v l ih =>
    intro f h u hu
    show hearF s n (hears s n (hearF s n f v) l) u = hears s n (hearF s n f v) l
    rcases List.mem_cons.1 hu with rfl | hu
    · rw [← hears_hear l (good_hear h u), hear_idem h]
    · exact ih (good_hear h v) u hu
theorem hears_sub {s n : Nat} {f : Nat → U} (h : Good n f) (l m : List U) (hs : ∀ u ∈ m, u ∈ l) : hears s n (hears s n f l) m = hears s n f l := by
  induction m with
  | nil => rfl
  | cons v m ih =>
    show hears s n (hearF s n (hears s n f l) v) m = _
    rw [hears_mem l h v (hs v (by simp))]
    exact ih (fun u hu => hs u (by simp [hu]))
theorem hears_same {s n : Nat} {f : Nat → U} (h : Good n f) (l m : List U) (h1 : ∀ u ∈ m, u ∈ l) (h2 : ∀ u ∈ l, u ∈ m) : hears s n f l = hears s n f m := by
  rw [← hears_sub h l m h1, hears_comm l h m, hears_sub h m l h2]
theorem good_first (s n : Nat) (inc : Int) (hi : inc ≤ 1099511627776) : Good n (first s n inc) := by
  intro j hj
  unfold first
  rw [if_pos hj]
  refine ⟨rfl, ?_⟩
  show (if j = s then inc else 0) ≤ _
  split <;> omega
end Go.Proofs.Yticpifhnfpnibaa.Mem
