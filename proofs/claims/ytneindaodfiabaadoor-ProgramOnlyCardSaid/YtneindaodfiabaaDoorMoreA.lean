/- What calls of Go functions of this seat come to, as the rows need it: under the conditions that each theorem names. -/
import Derived.Test.YtneindaodfiabaaDoorMay
namespace Go.Proofs.YtneindaodfiabaaDoor.Prog6
open Go.RowKit Go.Proofs.YtneindaodfiabaaDoorW.PrintWords Go.Proofs.YtneindaodfiabaaDoorW.PrintLast Go.Proofs.YtneindaodfiabaaDoorW.PrintMore
set_option linter.unusedVariables false
set_option linter.unusedSimpArgs false
theorem chrJ : ((List.range 12).all fun op => op == 0 || (List.range 5).all fun k => (chr op k == 106) == (k == 3 && (op == 8 || op == 9 || op == 10))) = true := by decide
theorem chr_j (op : Nat) (h12 : op < 12) (h1 : 1 ≤ op) (k : Nat) (hk : k < 5) : chr op k = 106 ↔ k = 3 ∧ (op = 8 ∨ op = 9 ∨ op = 10) := by
  have h := List.all_eq_true.1 chrJ op (List.mem_range.2 h12)
  simp only [Bool.or_eq_true, beq_iff_eq] at h
  rcases h with h | h
  · omega
  · have h2 := List.all_eq_true.1 h k (List.mem_range.2 hk)
    simp only [beq_iff_eq] at h2
    have h3 : (chr op k == 106) = true ↔ (k == 3 && (op == 8 || op == 9 || op == 10)) = true := by rw [h2]
    simp only [beq_iff_eq, Bool.and_eq_true, Bool.or_eq_true] at h3
    rw [h3]
    constructor
    · rintro ⟨a, (b | b) | b⟩ <;> simp [a, b]
    · rintro ⟨a, b | b | b⟩ <;> simp [a, b]
theorem okFrom_iff (x : Ins) (m : Int) : ∀ f k, okFrom x m f k = true ↔ ∀ j, k ≤ j → j < k + f → okAt x m j (chr x.1.toNat j) = true
  | 0, k => ⟨fun _ j h1 h2 => by omega, fun _ => rfl⟩
  | f + 1, k => by
    unfold okFrom
    rw [Bool.and_eq_true, okFrom_iff x m f (k + 1)]
    constructor
    · rintro ⟨h1, h2⟩ j h3 h4
      by_cases e : j = k
      · subst e; exact h1
      · exact h2 j (by omega) (by omega)
    · intro h
      exact ⟨h k (by omega) (by omega), fun j h1 h2 => h j (by omega) (by omega)⟩
theorem one_iff (x : Ins) (m : Int) : one x m = true ↔ (1 ≤ x.1 ∧ x.1 ≤ 11) ∧ ∀ j, j < 5 → okAt x m j (chr x.1.toNat j) = true := by
  unfold one
  by_cases h : x.1 < 1 ∨ 11 < x.1
  · rw [if_pos h]
    constructor
    · intro h; cases h
    · rintro ⟨h1, _⟩; omega
  · rw [if_neg h, okFrom_iff]
    constructor
    · intro h2
      exact ⟨by omega, fun j hj => h2 j (by omega) (by omega)⟩
    · rintro ⟨_, h2⟩ j _ hj
      exact h2 j (by omega)
theorem okAt_indep (x : Ins) (m m' : Int) (k c : Nat) (h : c ≠ 106) : okAt x m k c = okAt x m' k c := by
  unfold okAt
  simp only [if_neg h]
/-- Does it jump? -/
def isJ (x : Ins) : Bool := x.1 == 8 || x.1 == 9 || x.1 == 10
theorem one_many (x : Ins) (m m' : Int) (h : one x m = true) : one x m' = (!isJ x || decide (x.2.2.2.2.1 ≤ m')) := by
  rw [Bool.eq_iff_iff, one_iff]
  obtain ⟨h1, h2⟩ := (one_iff x m).1 h
  have hj := chr_j x.1.toNat (by omega) (by omega) 3 (by omega)
  have e3 : okAt x m' 3 106 = (decide (0 ≤ x.2.2.2.2.1) && decide (x.2.2.2.2.1 ≤ m')) := rfl
  have e3' : okAt x m 3 106 = (decide (0 ≤ x.2.2.2.2.1) && decide (x.2.2.2.2.1 ≤ m)) := rfl
  constructor
  · rintro ⟨_, h3⟩
    by_cases hJ : isJ x = true
    · rw [hJ]
      have hc : chr x.1.toNat 3 = 106 := hj.2 ⟨rfl, by unfold isJ at hJ; simp only [Bool.or_eq_true, beq_iff_eq] at hJ; omega⟩
      have h4 := h3 3 (by omega)
      rw [hc, e3, Bool.and_eq_true] at h4
      simpa using h4.2
    · simp [Bool.eq_false_iff.2 hJ]
  · intro h3
    refine ⟨h1, fun j hj5 => ?_⟩
    by_cases hc : chr x.1.toNat j = 106
    · obtain ⟨rfl, ho⟩ := (chr_j x.1.toNat (by omega) (by omega) j hj5).1 hc
      have h4 := h2 3 (by omega)
      rw [hc, e3', Bool.and_eq_true] at h4
      have hJ : isJ x = true := by unfold isJ; simp only [Bool.or_eq_true, beq_iff_eq]; omega
      rw [hJ] at h3
      rw [hc, e3, h4.1]
      simpa using h3
    · rw [okAt_indep x m' m j _ hc]
      exact h2 j hj5
def insF : Ins := (11, ⟨#[]⟩, ⟨#[]⟩, ⟨#[]⟩, 0, 0)
def insJ (n : Nat) : Ins := (8, ⟨#[]⟩, ⟨#[]⟩, ⟨#[]⟩, (n : Int), 0)
theorem emp : (⟨#[]⟩ : ByteArray).toList.isEmpty = true := by simp [ByteArray.toList, ByteArray.toList.loop, ByteArray.size]
theorem one_F (m : Int) : one insF m = true := by
  rw [one_iff]
  refine ⟨⟨by show (1 : Int) ≤ 11; omega, by show (11 : Int) ≤ 11; omega⟩, fun j hj => ?_⟩
  have hc : ∀ j, j < 5 → chr 11 j = 46 := by decide
  show okAt insF m j (chr 11 j) = true
  rw [hc j hj]
  rcases j with _ | _ | _ | _ | _ | j
  · exact emp
  · exact emp
  · exact emp
  · rfl
  · rfl
  · omega
theorem one_J (n : Nat) (m : Int) (h : (n : Int) ≤ m) : one (insJ n) m = true := by
  rw [one_iff]
  refine ⟨⟨by show (1 : Int) ≤ 8; omega, by show (8 : Int) ≤ 11; omega⟩, fun j hj => ?_⟩
  show okAt (insJ n) m j (chr 8 j) = true
  rcases j with _ | _ | _ | _ | _ | j
  · exact emp
  · exact emp
  · exact emp
  · show (decide (0 ≤ (n : Int)) && decide ((n : Int) ≤ m)) = true
    rw [decide_eq_true (by omega), decide_eq_true h]
    rfl
  · rfl
  · omega
theorem more_may (xs : List Ins) (h : mayP xs = true) : mayP (xs ++ [insF, insJ xs.length]) = decide ((xs ++ [insF, insJ xs.length]).length ≤ 30) := by
  unfold mayP at h ⊢
  rw [Bool.and_eq_true] at h
  have ha : allOne (xs ++ [insF, insJ xs.length]) (xs ++ [insF, insJ xs.length]).length = true := by
    have h2 := h.2
    unfold allOne at h2 ⊢
    rw [List.all_append, Bool.and_eq_true]
    constructor
    · rw [List.all_eq_true] at h2 ⊢
      intro x hx
      rw [one_many x _ _ (h2 x hx)]
      have h3 := h2 x hx
      by_cases hJ : isJ x = true
      · have h4 := one_many x xs.length xs.length h3
        rw [h3, hJ] at h4
        have h5 : x.2.2.2.2.1 ≤ (xs.length : Int) := by simpa using h4.symm
        rw [hJ]
        simp
        omega
      · simp [Bool.eq_false_iff.2 hJ]
    · simp only [List.all_cons, List.all_nil, Bool.and_true, Bool.and_eq_true]
      exact ⟨one_F _, one_J _ _ (by simp; omega)⟩
  rw [ha, Bool.and_true]
theorem cut_may (xs : List Ins) (k : Nat) (hk : k ≤ xs.length) (h : mayP xs = true) : mayP (xs.take k) = !((xs.take k).any fun x => isJ x && decide (x.2.2.2.2.1 > (k : Int))) := by
  unfold mayP at h ⊢
  rw [Bool.and_eq_true, decide_eq_true_eq] at h
  have hl : (xs.take k).length = k := by rw [List.length_take]; omega
  rw [hl, decide_eq_true (show k ≤ 30 by omega), Bool.true_and]
  unfold allOne at h ⊢
  rw [List.not_any_eq_all_not]
  have h2 := List.all_eq_true.1 h.2
  rw [Bool.eq_iff_iff, List.all_eq_true, List.all_eq_true]
  constructor
  · intro h3 x hx
    have h4 := h3 x hx
    rw [one_many x _ _ (h2 x (List.mem_of_mem_take hx))] at h4
    simp only [Bool.or_eq_true, Bool.not_eq_true', decide_eq_true_eq] at h4
    simp only [Bool.not_eq_true', Bool.and_eq_false_iff, decide_eq_false_iff_not]
    rcases h4 with h4 | h4
    · exact Or.inl h4
    · exact Or.inr (by omega)
  · intro h3 x hx
    have h4 := h3 x hx
    rw [one_many x _ _ (h2 x (List.mem_of_mem_take hx))]
    simp only [Bool.not_eq_true', Bool.and_eq_false_iff, decide_eq_false_iff_not] at h4
    simp only [Bool.or_eq_true, Bool.not_eq_true', decide_eq_true_eq]
    rcases h4 with h4 | h4
    · exact Or.inl h4
    · exact Or.inr (by omega)
theorem k1 : mayP [] = true := rfl
theorem k2 : mayP [((8, ⟨#[]⟩, ⟨#[]⟩, ⟨#[]⟩, 1, 0) : Ins)] = true := by
  unfold mayP allOne
  simp only [List.length_cons, List.length_nil, Nat.zero_add, List.all_cons, List.all_nil, Bool.and_true]
  rw [show one ((8, ⟨#[]⟩, ⟨#[]⟩, ⟨#[]⟩, 1, 0) : Ins) ((1 : Nat) : Int) = true from one_J 1 1 (by omega)]
  rfl
theorem one_bad {x : Ins} {m : Int} (j : Nat) (hj : j < 5) (h : okAt x m j (chr x.1.toNat j) = false) : one x m = false := by
  by_cases ho : one x m = true
  · have := ((one_iff x m).1 ho).2 j hj
    rw [h] at this
    cases this
  · simpa using ho
theorem may_bad {x : Ins} (h : one x ((1 : Nat) : Int) = false) : mayP [x] = false := by
  unfold mayP allOne
  simp only [List.length_cons, List.length_nil, Nat.zero_add, List.all_cons, List.all_nil, Bool.and_true]
  rw [h, Bool.and_false]
theorem k3 : mayP [((8, ⟨#[]⟩, ⟨#[]⟩, ⟨#[]⟩, 2, 0) : Ins)] = false := may_bad (one_bad 3 (by omega) (by rfl))
theorem k4 : mayP [((1, ⟨#[97]⟩, ⟨#[65]⟩, ⟨#[]⟩, 0, 0) : Ins)] = false := may_bad (one_bad 1 (by omega) (by kernel_rfl))
theorem k5 : mayP [((4, ⟨#[97]⟩, ⟨#[]⟩, ⟨#[]⟩, 0, 0) : Ins)] = false := may_bad (one_bad 1 (by omega) (by
  have hc : chr 4 1 = 87 := by decide
  show okAt ((4, ⟨#[97]⟩, ⟨#[]⟩, ⟨#[]⟩, 0, 0) : Ins) _ 1 (chr 4 1) = false
  rw [hc]
  show (decide ((⟨#[]⟩ : ByteArray).size ≤ 40) && !(⟨#[]⟩ : ByteArray).toList.isEmpty) = false
  rw [emp]
  simp))
theorem C_oneP (w : World) (x : Ins) : KP.C (w.alloc (.cells #[.int .u8 x.1, .string x.2.1, .string x.2.2.1, .string x.2.2.2.1, .int .i64 x.2.2.2.2.1, .int .i64 x.2.2.2.2.2] 26 (0, 0))) (some ⟨w.heap.size, 0, none⟩) 1 [x] := by
  refine ⟨rfl, by omega, fun _ => ⟨_, rfl, fun j p hj => ?_⟩⟩
  have hj0 : j = 0 := by
    rcases j with _ | j
    · rfl
    · simp at hj
  subst hj0
  have hp : x = p := by simpa using hj
  subst hp
  refine ⟨_, rfl, KP_of _ x, fun i u hu => ?_⟩
  have hn := heap_new w (.cells #[.int .u8 x.1, .string x.2.1, .string x.2.2.1, .string x.2.2.2.1, .int .i64 x.2.2.2.2.1, .int .i64 x.2.2.2.2.2] 26 (0, 0))
  have e : (⟨w.heap.size, 0, none⟩ : Addr).add (0 * KP.sz + i) = ⟨w.heap.size, i, none⟩ := by simp [Addr.add_lit]
  rw [e]
  refine (cell_of hn).2 ?_
  rw [← hu]
  simp
end Go.Proofs.YtneindaodfiabaaDoor.Prog6
