/- What calls of Go functions of this seat come to, as the rows need it: under the conditions that each theorem names. -/
import Derived.Test.YtneindaodfiabaaDoorFP
import Derived.Test.YtneindaodfiabaaDoorRReadA
import Derived.Test.YtneindaodfiabaaDoorMoreA
namespace Go.Proofs.YtneindaodfiabaaDoor.Prog6
open Go.RowKit Go.Proofs.YtneindaodfiabaaDoorW.PrintWords Go.Proofs.YtneindaodfiabaaDoorW.PrintLast Go.Proofs.YtneindaodfiabaaDoorW.PrintMore
set_option linter.unusedVariables false
set_option linter.unusedSimpArgs false
open Go.Proofs.YtneindaodfiabaaDoor.Hand (uintL bytesL formL rowL uintL_form bytesL_row uintL_inv bytesL_inv digs digs_len bytes_form bytes_append bytes_row)
theorem str_bytesOf (s : ByteArray) : strOfNums (bytesOf s) = s := by
  obtain ⟨⟨l⟩⟩ := s
  simp only [strOfNums, bytesOf, List.map_map]
  congr 2
  induction l with
  | nil => rfl
  | cons x l ih =>
    rw [List.map_cons]
    show UInt8.ofNat (Int.toNat ((x.toNat : Nat) : Int)) :: _ = x :: l
    rw [Int.toNat_natCast, UInt8.ofNat_toNat]
    exact congrArg _ ih
theorem bytesOf_str (l : List Int) (h : rbytes l) : bytesOf (strOfNums l) = l := by
  simp only [strOfNums, bytesOf, List.map_map]
  have : ∀ x ∈ l, (((UInt8.ofNat x.toNat).toNat : Nat) : Int) = x := fun x hx => by
    have := h x hx
    rw [UInt8.toNat_ofNat']
    omega
  conv => rhs; rw [← List.map_id l]
  exact List.map_congr_left this
theorem rbytes_str (s : ByteArray) : rbytes (bytesOf s) := by
  intro x hx
  simp only [bytesOf, List.mem_map] at hx
  obtain ⟨y, _, rfl⟩ := hx
  have := y.toNat_lt
  omega
/-- An instruction's bytes. -/
def insB (x : Ins) : List Int := formL x.1.toNat ++ (rowL (bytesOf x.2.1) ++ (rowL (bytesOf x.2.2.1) ++ (rowL (bytesOf x.2.2.2.1) ++ (formL x.2.2.2.2.1.toNat ++ formL x.2.2.2.2.2.toNat))))
/-- A program's bytes. -/
def progB (p : List Ins) : List Int := formL p.length ++ (p.map insB).flatten
def okI (x : Ins) : Prop := (1 ≤ x.1 ∧ x.1 ≤ 11) ∧ x.2.1.size ≤ 40 ∧ x.2.2.1.size ≤ 40 ∧ x.2.2.2.1.size ≤ 40 ∧ (0 ≤ x.2.2.2.2.1 ∧ x.2.2.2.2.1 ≤ 2000) ∧ (0 ≤ x.2.2.2.2.2 ∧ x.2.2.2.2.2 ≤ 2000)
theorem isPath_sz {s : ByteArray} (h : isPath s = true) : s.size ≤ 40 := by
  unfold isPath at h
  split at h
  · rename_i h1; exact h1.2
  · cases h
theorem empty_sz {s : ByteArray} (h : s.toList.isEmpty = true) : s.size ≤ 40 := by
  rw [ByteArray.toList_eq] at h
  have : s.size = 0 := by
    obtain ⟨⟨l⟩⟩ := s
    simp at h
    subst h
    rfl
  omega
theorem okAt_sz {x : Ins} {m : Int} {k : Nat} (hk : k < 3) (hc : chr x.1.toNat k = 112 ∨ chr x.1.toNat k = 119 ∨ chr x.1.toNat k = 87 ∨ chr x.1.toNat k = 46) (h : okAt x m k (chr x.1.toNat k) = true) : (txt x k).size ≤ 40 := by
  unfold okAt at h
  rcases hc with hc | hc | hc | hc
  · rw [hc, if_pos rfl] at h; exact isPath_sz h
  · rw [hc, if_neg (by omega), if_pos rfl] at h; exact of_decide_eq_true h
  · rw [hc, if_neg (by omega), if_neg (by omega), if_pos rfl, Bool.and_eq_true] at h; exact of_decide_eq_true h.1
  · rw [hc, if_neg (by omega), if_neg (by omega), if_neg (by omega), if_neg (by omega), if_neg (by omega), if_pos hk] at h; exact empty_sz h
theorem okAt_num {x : Ins} {m : Int} {k : Nat} (hm : m ≤ 2000) (hk : 3 ≤ k) (hc : chr x.1.toNat k = 110 ∨ chr x.1.toNat k = 106 ∨ chr x.1.toNat k = 46) (h : okAt x m k (chr x.1.toNat k) = true) : 0 ≤ num x k ∧ num x k ≤ 2000 := by
  unfold okAt at h
  rcases hc with hc | hc | hc
  · rw [hc, if_neg (by omega), if_neg (by omega), if_neg (by omega), if_pos rfl, Bool.and_eq_true] at h; exact ⟨of_decide_eq_true h.1, of_decide_eq_true h.2⟩
  · rw [hc, if_neg (by omega), if_neg (by omega), if_neg (by omega), if_neg (by omega), if_pos rfl, Bool.and_eq_true] at h
    have := of_decide_eq_true h.2
    exact ⟨of_decide_eq_true h.1, by omega⟩
  · rw [hc, if_neg (by omega), if_neg (by omega), if_neg (by omega), if_neg (by omega), if_neg (by omega), if_neg (by omega), beq_iff_eq] at h; omega
theorem one_ok {x : Ins} {m : Int} (hm : m ≤ 2000) (h : one x m = true) : okI x := by
  obtain ⟨h1, h2⟩ := (one_iff x m).1 h
  have hc := fun k hk => fchr x.1.toNat (by omega) (by omega) k hk
  have hs := fun k (hk : k < 3) => okAt_sz hk ((hc k (by omega)).2.1 hk) (h2 k (by omega))
  have hn := fun k (hk : 3 ≤ k) (hk5 : k < 5) => okAt_num hm hk ((hc k hk5).2.2 hk) (h2 k hk5)
  exact ⟨h1, hs 0 (by omega), hs 1 (by omega), hs 2 (by omega), hn 3 (by omega) (by omega), hn 4 (by omega) (by omega)⟩
theorem may_ok {p : List Ins} (h : mayP p = true) : p.length ≤ 30 ∧ ∀ x ∈ p, okI x := by
  unfold mayP at h
  rw [Bool.and_eq_true, decide_eq_true_eq] at h
  refine ⟨h.1, fun x hx => one_ok (m := (p.length : Int)) (by omega) ?_⟩
  have h2 := h.2
  unfold allOne at h2
  exact List.all_eq_true.1 h2 x hx
theorem numR_form (a b : List Int) (n : Nat) (most : Int) (h : n < 18446744073709551616) (hm : (n : Int) ≤ most) : numR (a ++ (formL n ++ b)) (((a.length : Nat) : Int), false) most = ((n : Int), ((((a ++ formL n).length : Nat) : Int), false)) := by
  unfold numR
  simp only [uintL_form a b n h]
  rw [if_neg (by simp; omega)]
  simp
theorem textR_row (a b : List Int) (s : ByteArray) (h : s.size ≤ 40) : textR (a ++ (rowL (bytesOf s) ++ b)) (((a.length : Nat) : Int), false) = (s, ((((a ++ rowL (bytesOf s)).length : Nat) : Int), false)) := by
  unfold textR
  have hl := bytesOf_length s
  simp only [bytesL_row a (bytesOf s) b 40 (by omega) (by omega)]
  rw [if_neg (by simp), str_bytesOf]
  simp
theorem insR_ins (a b : List Int) (x : Ins) (h : okI x) : insR (a ++ (insB x ++ b)) (((a.length : Nat) : Int), false) = (x, ((((a ++ insB x).length : Nat) : Int), false)) := by
  obtain ⟨op, A, B, C, N, M⟩ := x
  obtain ⟨h1, hA, hB, hC, hN, hM⟩ := h
  simp only at h1 hA hB hC hN hM
  obtain ⟨op, rfl⟩ := Int.eq_ofNat_of_zero_le (show 0 ≤ op by omega)
  obtain ⟨N, rfl⟩ := Int.eq_ofNat_of_zero_le hN.1
  obtain ⟨M, rfl⟩ := Int.eq_ofNat_of_zero_le hM.1
  have e0 : a ++ (insB ((op : Int), A, B, C, (N : Int), (M : Int)) ++ b) = a ++ (formL op ++ (rowL (bytesOf A) ++ (rowL (bytesOf B) ++ (rowL (bytesOf C) ++ (formL N ++ (formL M ++ b)))))) := by simp [insB]
  have eL : a ++ insB ((op : Int), A, B, C, (N : Int), (M : Int)) = (((((a ++ formL op) ++ rowL (bytesOf A)) ++ rowL (bytesOf B)) ++ rowL (bytesOf C)) ++ formL N) ++ formL M := by simp [insB]
  rw [e0, eL]
  generalize hl : a ++ (formL op ++ (rowL (bytesOf A) ++ (rowL (bytesOf B) ++ (rowL (bytesOf C) ++ (formL N ++ (formL M ++ b)))))) = l
  have g1 := numR_form a (rowL (bytesOf A) ++ (rowL (bytesOf B) ++ (rowL (bytesOf C) ++ (formL N ++ (formL M ++ b))))) op 11 (by omega) (by omega)
  rw [hl] at g1
  replace hl := (List.append_assoc _ _ _).trans hl
  have g2 := textR_row (a ++ formL op) (rowL (bytesOf B) ++ (rowL (bytesOf C) ++ (formL N ++ (formL M ++ b)))) A hA
  rw [hl] at g2
  replace hl := (List.append_assoc _ _ _).trans hl
  have g3 := textR_row ((a ++ formL op) ++ rowL (bytesOf A)) (rowL (bytesOf C) ++ (formL N ++ (formL M ++ b))) B hB
  rw [hl] at g3
  replace hl := (List.append_assoc _ _ _).trans hl
  have g4 := textR_row (((a ++ formL op) ++ rowL (bytesOf A)) ++ rowL (bytesOf B)) (formL N ++ (formL M ++ b)) C hC
  rw [hl] at g4
  replace hl := (List.append_assoc _ _ _).trans hl
  have g5 := numR_form ((((a ++ formL op) ++ rowL (bytesOf A)) ++ rowL (bytesOf B)) ++ rowL (bytesOf C)) (formL M ++ b) N 2000 (by omega) hN.2
  rw [hl] at g5
  replace hl := (List.append_assoc _ _ _).trans hl
  have g6 := numR_form (((((a ++ formL op) ++ rowL (bytesOf A)) ++ rowL (bytesOf B)) ++ rowL (bytesOf C)) ++ formL N) b M 2000 (by omega) hM.2
  rw [hl] at g6
  unfold insR
  rw [g1]; simp only []
  rw [g2]; simp only []
  rw [g3]; simp only []
  rw [g4]; simp only []
  rw [g5]; simp only []
  rw [g6]
theorem insK_prog (a : List Int) (p : List Ins) (b : List Int) (hp : ∀ x ∈ p, okI x) : ∀ k, k ≤ p.length → insK (a ++ ((p.map insB).flatten ++ b)) (((a.length : Nat) : Int), false) k = (p.take k, ((((a ++ ((p.take k).map insB).flatten).length : Nat) : Int), false))
  | 0, _ => by simp [insK]
  | k + 1, hk => by
    have hlt : k < p.length := by omega
    have h1 : insK (a ++ ((p.map insB).flatten ++ b)) (((a.length : Nat) : Int), false) (k + 1) = ((insK (a ++ ((p.map insB).flatten ++ b)) (((a.length : Nat) : Int), false) k).1 ++ [(insR (a ++ ((p.map insB).flatten ++ b)) (insK (a ++ ((p.map insB).flatten ++ b)) (((a.length : Nat) : Int), false) k).2).1], (insR (a ++ ((p.map insB).flatten ++ b)) (insK (a ++ ((p.map insB).flatten ++ b)) (((a.length : Nat) : Int), false) k).2).2) := rfl
    rw [h1, insK_prog a p b hp k (by omega)]
    simp only
    have hp' : p = p.take k ++ (p[k] :: p.drop (k + 1)) := by rw [← List.drop_eq_getElem_cons hlt, List.take_append_drop]
    have hf : (p.map insB).flatten = ((p.take k).map insB).flatten ++ (insB p[k] ++ ((p.drop (k + 1)).map insB).flatten) := by
      conv => lhs; rw [hp']
      simp only [List.map_append, List.map_cons, List.flatten_append, List.flatten_cons]
    have hs : a ++ ((p.map insB).flatten ++ b) = (a ++ ((p.take k).map insB).flatten) ++ (insB p[k] ++ (((p.drop (k + 1)).map insB).flatten ++ b)) := by
      rw [hf]
      simp only [List.append_assoc]
    rw [hs, insR_ins _ _ _ (hp _ (List.getElem_mem hlt)), List.take_succ_eq_append_getElem hlt]
    simp only [List.map_append, List.map_cons, List.map_nil, List.flatten_append, List.flatten_cons, List.flatten_nil, List.append_nil, List.append_assoc]
/-- A program's bytes are read as it; with bytes more they are none. -/
theorem readP_prog (p : List Ins) (b : List Int) (h : mayP p = true) : readP (progB p ++ b) = if b = [] then some p else none := by
  obtain ⟨h30, hok⟩ := may_ok h
  have h1 : numR (formL p.length ++ ((p.map insB).flatten ++ b)) (0, false) 30 = ((p.length : Int), ((((formL p.length).length : Nat) : Int), false)) := numR_form [] ((p.map insB).flatten ++ b) p.length 30 (by omega) (by omega)
  have e : progB p ++ b = formL p.length ++ ((p.map insB).flatten ++ b) := by simp [progB]
  unfold readP
  rw [e, h1]
  simp only [Int.toNat_natCast]
  rw [insK_prog (formL p.length) p b hok p.length (Nat.le_refl _)]
  simp only [List.take_length]
  by_cases hb : b = []
  · subst hb
    rw [if_neg, if_pos rfl]
    simp [h]
  · rw [if_pos, if_neg hb]
    refine .inr (.inl ?_)
    have : b.length ≠ 0 := fun h => hb (List.length_eq_zero_iff.1 h)
    simp only [List.length_append]
    omega
theorem numR_inv (l : List Int) (a : Nat) (most : Int) (hl : rbytes l) (h : (numR l ((a : Nat), false) most).2.2 = false) : ∃ n : Nat, n < 18446744073709551616 ∧ (n : Int) ≤ most ∧ numR l ((a : Nat), false) most = ((n : Int), (((a + (formL n).length : Nat) : Int), false)) ∧ l.drop a = formL n ++ l.drop (a + (formL n).length) := by
  unfold numR at h ⊢
  split at h
  · cases h
  rename_i h1
  rw [if_neg h1]
  have h2 : (uintL l (a : Nat)).2.2 = 0 := Classical.byContradiction fun h2 => h1 (.inl h2)
  obtain ⟨n, hn, e, _, hd⟩ := uintL_inv l a hl h2
  refine ⟨n, hn, ?_, ?_, hd⟩
  · rw [e] at h1
    exact Int.not_lt.1 fun h2 => h1 (.inr (.inl h2))
  · rw [e]; simp
theorem textR_inv (l : List Int) (a : Nat) (hl : rbytes l) (hL : l.length < 140737488355300) (h : (textR l ((a : Nat), false)).2.2 = false) : ∃ s : ByteArray, s.size ≤ 40 ∧ textR l ((a : Nat), false) = (s, (((a + (rowL (bytesOf s)).length : Nat) : Int), false)) ∧ l.drop a = rowL (bytesOf s) ++ l.drop (a + (rowL (bytesOf s)).length) := by
  unfold textR at h ⊢
  split at h
  · cases h
  rename_i h1
  rw [if_neg h1]
  have h2 : (bytesL l (a : Nat) 40).2.2 = 0 := Classical.byContradiction fun h2 => h1 (.inl h2)
  obtain ⟨x, hx, _, h40, e, _, hd⟩ := bytesL_inv l a 40 hl (by omega) h2
  refine ⟨strOfNums x, by rw [strOfNums_size]; omega, ?_, ?_⟩
  · rw [e, bytesOf_str x hx]; simp
  · rw [bytesOf_str x hx]; exact hd
theorem numR_ns (l : List Int) (s : Int × Bool) (m : Int) (h : (numR l s m).2.2 = false) : s.2 = false := by
  cases hs : s.2 with
  | false => rfl
  | true => rw [numR_stuck l s m hs] at h; cases h
theorem textR_ns (l : List Int) (s : Int × Bool) (h : (textR l s).2.2 = false) : s.2 = false := by
  cases hs : s.2 with
  | false => rfl
  | true => rw [textR_stuck l s hs] at h; cases h
theorem insR_inv (l : List Int) (a : Nat) (hl : rbytes l) (hL : l.length < 140737488355300) (h : (insR l ((a : Nat), false)).2.2 = false) : ∃ x : Ins, insR l ((a : Nat), false) = (x, (((a + (insB x).length : Nat) : Int), false)) ∧ l.drop a = insB x ++ l.drop (a + (insB x).length) := by
  have h6 : (numR l (numR l (textR l (textR l (textR l (numR l ((a : Nat), false) 11).2).2).2).2 2000).2 2000).2.2 = false := h
  have h5 := numR_ns _ _ _ h6
  have h4 := numR_ns _ _ _ h5
  have h3 := textR_ns _ _ h4
  have h2 := textR_ns _ _ h3
  have h1 := textR_ns _ _ h2
  obtain ⟨op, b1, _, e1, d1⟩ := numR_inv l a 11 hl h1
  rw [e1] at h2 h3 h4 h5 h6
  simp only [] at h2 h3 h4 h5 h6
  obtain ⟨A, _, e2, d2⟩ := textR_inv l _ hl hL h2
  rw [e2] at h3 h4 h5 h6
  simp only [] at h3 h4 h5 h6
  obtain ⟨B, _, e3, d3⟩ := textR_inv l _ hl hL h3
  rw [e3] at h4 h5 h6
  simp only [] at h4 h5 h6
  obtain ⟨C, _, e4, d4⟩ := textR_inv l _ hl hL h4
  rw [e4] at h5 h6
  simp only [] at h5 h6
  obtain ⟨N, _, _, e5, d5⟩ := numR_inv l _ 2000 hl h5
  rw [e5] at h6
  simp only [] at h6
  obtain ⟨M, _, _, e6, d6⟩ := numR_inv l _ 2000 hl h6
  have hB : insB ((op : Int), A, B, C, (N : Int), (M : Int)) = formL op ++ (rowL (bytesOf A) ++ (rowL (bytesOf B) ++ (rowL (bytesOf C) ++ (formL N ++ formL M)))) := rfl
  refine ⟨((op : Int), A, B, C, (N : Int), (M : Int)), ?_, ?_⟩
  · unfold insR
    rw [e1]; simp only []
    rw [e2]; simp only []
    rw [e3]; simp only []
    rw [e4]; simp only []
    rw [e5]; simp only []
    rw [e6, hB]
    simp only [List.length_append, Nat.add_assoc]
  · have hLen : a + (insB ((op : Int), A, B, C, (N : Int), (M : Int))).length = a + (formL op).length + (rowL (bytesOf A)).length + (rowL (bytesOf B)).length + (rowL (bytesOf C)).length + (formL N).length + (formL M).length := by
      rw [hB]
      simp only [List.length_append, Nat.add_assoc]
    rw [hLen, hB, d1, d2, d3, d4, d5, d6]
    simp only [List.append_assoc]
theorem insR_ns (l : List Int) (s : Int × Bool) (h : (insR l s).2.2 = false) : s.2 = false := by
  cases hs : s.2 with
  | false => rfl
  | true => rw [insR_stuck l s hs] at h; cases h
theorem insK_inv (l : List Int) (a : Nat) (hl : rbytes l) (hL : l.length < 140737488355300) : ∀ k, (insK l ((a : Nat), false) k).2.2 = false → ∃ p : List Ins, p.length = k ∧ insK l ((a : Nat), false) k = (p, (((a + ((p.map insB).flatten).length : Nat) : Int), false)) ∧ l.drop a = (p.map insB).flatten ++ l.drop (a + ((p.map insB).flatten).length)
  | 0, _ => ⟨[], rfl, by simp [insK], by simp⟩
  | k + 1, h => by
    have h0 : (insR l (insK l ((a : Nat), false) k).2).2.2 = false := h
    have h1 := insR_ns _ _ h0
    obtain ⟨p, hp, e, hd⟩ := insK_inv l a hl hL k h1
    rw [e] at h0
    simp only [] at h0
    obtain ⟨x, e2, hd2⟩ := insR_inv l _ hl hL h0
    have h3 : insK l ((a : Nat), false) (k + 1) = ((insK l ((a : Nat), false) k).1 ++ [(insR l (insK l ((a : Nat), false) k).2).1], (insR l (insK l ((a : Nat), false) k).2).2) := rfl
    refine ⟨p ++ [x], by simp [hp], ?_, ?_⟩
    · rw [h3, e]
      simp only []
      rw [e2]
      simp [Nat.add_assoc]
    · rw [hd, hd2]
      simp [Nat.add_assoc]
/-- What is read as a program is its bytes. -/
theorem readP_inv (l : List Int) (p : List Ins) (hl : rbytes l) (hL : l.length < 140737488355300) (h : readP l = some p) : mayP p = true ∧ l = progB p := by
  unfold readP at h
  split at h
  · cases h
  rename_i h1
  injection h with h
  have hw : (insK l (numR l (0, false) 30).2 (numR l (0, false) 30).1.toNat).2.2 = false := by
    cases hw : (insK l (numR l (0, false) 30).2 (numR l (0, false) 30).1.toNat).2.2 with
    | false => rfl
    | true => exact absurd (.inl hw) h1
  have hat : (insK l (numR l (0, false) 30).2 (numR l (0, false) 30).1.toNat).2.1 = l.length := Classical.byContradiction fun h2 => h1 (.inr (.inl h2))
  have hm : mayP (insK l (numR l (0, false) 30).2 (numR l (0, false) 30).1.toNat).1 = true := by
    cases hm : mayP (insK l (numR l (0, false) 30).2 (numR l (0, false) 30).1.toNat).1 with
    | true => rfl
    | false => exact absurd (.inr (.inr hm)) h1
  have h0 : (numR l (0, false) 30).2.2 = false := by
    cases hs : (numR l (0, false) 30).2.2 with
    | false => rfl
    | true =>
      have := insK_stuck l (numR l (0, false) 30).2 0 hs (numR l (0, false) 30).1.toNat
      rw [Nat.zero_add] at this
      rw [this] at hw
      cases hw
  obtain ⟨n, _, _, e, hd⟩ := numR_inv l 0 30 hl h0
  replace e : numR l (0, false) 30 = ((n : Int), (((0 + (formL n).length : Nat) : Int), false)) := e
  rw [e] at hw hat hm h
  simp only [Int.toNat_natCast] at hw hat hm h
  obtain ⟨q, hq, e2, hd2⟩ := insK_inv l _ hl hL n hw
  rw [e2] at hat hm h
  simp only [] at hat hm h
  subst h
  refine ⟨hm, ?_⟩
  rw [List.drop_zero] at hd
  have hz : l.drop (0 + (formL n).length + ((q.map insB).flatten).length) = [] := List.drop_eq_nil_of_le (by omega)
  rw [hz, List.append_nil] at hd2
  rw [hd2] at hd
  rw [hd, ← hq]
  rfl
theorem rbytes_insB {x : Ins} (h : okI x) : rbytes (insB x) := by
  obtain ⟨h1, hA, hB, hC, hN, hM⟩ := h
  have e := fun s : ByteArray => bytesOf_length s
  exact bytes_append (bytes_form _ (by omega)) (bytes_append (bytes_row (rbytes_str _) (by rw [e]; omega)) (bytes_append (bytes_row (rbytes_str _) (by rw [e]; omega)) (bytes_append (bytes_row (rbytes_str _) (by rw [e]; omega)) (bytes_append (bytes_form _ (by omega)) (bytes_form _ (by omega))))))
theorem len_insB {x : Ins} (h : okI x) : (insB x).length ≤ 180 := by
  obtain ⟨h1, hA, hB, hC, hN, hM⟩ := h
  have e := fun s : ByteArray => bytesOf_length s
  have f := fun n h => Hand.formL_len n h
  have f1 := f x.1.toNat (by omega)
  have f2 := f x.2.2.2.2.1.toNat (by omega)
  have f3 := f x.2.2.2.2.2.toNat (by omega)
  have fA := f x.2.1.size (by omega)
  have fB := f x.2.2.1.size (by omega)
  have fC := f x.2.2.2.1.size (by omega)
  simp only [insB, rowL, List.length_append, e]
  omega
theorem len_flat {p : List Ins} (h : ∀ x ∈ p, okI x) : (p.map insB).flatten.length ≤ 180 * p.length := by
  induction p with
  | nil => simp
  | cons x p ih =>
    have h1 := len_insB (h x (by simp))
    have h2 := ih (fun y hy => h y (by simp [hy]))
    simp only [List.map_cons, List.flatten_cons, List.length_append, List.length_cons]
    omega
theorem rbytes_flat {p : List Ins} (h : ∀ x ∈ p, okI x) : rbytes (p.map insB).flatten := by
  induction p with
  | nil => intro x hx; cases hx
  | cons x p ih => exact bytes_append (rbytes_insB (h x (by simp))) (ih (fun y hy => h y (by simp [hy])))
theorem progB_bytes {p : List Ins} (h : mayP p = true) : rbytes (progB p) ∧ (progB p).length ≤ 6000 := by
  obtain ⟨h30, hok⟩ := may_ok h
  refine ⟨bytes_append (bytes_form _ (by omega)) (rbytes_flat hok), ?_⟩
  have h1 := Hand.formL_len p.length (by omega)
  have h2 := len_flat hok
  simp only [progB, List.length_append]
  omega
/-- Programs that may be have the same bytes just if they are alike. -/
theorem progB_inj {p q : List Ins} (hp : mayP p = true) (hq : mayP q = true) : progB p = progB q ↔ p = q := by
  refine ⟨fun h => ?_, fun h => by rw [h]⟩
  have h1 := readP_prog p [] hp
  have h2 := readP_prog q [] hq
  rw [h, h2] at h1
  simp at h1
  exact h1.symm
/-- A byte more, a byte less: no program. -/
theorem readP_more {l : List Int} {p : List Ins} (hl : rbytes l) (hL : l.length < 140737488355300) (h : readP l = some p) (m : Int) : readP (l ++ [m]) = none := by
  obtain ⟨h1, rfl⟩ := readP_inv l p hl hL h
  rw [readP_prog p [m] h1, if_neg (by simp)]
theorem readP_less {l : List Int} {p : List Ins} (hl : rbytes l) (hL : l.length < 140737488355300) (h : readP l = some p) : l ≠ [] ∧ readP (l.take (l.length - 1)) = none := by
  have hne : l ≠ [] := by
    obtain ⟨h1, h2⟩ := readP_inv l p hl hL h
    rw [h2]
    unfold progB formL
    simp
  refine ⟨hne, ?_⟩
  cases h2 : readP (l.take (l.length - 1)) with
  | none => rfl
  | some q =>
    have hb : rbytes (l.take (l.length - 1)) := fun x hx => hl x (List.mem_of_mem_take hx)
    have h3 := readP_more hb (by rw [List.length_take]; omega) h2 (l.getLast hne)
    rw [← List.dropLast_eq_take, List.dropLast_concat_getLast, h] at h3
    cases h3
end Go.Proofs.YtneindaodfiabaaDoor.Prog6
