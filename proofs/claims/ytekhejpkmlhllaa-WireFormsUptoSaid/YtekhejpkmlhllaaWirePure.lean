/- What calls of Go functions of this seat come to, as the rows need it: under the conditions that each theorem names. -/
import Derived.Test.YtekhejpkmlhllaaSame
namespace Go.Proofs.Ytekhejpkmlhllaa.Hand
open Go.RowKit Go.Proofs.YtekhejpkmlhllaaW.PrintWords Go.Proofs.YtekhejpkmlhllaaW.PrintLast Go.Proofs.YtekhejpkmlhllaaW.PrintMore
set_option linter.unusedVariables false
set_option linter.unusedSimpArgs false
theorem val_snoc (l : List Int) (x : Int) (a : Nat) : val (l ++ [x]) a = val l a * 256 + x.toNat := by
  induction l generalizing a with
  | nil => rfl
  | cons y l ih => simp only [List.cons_append, val]; exact ih _
theorem numL_val (l : List Int) (h : bytes l) : numL l = ((val l 0 % 18446744073709551616 : Nat) : Int) := by
  have key : ∀ (m : Nat) (l : List Int), l.length = m → bytes l → numL l = ((val l 0 % 18446744073709551616 : Nat) : Int) := by
    intro m
    induction m with
    | zero =>
      intro l hl _
      obtain rfl := List.length_eq_zero_iff.1 hl
      rfl
    | succ m ih =>
      intro l hl hb
      rcases List.eq_nil_or_concat l with rfl | ⟨l, x, rfl⟩
      · simp at hl
      · rw [List.concat_eq_append] at hl hb ⊢
        have hx := hb x (by simp)
        have h1 := ih l (by simpa using hl) (fun y hy => hb y (by simp [hy]))
        rw [numL_snoc, h1, val_snoc]
        simp only [IntKind.wrap, IntKind.bits, IntKind.signed]
        simp
        omega
  exact key l.length l rfl h
theorem bytes_form (n : Nat) (h : n < 18446744073709551616) : bytes (formL n) := by
  intro x hx
  have := digs_len n h
  rcases List.mem_cons.1 hx with rfl | hx
  · omega
  · exact (digs_good n h).bytes x hx
theorem bytes_append {a b : List Int} (ha : bytes a) (hb : bytes b) : bytes (a ++ b) := fun x hx => by
  rcases List.mem_append.1 hx with h | h
  · exact ha x h
  · exact hb x h
theorem bytes_row {x : List Int} (hx : bytes x) (h : x.length < 18446744073709551616) : bytes (rowL x) := bytes_append (bytes_form _ h) hx
theorem rd_append (a b : List Int) : rd (a ++ b) (a.length : Nat) = rd b (0 : Nat) := by
  unfold rd
  simp only [Int.toNat_natCast]
  rw [List.getD_eq_getElem?_getD, List.getD_eq_getElem?_getD, List.getElem?_append_right (Nat.le_refl _), Nat.sub_self]
/-- A number's form, wherever it stands, is read as it. -/
theorem uintL_form (a b : List Int) (n : Nat) (h : n < 18446744073709551616) : uintL (a ++ (formL n ++ b)) a.length = ((n : Int), (a.length : Int) + (formL n).length, 0) := by
  have hl := digs_len n h
  have hg := digs_good n h
  unfold uintL
  rw [if_neg (by simp; omega)]
  simp only [Int.toNat_natCast]
  rw [List.drop_left' rfl]
  have hf : formL n ++ b = ((digs n).length : Int) :: (digs n ++ b) := rfl
  rw [hf, if_neg (by simp)]
  have hr : rd (((digs n).length : Int) :: (digs n ++ b)) (0 : Nat) = (digs n).length := rfl
  rw [hr]
  simp only [List.drop_succ_cons, List.drop_zero, Int.toNat_natCast]
  rw [if_neg, if_neg (by simp; omega)]
  · rw [List.take_left' rfl, numL_val _ hg.bytes, hg.val, Nat.mod_eq_of_lt h]
    simp only [form_len]
    refine Prod.ext rfl (Prod.ext ?_ rfl)
    show (a.length : Int) + 1 + ((digs n).length : Int) = (a.length : Int) + (((digs n).length + 1 : Nat) : Int)
    omega
  · rintro (h1 | ⟨h1, h2, h3⟩)
    · omega
    · cases hd : digs n with
      | nil => rw [hd] at h1; simp at h1
      | cons x l =>
        have hx := hg.head rfl x l hd
        rw [hd] at h3
        exact hx h3
/-- A row's form, wherever it stands, is read as it. -/
theorem bytesL_row (a x b : List Int) (most : Int) (h : x.length < 18446744073709551616) (hm : (x.length : Int) ≤ most) : bytesL (a ++ (rowL x ++ b)) a.length most = (x, (a.length : Int) + (rowL x).length, 0) := by
  have hu : uintL (a ++ (rowL x ++ b)) a.length = ((x.length : Int), (a.length : Int) + (formL x.length).length, 0) := by
    unfold rowL
    rw [List.append_assoc]
    exact uintL_form a (x ++ b) x.length h
  rw [bytesL_eq, hu]
  simp only
  rw [if_neg (by simp), if_neg (by omega), if_neg (by simp [rowL]; omega)]
  have e1 : (((a.length : Int) + (formL x.length).length)).toNat = (a ++ formL x.length).length := by simp; omega
  have e2 : a ++ (rowL x ++ b) = (a ++ formL x.length) ++ (x ++ b) := by simp [rowL]
  rw [e1, e2, List.drop_left' rfl, Int.toNat_natCast, List.take_left' rfl]
  refine Prod.ext rfl (Prod.ext ?_ rfl)
  simp [rowL]
  omega
theorem sameL_refl (l : List (List Int)) : sameL l l = true := decide_eq_true rfl
end Go.Proofs.Ytekhejpkmlhllaa.Hand
