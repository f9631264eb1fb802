/- What calls of Go functions of this seat come to, as the rows need it: under the conditions that each theorem names. -/
import Derived.Test.YtebjibkgefgalaaDoorBytesB
import Derived.OpenShut
namespace Go.Proofs.YtebjibkgefgalaaDoor.Hand
open Go.RowKit Go.Proofs.YtebjibkgefgalaaDoorW.PrintWords Go.Proofs.YtebjibkgefgalaaDoorW.PrintLast Go.Proofs.YtebjibkgefgalaaDoorW.PrintMore
set_option linter.unusedVariables false
set_option linter.unusedSimpArgs false
/-! Forms of numbers and rows are read as what they are, wherever they stand; what is read is the form of what it is. -/
def val : List Int → Nat → Nat
  | [], a => a
  | x :: l, a => val l (a * 256 + x.toNat)
theorem val_shift (l : List Int) (a : Nat) : val l a = a * 256 ^ l.length + val l 0 := by
  induction l generalizing a with
  | nil => simp [val]
  | cons x l ih =>
    simp only [val, List.length_cons]
    rw [ih (a * 256 + x.toNat), ih (0 * 256 + x.toNat), Nat.pow_succ]
    simp only [Nat.add_mul, Nat.zero_mul, Nat.zero_add, Nat.mul_assoc]
    rw [Nat.mul_comm 256 (256 ^ l.length)]
    omega
theorem val_lt (l : List Int) (h : bytes l) : val l 0 < 256 ^ l.length := by
  induction l with
  | nil => simp [val]
  | cons x l ih =>
    have h1 := h x (by simp)
    have h2 := ih (fun y hy => h y (by simp [hy]))
    simp only [val, List.length_cons]
    rw [val_shift, Nat.pow_succ]
    have : x.toNat ≤ 255 := by omega
    have h3 : (0 * 256 + x.toNat) * 256 ^ l.length ≤ 255 * 256 ^ l.length := Nat.mul_le_mul_right _ (by omega)
    omega
structure Good (n m : Nat) (acc : List Int) : Prop where
  bytes : bytes acc
  val : val acc m = n
  head : m = 0 → ∀ x l, acc = x :: l → x ≠ 0
theorem digs_good (n : Nat) (h : n < 18446744073709551616) : Good n 0 (digs n) := by
  have key : ∀ d m acc, m ≤ d → At n m acc → Good n m acc → Good n 0 (digs n) := by
    intro d
    induction d with
    | zero => intro m acc hm ha hg; obtain rfl : m = 0 := by omega
              rw [← ha.done]; exact hg
    | succ d ih =>
      intro m acc hm ha hg
      by_cases h0 : m = 0
      · subst h0; rw [← ha.done]; exact hg
      · refine ih _ _ (by omega) (ha.step (by omega)).2 ⟨?_, ?_, ?_⟩
        · intro x hx
          rcases List.mem_cons.1 hx with rfl | hx
          · omega
          · exact hg.bytes x hx
        · simp only [val, Int.toNat_natCast]
          rw [show m / 256 * 256 + m % 256 = m by omega]
          exact hg.val
        · intro hz x l e
          injection e with e1 e2
          subst e1
          omega
  exact key n n [] (Nat.le_refl _) (At.start n h) ⟨(fun x hx => by cases hx), rfl, (fun _ x l e => by cases e)⟩
theorem val_cons_pos (x : Int) (l : List Int) (h : bytes (x :: l)) (hx : x ≠ 0) : 256 ^ l.length ≤ val (x :: l) 0 := by
  have h1 := h x (by simp)
  simp only [val]
  rw [val_shift]
  have : 1 * 256 ^ l.length ≤ (0 * 256 + x.toNat) * 256 ^ l.length := Nat.mul_le_mul_right _ (by omega)
  omega
/-- More digits, a greater number. -/
theorem val_len {a b : List Int} (ha : bytes a) (hb : bytes b) (hh : ∀ x l, b = x :: l → x ≠ 0) (h : a.length < b.length) : val a 0 < val b 0 := by
  cases b with
  | nil => simp at h
  | cons x l =>
    have h1 := val_lt a ha
    have h2 := val_cons_pos x l hb (hh x l rfl)
    have h3 : 256 ^ a.length ≤ 256 ^ l.length := Nat.pow_le_pow_right (by omega) (by simpa using Nat.lt_succ_iff.1 h)
    omega
theorem form_len (n : Nat) : (formL n).length = (digs n).length + 1 := rfl
theorem val_snoc (l : List Int) (x : Int) (a : Nat) : val (l ++ [x]) a = val l a * 256 + x.toNat := by
  induction l generalizing a with
  | nil => rfl
  | cons y l ih => simp only [List.cons_append, val]; exact ih _
theorem numL_val (l : List Int) (h : bytes l) : numL l = ((val l 0 % 18446744073709551616 : Nat) : Int) := by
  have key : ∀ (m : Nat) (l : List Int), l.length = m → bytes l → numL l = ((val l 0 % 18446744073709551616 : Nat) : Int) := by
    intro m
    induction m with
    | zero =>
      intro l hl _
      obtain rfl := List.length_eq_zero_iff.1 hl
      rfl
    | succ m ih =>
      intro l hl hb
      rcases List.eq_nil_or_concat l with rfl | ⟨l, x, rfl⟩
      · simp at hl
      · rw [List.concat_eq_append] at hl hb ⊢
        have hx := hb x (by simp)
        have h1 := ih l (by simpa using hl) (fun y hy => hb y (by simp [hy]))
        rw [numL_snoc, h1, val_snoc]
        simp only [IntKind.wrap, IntKind.bits, IntKind.signed]
        simp
        omega
  exact key l.length l rfl h
theorem bytes_form (n : Nat) (h : n < 18446744073709551616) : bytes (formL n) := by
  intro x hx
  have := digs_len n h
  rcases List.mem_cons.1 hx with rfl | hx
  · omega
  · exact (digs_good n h).bytes x hx
theorem bytes_append {a b : List Int} (ha : bytes a) (hb : bytes b) : bytes (a ++ b) := fun x hx => by
  rcases List.mem_append.1 hx with h | h
  · exact ha x h
  · exact hb x h
theorem bytes_row {x : List Int} (hx : bytes x) (h : x.length < 18446744073709551616) : bytes (rowL x) := bytes_append (bytes_form _ h) hx
theorem rd_append (a b : List Int) : rd (a ++ b) (a.length : Nat) = rd b (0 : Nat) := by
  unfold rd
  simp only [Int.toNat_natCast]
  rw [List.getD_eq_getElem?_getD, List.getD_eq_getElem?_getD, List.getElem?_append_right (Nat.le_refl _), Nat.sub_self]
/-- A number's form, wherever it stands, is read as it. -/
theorem uintL_form (a b : List Int) (n : Nat) (h : n < 18446744073709551616) : uintL (a ++ (formL n ++ b)) a.length = ((n : Int), (a.length : Int) + (formL n).length, 0) := by
  have hl := digs_len n h
  have hg := digs_good n h
  unfold uintL
  rw [if_neg (by simp; omega)]
  simp only [Int.toNat_natCast]
  rw [List.drop_left' rfl]
  have hf : formL n ++ b = ((digs n).length : Int) :: (digs n ++ b) := rfl
  rw [hf, if_neg (by simp)]
  have hr : rd (((digs n).length : Int) :: (digs n ++ b)) (0 : Nat) = (digs n).length := rfl
  rw [hr]
  simp only [List.drop_succ_cons, List.drop_zero, Int.toNat_natCast]
  rw [if_neg, if_neg (by simp; omega)]
  · rw [List.take_left' rfl, numL_val _ hg.bytes, hg.val, Nat.mod_eq_of_lt h]
    simp only [form_len]
    refine Prod.ext rfl (Prod.ext ?_ rfl)
    show (a.length : Int) + 1 + ((digs n).length : Int) = (a.length : Int) + (((digs n).length + 1 : Nat) : Int)
    omega
  · rintro (h1 | ⟨h1, h2, h3⟩)
    · omega
    · cases hd : digs n with
      | nil => rw [hd] at h1; simp at h1
      | cons x l =>
        have hx := hg.head rfl x l hd
        rw [hd] at h3
        exact hx h3
/-- A row's form, wherever it stands, is read as it. -/
theorem bytesL_row (a x b : List Int) (most : Int) (h : x.length < 18446744073709551616) (hm : (x.length : Int) ≤ most) : bytesL (a ++ (rowL x ++ b)) a.length most = (x, (a.length : Int) + (rowL x).length, 0) := by
  have hu : uintL (a ++ (rowL x ++ b)) a.length = ((x.length : Int), (a.length : Int) + (formL x.length).length, 0) := by
    unfold rowL
    rw [List.append_assoc]
    exact uintL_form a (x ++ b) x.length h
  rw [bytesL_eq, hu]
  simp only
  rw [if_neg (by simp), if_neg (by omega), if_neg (by simp [rowL]; omega)]
  have e1 : (((a.length : Int) + (formL x.length).length)).toNat = (a ++ formL x.length).length := by simp; omega
  have e2 : a ++ (rowL x ++ b) = (a ++ formL x.length) ++ (x ++ b) := by simp [rowL]
  rw [e1, e2, List.drop_left' rfl, Int.toNat_natCast, List.take_left' rfl]
  refine Prod.ext rfl (Prod.ext ?_ rfl)
  simp [rowL]
  omega
/-- Rows of digits of one length and one number are the same. -/
theorem val_inj : ∀ (a b : List Int), bytes a → bytes b → a.length = b.length → val a 0 = val b 0 → a = b
  | [], [], _, _, _, _ => rfl
  | x :: a, y :: b, ha, hb, hl, h => by
    have hl2 : a.length = b.length := by simpa using hl
    have ha2 : bytes a := fun z hz => ha z (by simp [hz])
    have hb2 : bytes b := fun z hz => hb z (by simp [hz])
    have hx := ha x (by simp)
    have hy := hb y (by simp)
    have h1 := val_lt a ha2
    have h2 := val_lt b hb2
    simp only [val] at h
    rw [val_shift a, val_shift b, hl2] at h
    rw [hl2] at h1
    have hxy : x.toNat = y.toNat := by
      rcases Nat.lt_trichotomy x.toNat y.toNat with h3 | h3 | h3
      · have h4 : (0 * 256 + x.toNat + 1) * 256 ^ b.length ≤ (0 * 256 + y.toNat) * 256 ^ b.length := Nat.mul_le_mul_right _ (by omega)
        rw [Nat.add_mul _ 1] at h4
        omega
      · exact h3
      · have h4 : (0 * 256 + y.toNat + 1) * 256 ^ b.length ≤ (0 * 256 + x.toNat) * 256 ^ b.length := Nat.mul_le_mul_right _ (by omega)
        rw [Nat.add_mul _ 1] at h4
        omega
    rw [hxy] at h
    have hv : val a 0 = val b 0 := by omega
    rw [val_inj a b ha2 hb2 hl2 hv, show x = y by omega]
/-- The digits of a number are the only row of its. -/
theorem digs_only (d : List Int) (hd : bytes d) (h8 : d.length ≤ 8) (hh : ∀ x l, d = x :: l → x ≠ 0) : digs (val d 0) = d ∧ val d 0 < 18446744073709551616 := by
  have hlt : val d 0 < 18446744073709551616 := by
    have h1 := val_lt d hd
    have h2 : 256 ^ d.length ≤ 256 ^ 8 := Nat.pow_le_pow_right (by omega) h8
    have h3 : (256 : Nat) ^ 8 = 18446744073709551616 := by decide
    omega
  have hg := digs_good _ hlt
  refine ⟨?_, hlt⟩
  refine val_inj _ _ hg.bytes hd ?_ hg.val
  rcases Nat.lt_trichotomy (digs (val d 0)).length d.length with h | h | h
  · have := val_len hg.bytes hd hh h
    rw [hg.val] at this
    omega
  · exact h
  · have := val_len hd hg.bytes (hg.head rfl) h
    rw [hg.val] at this
    omega
/-- What is read as a number is its form. -/
theorem uintL_inv (l : List Int) (a : Nat) (hl : bytes l) (he : (uintL l a).2.2 = 0) : ∃ n : Nat, n < 18446744073709551616 ∧ uintL l a = ((n : Int), (a : Int) + (formL n).length, 0) ∧ a ≤ l.length ∧ l.drop a = formL n ++ l.drop (a + (formL n).length) := by
  unfold uintL at he ⊢
  split at he
  · simp at he
  rename_i h1
  rw [if_neg h1]
  simp only [Int.toNat_natCast] at he ⊢
  split at he
  · simp at he
  rename_i h2
  rw [if_neg h2]
  split at he
  · simp at he
  rename_i h3
  rw [if_neg h3]
  split at he
  · simp at he
  rename_i h4
  rw [if_neg h4]
  clear he
  have hm := bytes_drop hl a
  have hdd : ∀ k, l.drop (a + k) = (l.drop a).drop k := fun k => by rw [List.drop_drop]
  generalize l.drop a = m at h2 h3 h4 hm hdd ⊢
  cases m with
  | nil => exact absurd rfl h2
  | cons x r =>
    have hr : rd (x :: r) (0 : Nat) = x := rfl
    rw [hr] at h3 h4 ⊢
    simp only [List.drop_succ_cons, List.drop_zero] at h3 h4 ⊢
    have hx := hm x (by simp)
    obtain ⟨d, rfl⟩ := Int.eq_ofNat_of_zero_le hx.1
    have hrb : bytes r := fun z hz => hm z (by simp [hz])
    have hd8 : d ≤ 8 := by
      rcases Nat.lt_or_ge 8 d with h | h
      · exact absurd (.inl (by omega)) h3
      · exact h
    have hdr : d ≤ r.length := by omega
    rw [Int.toNat_natCast]
    have hb : bytes (r.take d) := bytes_take hrb d
    have htl : (r.take d).length = d := by rw [List.length_take]; omega
    have hh : ∀ x l, r.take d = x :: l → x ≠ 0 := by
      intro y l2 e h0
      have hd0 : 0 < d := by rw [← htl, e]; simp
      refine h3 (.inr ⟨by omega, by omega, ?_⟩)
      cases r with
      | nil => simp at hdr; omega
      | cons z r =>
        obtain ⟨d, rfl⟩ : ∃ k, d = k + 1 := ⟨d - 1, by omega⟩
        rw [List.take_succ_cons] at e
        injection e with e1 e2
        show z = 0
        rw [e1, h0]
    obtain ⟨e1, e2⟩ := digs_only (r.take d) hb (by omega) hh
    refine ⟨val (r.take d) 0, e2, ?_, by omega, ?_⟩
    · rw [numL_val _ hb, Nat.mod_eq_of_lt e2, form_len, e1, htl]
      refine Prod.ext rfl (Prod.ext ?_ rfl)
      show (a : Int) + 1 + (d : Int) = (a : Int) + ((d + 1 : Nat) : Int)
      omega
    · rw [hdd, form_len, e1, htl]
      unfold formL
      rw [e1, htl]
      simp
/-- What is read as a row is its form. -/
theorem bytesL_inv (l : List Int) (a : Nat) (most : Int) (hl : bytes l) (hL : l.length < 18446744073709551616) (he : (bytesL l a most).2.2 = 0) : ∃ x : List Int, bytes x ∧ x.length < 18446744073709551616 ∧ (x.length : Int) ≤ most ∧ bytesL l a most = (x, (a : Int) + (rowL x).length, 0) ∧ a ≤ l.length ∧ l.drop a = rowL x ++ l.drop (a + (rowL x).length) := by
  rw [bytesL_eq] at he ⊢
  split at he
  · rename_i h; exact absurd he h
  rename_i h1
  rw [if_neg h1]
  split at he
  · simp at he
  rename_i h2
  rw [if_neg h2]
  split at he
  · simp at he
  rename_i h3
  rw [if_neg h3]
  obtain ⟨n, hn, e, ha, hd⟩ := uintL_inv l a hl (by exact Classical.byContradiction h1)
  rw [e] at h2 h3 ⊢
  simp only at h2 h3 ⊢
  have hfl : (formL n).length + (l.drop (a + (formL n).length)).length = (l.drop a).length := by rw [hd, List.length_append]
  have hle : a + (formL n).length ≤ l.length := by
    simp only [List.length_drop] at hfl
    have : (formL n).length = (digs n).length + 1 := rfl
    omega
  have hnl : n ≤ (l.drop (a + (formL n).length)).length := by rw [List.length_drop]; omega
  rw [show ((a : Int) + (formL n).length).toNat = a + (formL n).length by omega, Int.toNat_natCast]
  have hxl : ((l.drop (a + (formL n).length)).take n).length = n := by rw [List.length_take]; omega
  refine ⟨(l.drop (a + (formL n).length)).take n, bytes_take (bytes_drop hl _) _, by rw [hxl]; exact hn, by rw [hxl]; omega, ?_, ha, ?_⟩
  · refine Prod.ext rfl (Prod.ext ?_ rfl)
    simp only [rowL, hxl, List.length_append]
    omega
  · have hrl : (rowL ((l.drop (a + (formL n).length)).take n)).length = (formL n).length + n := by simp only [rowL, hxl, List.length_append]
    rw [hrl]
    unfold rowL
    have h9 : l.drop (a + ((formL n).length + n)) = (l.drop (a + (formL n).length)).drop n := by rw [List.drop_drop, Nat.add_assoc]
    rw [hxl, List.append_assoc, h9, List.take_append_drop]
    exact hd
end Go.Proofs.YtebjibkgefgalaaDoor.Hand
