/- What calls of Go functions of this seat come to, as the rows need it: under the conditions that each theorem names. -/
import Derived.Test.YtekhejpkmlhllaaRises
import Derived.OpenShut
namespace Go.Proofs.Ytekhejpkmlhllaa.Hand
open Go.RowKit Go.Proofs.YtekhejpkmlhllaaW.PrintWords Go.Proofs.YtekhejpkmlhllaaW.PrintLast Go.Proofs.YtekhejpkmlhllaaW.PrintMore
set_option linter.unusedVariables false
set_option linter.unusedSimpArgs false
/-! The forms of numbers, as rows of digits: their order is their numbers'. -/
def val : List Int → Nat → Nat
  | [], a => a
  | x :: l, a => val l (a * 256 + x.toNat)
theorem val_shift (l : List Int) (a : Nat) : val l a = a * 256 ^ l.length + val l 0 := by
  induction l generalizing a with
  | nil => simp [val]
  | cons x l ih =>
    simp only [val, List.length_cons]
    rw [ih (a * 256 + x.toNat), ih (0 * 256 + x.toNat), Nat.pow_succ]
    simp only [Nat.add_mul, Nat.zero_mul, Nat.zero_add, Nat.mul_assoc]
    rw [Nat.mul_comm 256 (256 ^ l.length)]
    omega
theorem val_lt (l : List Int) (h : bytes l) : val l 0 < 256 ^ l.length := by
  induction l with
  | nil => simp [val]
  | cons x l ih =>
    have h1 := h x (by simp)
    have h2 := ih (fun y hy => h y (by simp [hy]))
    simp only [val, List.length_cons]
    rw [val_shift, Nat.pow_succ]
    have : x.toNat ≤ 255 := by omega
    have h3 : (0 * 256 + x.toNat) * 256 ^ l.length ≤ 255 * 256 ^ l.length := Nat.mul_le_mul_right _ (by omega)
    omega
structure Good (n m : Nat) (acc : List Int) : Prop where
  bytes : bytes acc
  val : val acc m = n
  head : m = 0 → ∀ x l, acc = x :: l → x ≠ 0
theorem digs_good (n : Nat) (h : n < 18446744073709551616) : Good n 0 (digs n) := by
  have key : ∀ d m acc, m ≤ d → At n m acc → Good n m acc → Good n 0 (digs n) := by
    intro d
    induction d with
    | zero => intro m acc hm ha hg; obtain rfl : m = 0 := by omega
              rw [← ha.done]; exact hg
    | succ d ih =>
      intro m acc hm ha hg
      by_cases h0 : m = 0
      · subst h0; rw [← ha.done]; exact hg
      · refine ih _ _ (by omega) (ha.step (by omega)).2 ⟨?_, ?_, ?_⟩
        · intro x hx
          rcases List.mem_cons.1 hx with rfl | hx
          · omega
          · exact hg.bytes x hx
        · simp only [val, Int.toNat_natCast]
          rw [show m / 256 * 256 + m % 256 = m by omega]
          exact hg.val
        · intro hz x l e
          injection e with e1 e2
          subst e1
          omega
  exact key n n [] (Nat.le_refl _) (At.start n h) ⟨(fun x hx => by cases hx), rfl, (fun _ x l e => by cases e)⟩
theorem val_cons_pos (x : Int) (l : List Int) (h : bytes (x :: l)) (hx : x ≠ 0) : 256 ^ l.length ≤ val (x :: l) 0 := by
  have h1 := h x (by simp)
  simp only [val]
  rw [val_shift]
  have : 1 * 256 ^ l.length ≤ (0 * 256 + x.toNat) * 256 ^ l.length := Nat.mul_le_mul_right _ (by omega)
  omega
/-- More digits, a greater number. -/
theorem val_len {a b : List Int} (ha : bytes a) (hb : bytes b) (hh : ∀ x l, b = x :: l → x ≠ 0) (h : a.length < b.length) : val a 0 < val b 0 := by
  cases b with
  | nil => simp at h
  | cons x l =>
    have h1 := val_lt a ha
    have h2 := val_cons_pos x l hb (hh x l rfl)
    have h3 : 256 ^ a.length ≤ 256 ^ l.length := Nat.pow_le_pow_right (by omega) (by simpa using Nat.lt_succ_iff.1 h)
    omega
def u8 (x : Int) : UInt8 := UInt8.ofNat x.toNat
theorem u8_lt {x y : Int} (hx : 0 ≤ x ∧ x < 256) (hy : 0 ≤ y ∧ y < 256) : (u8 x < u8 y) ↔ x < y := by
  unfold u8
  rw [UInt8.lt_iff_toNat_lt]
  simp only [UInt8.toNat_ofNat']
  omega
theorem u8_inj {x y : Int} (hx : 0 ≤ x ∧ x < 256) (hy : 0 ≤ y ∧ y < 256) : (u8 x = u8 y) ↔ x = y := by
  constructor
  · intro h
    have h2 := congrArg UInt8.toNat h
    unfold u8 at h2
    simp only [UInt8.toNat_ofNat'] at h2
    omega
  · rintro rfl; rfl
theorem less_iff (a b : List Int) (ha : bytes a) (hb : bytes b) (h : a.length = b.length) : Op.bytesLess (a.map u8) (b.map u8) = decide (val a 0 < val b 0) := by
  induction a generalizing b with
  | nil =>
    cases b with
    | nil => simp [Op.bytesLess, val]
    | cons y b => simp at h
  | cons x a ih =>
    cases b with
    | nil => simp at h
    | cons y b =>
      have hx := ha x (by simp)
      have hy := hb y (by simp)
      have ha' : bytes a := fun z hz => ha z (by simp [hz])
      have hb' : bytes b := fun z hz => hb z (by simp [hz])
      have hl : a.length = b.length := by simpa using h
      have h1 := val_lt a ha'
      have h2 := val_lt b hb'
      rw [hl] at h1
      have ea : val (x :: a) 0 = (0 * 256 + x.toNat) * 256 ^ b.length + val a 0 := by rw [← hl]; exact val_shift a (0 * 256 + x.toNat)
      have eb : val (y :: b) 0 = (0 * 256 + y.toNat) * 256 ^ b.length + val b 0 := val_shift b (0 * 256 + y.toNat)
      have HV : (val (x :: a) 0 < val (y :: b) 0) ↔ (x < y ∨ x = y ∧ val a 0 < val b 0) := by
        rw [ea, eb]
        generalize 256 ^ b.length = p at *
        rcases Int.lt_trichotomy x y with hc | hc | hc
        · have : (0 * 256 + x.toNat + 1) * p ≤ (0 * 256 + y.toNat) * p := Nat.mul_le_mul_right _ (by omega)
          rw [Nat.add_mul _ 1] at this
          constructor
          · intro _; exact .inl hc
          · intro _; omega
        · subst hc
          constructor
          · intro h; exact .inr ⟨rfl, by omega⟩
          · rintro (h | ⟨_, h⟩) <;> omega
        · have : (0 * 256 + y.toNat + 1) * p ≤ (0 * 256 + x.toNat) * p := Nat.mul_le_mul_right _ (by omega)
          rw [Nat.add_mul _ 1] at this
          constructor
          · intro h; omega
          · rintro (h | ⟨_, h⟩) <;> omega
      have HU : (u8 x < u8 y) ↔ x < y := u8_lt hx hy
      have HE : (u8 x = u8 y) ↔ x = y := u8_inj hx hy
      simp only [List.map_cons, Op.bytesLess, ih b ha' hb' hl]
      rw [Bool.eq_iff_iff]
      simp only [Bool.or_eq_true, Bool.and_eq_true, decide_eq_true_eq, beq_iff_eq, HU, HE, HV]
theorem digs_len_lt {n m : Nat} (hn : n < 18446744073709551616) (hm : m < 18446744073709551616) (h : (digs n).length < (digs m).length) : n < m := by
  have gn := digs_good n hn
  have gm := digs_good m hm
  have := val_len gn.bytes gm.bytes (gm.head rfl) h
  rw [gn.val, gm.val] at this
  exact this
theorem form_less (n m : Nat) (hn : n < 18446744073709551616) (hm : m < 18446744073709551616) : Op.bytesLess ((formL n).map u8) ((formL m).map u8) = decide (n < m) := by
  have gn := digs_good n hn
  have gm := digs_good m hm
  have ln := digs_len n hn
  have lm := digs_len m hm
  unfold formL
  simp only [List.map_cons, Op.bytesLess]
  rcases Nat.lt_trichotomy (digs n).length (digs m).length with hc | hc | hc
  · have e1 : u8 ((digs n).length : Int) < u8 ((digs m).length : Int) := (u8_lt (by omega) (by omega)).2 (by omega)
    have := digs_len_lt hn hm hc
    simp [e1, this]
  · rw [less_iff _ _ gn.bytes gm.bytes hc, gn.val, gm.val, hc]
    have e1 : ¬ (u8 ((digs m).length : Int) < u8 ((digs m).length : Int)) := fun h => by have := (u8_lt (by omega) (by omega)).1 h; omega
    simp [e1]
  · have e1 : ¬ (u8 ((digs n).length : Int) < u8 ((digs m).length : Int)) := fun h => by have := (u8_lt (by omega) (by omega)).1 h; omega
    have e2 : ¬ (u8 ((digs n).length : Int) = u8 ((digs m).length : Int)) := fun h => by have := (u8_inj (by omega) (by omega)).1 h; omega
    have := digs_len_lt hm hn hc
    have h3 : ¬ n < m := by omega
    simp [e1, e2, h3]
theorem form_inj {n m : Nat} (hn : n < 18446744073709551616) (hm : m < 18446744073709551616) (h : (formL n).map u8 = (formL m).map u8) : n = m := by
  have h1 := form_less n m hn hm
  have h2 := form_less m n hm hn
  rw [h] at h1
  rw [h] at h2
  have h3 : ∀ l : List UInt8, Op.bytesLess l l = false := by
    intro l
    induction l with
    | nil => rfl
    | cons x l ih => simp [Op.bytesLess, ih]
  rw [h3] at h1 h2
  have := of_decide_eq_false h1.symm
  have := of_decide_eq_false h2.symm
  omega
theorem st_list (n : Nat) : (st n).toList = (formL n).map u8 := by
  rw [ByteArray.toList_eq]
  rfl
theorem st_size (n : Nat) : (st n).size = (formL n).length := strOfNums_size _
theorem ext_list (s : ByteArray) (k : Nat) : (s.extract 0 k).toList = s.toList.take k := by
  rw [ByteArray.toList_eq, ByteArray.toList_eq]
  simp [ByteArray.data_extract]
theorem form_len (n : Nat) : (formL n).length = (digs n).length + 1 := rfl
/-- Two unlike numbers' forms: none is the beginning of the other one. -/
theorem form_apart {n m : Nat} (hn : n < 18446744073709551616) (hm : m < 18446744073709551616) (h : n ≠ m) :
    ((formL n).map u8).take (min (formL n).length (formL m).length) ≠ ((formL m).map u8).take (min (formL n).length (formL m).length) := by
  intro e
  have ln := digs_len n hn
  have lm := digs_len m hm
  have e0 := congrArg List.head? e
  rw [form_len, form_len, show min ((digs n).length + 1) ((digs m).length + 1) = min (digs n).length (digs m).length + 1 by omega] at e0
  simp only [formL, List.map_cons, List.take_succ_cons, List.head?_cons, Option.some.injEq] at e0
  have e1 := (u8_inj (x := ((digs n).length : Int)) (y := ((digs m).length : Int)) (by omega) (by omega)).1 e0
  have e2 : (digs n).length = (digs m).length := by omega
  rw [form_len, form_len, e2, Nat.min_self] at e
  rw [List.take_of_length_le (by rw [List.length_map, form_len]; omega), List.take_of_length_le (by rw [List.length_map, form_len]; omega)] at e
  exact h (form_inj hn hm e)
theorem facts (n m : Nat) (hn : n < 18446744073709551616) (hm : m < 18446744073709551616) : Facts n m 0 where
  less := by rw [st_list, st_list]; exact form_less n m hn hm
  eq := by
    rw [st_list, st_list]
    by_cases h : n = m
    · subst h; simp
    · have : ¬ ((formL n).map u8 = (formL m).map u8) := fun e => h (form_inj hn hm e)
      rw [decide_eq_false h]
      exact beq_eq_false_iff_ne.2 this
  lo := by rw [st_size, form_len]; omega
  hi := by have := digs_len n hn; rw [st_size, form_len]; omega
  hi2 := by have := digs_len m hm; rw [st_size, form_len]; omega
  apart := fun h => by
    rw [ext_list, ext_list, st_list, st_list, st_size, st_size]
    exact beq_eq_false_iff_ne.2 (form_apart hn hm h)
end Go.Proofs.Ytekhejpkmlhllaa.Hand
namespace Go.Proofs.Ytekhejpkmlhllaa.Hand
open Go.RowKit Go.Proofs.YtekhejpkmlhllaaW.PrintWords Go.Proofs.YtekhejpkmlhllaaW.PrintLast Go.Proofs.YtekhejpkmlhllaaW.PrintMore
set_option linter.unusedVariables false
set_option linter.unusedSimpArgs false
theorem wireRises_walk (a0 a1 : Int) (w : World) (w0 : (Lit.int .u64 a0).wf = true) (w1 : (Lit.int .u64 a1).wf = true) :
    Calls Try.prog 3 #[.int .u64 a0, .int .u64 a1] w fun e w' => e = .returned (.bool true) ∧ Below w.heap.size w w' := by
  have b0 := bounds_u64 w0
  have b1 := bounds_u64 w1
  obtain ⟨n, rfl⟩ := Int.eq_ofNat_of_zero_le b0.1
  obtain ⟨m, rfl⟩ := Int.eq_ofNat_of_zero_le b1.1
  exact rises_calls n m w (by omega) (by omega) (facts n m (by omega) (by omega))
end Go.Proofs.Ytekhejpkmlhllaa.Hand
