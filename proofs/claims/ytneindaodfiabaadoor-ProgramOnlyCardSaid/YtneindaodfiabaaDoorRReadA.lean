/- What calls of Go functions of this seat come to, as the rows need it: under the conditions that each theorem names. -/
import Derived.Test.YtneindaodfiabaaDoorPRead
namespace Go.Proofs.YtneindaodfiabaaDoor.Prog6
open Go.RowKit Go.Proofs.YtneindaodfiabaaDoorW.PrintWords Go.Proofs.YtneindaodfiabaaDoorW.PrintLast Go.Proofs.YtneindaodfiabaaDoorW.PrintMore
set_option linter.unusedVariables false
set_option linter.unusedSimpArgs false
open Go.Proofs.YtneindaodfiabaaDoor.Hand (uintL uint_calls bytesL bytes_calls uintL_ok uintL_err U3 bytesL_eq ruint_calls rbytes_calls)
theorem numR_ok (l : List Int) (a most : Int) (h : (uintL l a).2.2 = 0) (h2 : ¬ most < (uintL l a).1) : numR l (a, false) most = ((uintL l a).1, ((uintL l a).2.1, false)) := by
  unfold numR
  rw [if_neg]
  rintro (h3 | h3 | h3)
  · exact h3 h
  · exact h2 h3
  · cases h3
theorem numR_bad (l : List Int) (a most : Int) (h : (uintL l a).2.2 ≠ 0 ∨ most < (uintL l a).1) : (numR l (a, false) most).2.2 = true := by
  unfold numR
  rw [if_pos]
  rcases h with h | h
  · exact .inl h
  · exact .inr (.inl h)
theorem numR_stuck (l : List Int) (s : Int × Bool) (m : Int) (h : s.2 = true) : (numR l s m).2.2 = true := by
  unfold numR
  rw [if_pos (.inr (.inr h))]
theorem textR_ok (l : List Int) (a : Int) (h : (bytesL l a 40).2.2 = 0) : textR l (a, false) = (strOfNums (bytesL l a 40).1, ((bytesL l a 40).2.1, false)) := by
  unfold textR
  rw [if_neg]
  rintro (h3 | h3)
  · exact h3 h
  · cases h3
theorem textR_bad (l : List Int) (a : Int) (h : (bytesL l a 40).2.2 ≠ 0) : (textR l (a, false)).2.2 = true := by
  unfold textR
  rw [if_pos (.inl h)]
theorem textR_stuck (l : List Int) (s : Int × Bool) (h : s.2 = true) : (textR l s).2.2 = true := by
  unfold textR
  rw [if_pos (.inr h)]
def tst (l : List Int) (s : Int × Bool) : Nat → Int × Bool
  | 0 => s
  | k + 1 => (textR l (tst l s k)).2
def tx (l : List Int) (s : Int × Bool) (k : Nat) : ByteArray := (textR l (tst l s k)).1
def tcs (l : List Int) (s : Int × Bool) : Nat → Array Value
  | 0 => #[.string ⟨#[]⟩, .string ⟨#[]⟩, .string ⟨#[]⟩]
  | 1 => #[.string (tx l s 0), .string ⟨#[]⟩, .string ⟨#[]⟩]
  | 2 => #[.string (tx l s 0), .string (tx l s 1), .string ⟨#[]⟩]
  | _ => #[.string (tx l s 0), .string (tx l s 1), .string (tx l s 2)]
theorem tcs_set (l : List Int) (s : Int × Bool) (k : Nat) (hk : k < 3) : (tcs l s k).setIfInBounds k (.string (tx l s k)) = tcs l s (k + 1) := by
  rcases k with _ | _ | _ | k
  · rfl
  · rfl
  · rfl
  · omega
theorem tcs_size (l : List Int) (s : Int × Bool) (k : Nat) : (tcs l s k).size = 3 := by
  rcases k with _ | _ | _ | k <;> rfl
def nst (l : List Int) (s : Int × Bool) : Nat → Int × Bool
  | 0 => s
  | k + 1 => (numR l (nst l s k) 2000).2
def nx (l : List Int) (s : Int × Bool) (k : Nat) : Int := (numR l (nst l s k) 2000).1
def ncs (l : List Int) (s : Int × Bool) : Nat → Array Value
  | 0 => #[.int .u64 0, .int .u64 0]
  | 1 => #[.int .u64 (nx l s 0), .int .u64 0]
  | _ => #[.int .u64 (nx l s 0), .int .u64 (nx l s 1)]
theorem ncs_set (l : List Int) (s : Int × Bool) (k : Nat) (hk : k < 2) : (ncs l s k).setIfInBounds k (.int .u64 (nx l s k)) = ncs l s (k + 1) := by
  rcases k with _ | _ | k
  · rfl
  · rfl
  · omega
theorem ncs_size (l : List Int) (s : Int × Bool) (k : Nat) : (ncs l s k).size = 2 := by
  rcases k with _ | _ | k <;> rfl
theorem insR_eq (l : List Int) (s : Int × Bool) : insR l s = (((numR l s 11).1, tx l (numR l s 11).2 0, tx l (numR l s 11).2 1, tx l (numR l s 11).2 2, nx l (tst l (numR l s 11).2 3) 0, nx l (tst l (numR l s 11).2 3) 1), nst l (tst l (numR l s 11).2 3) 2) := rfl
theorem tst_stuck (l : List Int) (s : Int × Bool) (k : Nat) (h : (tst l s k).2 = true) : ∀ d, (tst l s (k + d)).2 = true
  | 0 => h
  | d + 1 => textR_stuck l _ (tst_stuck l s k h d)
theorem nst_stuck (l : List Int) (s : Int × Bool) (k : Nat) (h : (nst l s k).2 = true) : ∀ d, (nst l s (k + d)).2 = true
  | 0 => h
  | d + 1 => numR_stuck l _ _ (nst_stuck l s k h d)
theorem insR_bad1 (l : List Int) (s : Int × Bool) (h : (numR l s 11).2.2 = true) : (insR l s).2.2 = true := by
  rw [insR_eq]
  exact nst_stuck l _ 0 (tst_stuck l _ 0 h 3) 2
theorem insR_bad2 (l : List Int) (s : Int × Bool) (k : Nat) (hk : k ≤ 3) (h : (tst l (numR l s 11).2 k).2 = true) : (insR l s).2.2 = true := by
  rw [insR_eq]
  have h2 := tst_stuck l _ k h (3 - k)
  rw [show k + (3 - k) = 3 by omega] at h2
  exact nst_stuck l _ 0 h2 2
theorem insR_bad3 (l : List Int) (s : Int × Bool) (k : Nat) (hk : k ≤ 2) (h : (nst l (tst l (numR l s 11).2 3) k).2 = true) : (insR l s).2.2 = true := by
  rw [insR_eq]
  have h2 := nst_stuck l _ k h (2 - k)
  rw [show k + (2 - k) = 2 by omega] at h2
  exact h2
theorem insR_stuck (l : List Int) (s : Int × Bool) (h : s.2 = true) : (insR l s).2.2 = true := insR_bad1 l s (numR_stuck l s 11 h)
theorem insK_stuck (l : List Int) (s : Int × Bool) (k : Nat) (h : (insK l s k).2.2 = true) : ∀ d, (insK l s (k + d)).2.2 = true
  | 0 => h
  | d + 1 => insR_stuck l _ (insK_stuck l s k h d)
theorem readP_bad (l : List Int) (k : Nat) (hk : k ≤ (numR l (0, false) 30).1.toNat) (h : (insK l (numR l (0, false) 30).2 k).2.2 = true) : readP l = none := by
  have h2 := insK_stuck l _ k h ((numR l (0, false) 30).1.toNat - k)
  rw [show k + ((numR l (0, false) 30).1.toNat - k) = (numR l (0, false) 30).1.toNat by omega] at h2
  unfold readP
  rw [if_pos (.inl h2)]
theorem readP_insbad (l : List Int) (k : Nat) (hk : k < (numR l (0, false) 30).1.toNat) (h : (insR l (insK l (numR l (0, false) 30).2 k).2).2.2 = true) : readP l = none :=
  readP_bad l (k + 1) hk h
end Go.Proofs.YtneindaodfiabaaDoor.Prog6
