/- What calls of Go functions of this seat come to, as the rows need it: under the conditions that each theorem names. -/
import Derived.Test.YtaheoifjihkipaaAsN
namespace Go.Proofs.Ytaheoifjihkipaa.As
open Go.RowKit Go.Proofs.YtaheoifjihkipaaW.PrintWords Go.Proofs.YtaheoifjihkipaaW.PrintLast Go.Proofs.YtaheoifjihkipaaW.PrintMore
set_option linter.unusedVariables false
set_option linter.unusedSimpArgs false
/-- What a peer is held by: how often it was asked for the chunk, its load, its demerits. -/
def ownF (S : Nat → U) (D : Nat → Int) (T : Nat → Nat → Int) (n i k : Nat) : U := (T i k, (loadF S (k : Int) n : Int), D k)
def mayF (S : Nat → U) (D : Nat → Int) (win : Int) (n k : Nat) : Prop := D k < 3 ∧ (loadF S (k : Int) n : Int) < win
instance (S : Nat → U) (D : Nat → Int) (win : Int) (n k : Nat) : Decidable (mayF S D win n k) := by unfold mayF; infer_instance
/-- The best peer of the first ones, for a chunk; -1: none. -/
def bestF (S : Nat → U) (D : Nat → Int) (T : Nat → Nat → Int) (win : Int) (n i : Nat) : Nat → Int
  | 0 => -1
  | k + 1 => if mayF S D win n k ∧ (bestF S D T win n i k < 0 ∨ cmp3 (ownF S D T n i k) (ownF S D T n i (bestF S D T win n i k).toNat) < 0) then (k : Int) else bestF S D T win n i k
theorem bestF_rng (S : Nat → U) (D : Nat → Int) (T : Nat → Nat → Int) (win : Int) (n i : Nat) : ∀ k, -1 ≤ bestF S D T win n i k ∧ bestF S D T win n i k < k
  | 0 => by unfold bestF; omega
  | k + 1 => by
    have := bestF_rng S D T win n i k
    unfold bestF
    split <;> omega
end Go.Proofs.Ytaheoifjihkipaa.As
