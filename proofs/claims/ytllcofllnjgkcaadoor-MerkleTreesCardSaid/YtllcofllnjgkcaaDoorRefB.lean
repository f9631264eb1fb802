/- What calls of Go functions of this seat come to, as the rows need it: under the conditions that each theorem names. -/
import Derived.Test.YtllcofllnjgkcaaDoorRefA
namespace Go.Proofs.YtllcofllnjgkcaaDoor.Ref
open Go.RowKit Go.Proofs.YtllcofllnjgkcaaDoorW.PrintWords Go.Proofs.YtllcofllnjgkcaaDoorW.PrintLast Go.Proofs.YtllcofllnjgkcaaDoorW.PrintMore
set_option linter.unusedVariables false
set_option linter.unusedSimpArgs false
open Go.Proofs.YtllcofllnjgkcaaDoor.Sha
/-- The number that digits to the base 2^16 are, the lowest first. -/
def num : List Nat → Nat
  | [] => 0
  | d :: r => d + 65536 * num r
def small (l : List Nat) : Prop := ∀ x ∈ l, x < 65536
theorem num_take_succ : ∀ (l : List Nat) (k : Nat), k < l.length → num (l.take (k + 1)) = num (l.take k) + l.getD k 0 * 65536 ^ k
  | [], k, h => by simp at h
  | d :: r, 0, _ => by simp [num]
  | d :: r, k + 1, h => by
    have ih := num_take_succ r k (by simpa using h)
    simp only [List.take_succ_cons, num, ih, List.getD_cons_succ, Nat.pow_succ, Nat.mul_add]
    have : 65536 * (r.getD k 0 * 65536 ^ k) = r.getD k 0 * (65536 ^ k * 65536) := by ac_rfl
    omega
theorem num_set : ∀ (l : List Nat) (p d : Nat), p < l.length → num (l.set p d) + l.getD p 0 * 65536 ^ p = num l + d * 65536 ^ p
  | [], p, d, h => by simp at h
  | e :: r, 0, d, _ => by simp [num]; omega
  | e :: r, p + 1, d, h => by
    have ih := num_set r p d (by simpa using h)
    simp only [List.set_cons_succ, num, List.getD_cons_succ, Nat.pow_succ]
    have h1 : r.getD p 0 * (65536 ^ p * 65536) = 65536 * (r.getD p 0 * 65536 ^ p) := by ac_rfl
    have h2 : d * (65536 ^ p * 65536) = 65536 * (d * 65536 ^ p) := by ac_rfl
    rw [h1, h2]
    omega
theorem num_split : ∀ (l : List Nat) (k : Nat), k ≤ l.length → num l = num (l.take k) + 65536 ^ k * num (l.drop k)
  | l, 0, _ => by simp [num]
  | [], k + 1, h => by simp at h
  | d :: r, k + 1, h => by
    have ih := num_split r k (by simpa using h)
    simp only [List.take_succ_cons, List.drop_succ_cons, num, Nat.pow_succ]
    have h1 : 65536 ^ k * 65536 * num (r.drop k) = 65536 * (65536 ^ k * num (r.drop k)) := by ac_rfl
    rw [h1]
    omega
theorem num_lt : ∀ (l : List Nat), small l → num l < 65536 ^ l.length
  | [], _ => by simp [num]
  | d :: r, h => by
    have ih := num_lt r (fun x hx => h x (by simp [hx]))
    have hd := h d (by simp)
    simp only [num, List.length_cons, Nat.pow_succ]
    omega
theorem inner_step {out b : List Nat} {i k c V0 ai x : Nat} (hp : i + k < out.length) (hk : k < b.length) (hx : x = out.getD (i + k) 0 + ai * b.getD k 0 + c)
    (h : num out + c * 65536 ^ (i + k) = V0 + ai * 65536 ^ i * num (b.take k)) :
    num (out.set (i + k) (x % 65536)) + (x / 65536) * 65536 ^ (i + (k + 1)) = V0 + ai * 65536 ^ i * num (b.take (k + 1)) := by
  have h1 := num_set out (i + k) (x % 65536) hp
  have h2 := num_take_succ b k hk
  have hP : 65536 ^ (i + (k + 1)) = 65536 ^ (i + k) * 65536 := by rw [← Nat.add_assoc, Nat.pow_succ]
  have hab : ai * 65536 ^ i * (b.getD k 0 * 65536 ^ k) = ai * b.getD k 0 * 65536 ^ (i + k) := by rw [Nat.pow_add]; ac_rfl
  rw [h2, Nat.mul_add, hab, hP]
  generalize 65536 ^ (i + k) = P at *
  have hxP : x * P = (x % 65536) * P + (x / 65536) * (P * 65536) := by
    have e1 : (x / 65536) * (P * 65536) = (65536 * (x / 65536)) * P := by ac_rfl
    rw [e1, ← Nat.add_mul, Nat.mod_add_div]
  have hxP2 : x * P = out.getD (i + k) 0 * P + ai * b.getD k 0 * P + c * P := by rw [hx, Nat.add_mul, Nat.add_mul]
  omega
theorem outer_end {out b : List Nat} {i c V0 ai : Nat} (hb : b.length = 10) (ho : out.length = 10) (hs : small out) (hi : i ≤ 10)
    (h : num out + c * 65536 ^ (i + (10 - i)) = V0 + ai * 65536 ^ i * num (b.take (10 - i))) : num out = (V0 + ai * 65536 ^ i * num b) % 65536 ^ 10 := by
  have h1 := num_split b (10 - i) (by omega)
  have h2 := num_lt out hs
  rw [ho] at h2
  have e10 : i + (10 - i) = 10 := by omega
  rw [e10] at h
  have hM : ai * 65536 ^ i * (65536 ^ (10 - i) * num (b.drop (10 - i))) = 65536 ^ 10 * (ai * num (b.drop (10 - i))) := by
    have : (65536 : Nat) ^ 10 = 65536 ^ i * 65536 ^ (10 - i) := by rw [← Nat.pow_add, e10]
    rw [this]
    ac_rfl
  rw [h1, Nat.mul_add, hM, ← Nat.add_assoc, ← h, Nat.add_assoc, Nat.mul_comm c, ← Nat.mul_add, Nat.add_mul_mod_self_left, Nat.mod_eq_of_lt h2]
theorem outer_step {a b : List Nat} {i V : Nat} (hi : i < a.length) (hV : V = (num (a.take i) * num b) % 65536 ^ 10) :
    (V + a.getD i 0 * 65536 ^ i * num b) % 65536 ^ 10 = (num (a.take (i + 1)) * num b) % 65536 ^ 10 := by
  rw [num_take_succ a i hi, Nat.add_mul, hV, Nat.mod_add_mod]
end Go.Proofs.YtllcofllnjgkcaaDoor.Ref
