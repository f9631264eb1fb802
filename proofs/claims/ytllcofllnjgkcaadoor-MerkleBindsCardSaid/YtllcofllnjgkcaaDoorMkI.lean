/- What calls of Go functions of this seat come to, as the rows need it: under the conditions that each theorem names. -/
import Derived.Test.YtllcofllnjgkcaaDoorMkH
import Derived.ChangeKeysEq
namespace Go.Proofs.YtllcofllnjgkcaaDoor.Sha
open Go.RowKit Go.Proofs.YtllcofllnjgkcaaDoorW.PrintWords Go.Proofs.YtllcofllnjgkcaaDoorW.PrintLast Go.Proofs.YtllcofllnjgkcaaDoorW.PrintMore
set_option linter.unusedVariables false
set_option linter.unusedSimpArgs false
theorem cB : Tryd.prog.cellsOf 5 = 1 := by kernel_rfl
theorem plainB : Tryd.prog.plainKey 5 = true := by kernel_rfl
/-- Digests are compared byte by byte. -/
theorem eqItems_cb (a b : List Int) (d : Nat) (w : World) : ∀ is : List Nat, (∀ i ∈ is, i < a.length ∧ i < b.length) → (Op.eqItems (d + 1) 5 1 (cb a) (cb b) is).run Tryd.prog w = .ok (is.all fun i => rd a (i : Int) == rd b (i : Int)) w
  | [], _ => by simp [Op.eqItems]
  | i :: is, h => by
    obtain ⟨h1, h2⟩ := h i (by simp)
    have p1 := run_part_plain (P := Tryd.prog) (w := w) plainB (cb_get (xs := a) (j := i) (by omega))
    have p2 := run_part_plain (P := Tryd.prog) (w := w) plainB (cb_get (xs := b) (j := i) (by omega))
    have p3 := run_equalIn_int (P := Tryd.prog) (w := w) d 5 .u8 .u8 (rd a (i : Int)) (rd b (i : Int)) Tryd.underlying5
    have ih := eqItems_cb a b d w is (fun j hj => h j (by simp [hj]))
    simp only [Op.eqItems, Nat.mul_one, Sem.run_bind, p1, p2, p3, Result.andThen_ok]
    cases hz : (rd a (i : Int) == rd b (i : Int)) with
    | true => simpa [hz] using ih
    | false => simp [hz]
theorem info8 : ∃ i, Tryd.prog.info? 5 = some i := by
  obtain ⟨i, h, _⟩ := Option.map_eq_some_iff.1 info5
  exact ⟨i, h⟩
theorem eqD {a b : List Int} (ha : a.length = 32) (hb : b.length = 32) (w : World) : (Op.equalIn 10000 32 (vd a) (vd b)).run Tryd.prog w = .ok (decide (a = b)) w := by
  obtain ⟨i, hi⟩ := info8
  have h := run_equalIn_array (P := Tryd.prog) (w := w) 9999 (cb a) (cb b) Tryd.underlying32 hi
  rw [cB] at h
  rw [show (10000 : Nat) = 9999 + 1 from rfl, h, eqItems_cb a b 9998 w (List.range 32) (fun j hj => by have := List.mem_range.1 hj; omega)]
  congr 1
  rw [Bool.eq_iff_iff, List.all_eq_true, decide_eq_true_eq]
  constructor
  · intro hall
    apply List.ext_getElem (by omega)
    intro j h1 h2
    have := hall j (List.mem_range.2 (by omega))
    unfold rd at this
    rw [Int.toNat_natCast, List.getD_eq_getElem?_getD, List.getD_eq_getElem?_getD, List.getElem?_eq_getElem h1, List.getElem?_eq_getElem h2] at this
    simpa using this
  · rintro rfl j _
    simp
theorem cutD (A : Option Addr) (c : Nat) (rows : List (List Int)) (n : Nat) (hn : n ≤ rows.length) (hc : rows.length ≤ c) :
    ∃ (A' : Option Addr) (c' : Nat), (∀ W : World, (Instr.slice 34 (.slice A rows.length c) (some (.int .i64 (n : Int))) none none).run Tryd.prog W = .ok (.slice A' (rows.drop n).length c') W) ∧
      (∀ w : World, KD.C w A rows.length rows → KD.C w A' (rows.drop n).length (rows.drop n)) ∧ (rows.drop n).length ≤ c' := by
  obtain ⟨i0, hi, hz⟩ := Option.map_eq_some_iff.1 infoDG
  have hz' : i0.size = 32 := by simp at hz; exact hz.2.1
  have hel : Tryd.prog.elem 34 = 32 := by simp [Program.elem, Tryd.underlying34]
  refine ⟨if c = n then A else A.map (·.add (n * 32)), c - n, fun W => ?_, fun w h => ?_, by rw [List.length_drop]; omega⟩
  · rw [run_slice_l (P := Tryd.prog) W 34 A rows.length c (by rw [hel]; exact Tryd.underlying34) .i64 (n : Int) (by omega) (by omega), hel, List.length_drop]
    simp [sizeOf, typeInfo, hi, hz', sliced, Result.andThen]
  · exact Kd.C_drop h hn hc
/-- The top of rows, one pair after the other. -/
def topF (rows : List (List Int)) : Nat → List Int
  | 0 => rows.getD 0 []
  | j + 1 => pairI (topF rows j) (rows.getD (j + 1) [])
theorem up2 (a b : List Int) : upL [a, b] = [pairI a b] := by
  unfold upL upN
  generalize pairI = f
  simp [List.range_succ]
theorem up3 (a b c : List Int) : upL [a, b, c] = [pairI a b, c] := by
  unfold upL upN
  generalize pairI = f
  simp [List.range_succ]
theorem climb_topF {rows : List (List Int)} (h1 : 1 ≤ rows.length) (h3 : rows.length ≤ 3) : (climb rows).getD 0 [] = topF rows (rows.length - 1) := by
  match rows, h1, h3 with
  | [a], _, _ => rw [climb_end (by simp)]; rfl
  | [a, b], _, _ =>
    rw [climb_up (by simp), up2, climb_end (by simp)]
    show _ = pairI ([a, b].getD 0 []) ([a, b].getD 1 [])
    generalize pairI = f
    rfl
  | [a, b, c], _, _ =>
    rw [climb_up (by simp), up3, climb_up (by simp), up2, climb_end (by simp)]
    show _ = pairI (pairI ([a, b, c].getD 0 []) ([a, b, c].getD 1 [])) ([a, b, c].getD 2 [])
    generalize pairI = f
    rfl
theorem be8_small (k : Nat) (h : k < 256) : be8 k = [0, 0, 0, 0, 0, 0, 0, (k : Int)] := by
  unfold be8
  rw [Nat.div_eq_of_lt (show k < 72057594037927936 by omega), Nat.div_eq_of_lt (show k < 281474976710656 by omega), Nat.div_eq_of_lt (show k < 1099511627776 by omega), Nat.div_eq_of_lt (show k < 4294967296 by omega), Nat.div_eq_of_lt (show k < 16777216 by omega), Nat.div_eq_of_lt (show k < 65536 by omega), Nat.div_eq_of_lt h, Nat.mod_eq_of_lt h]
  rfl
end Go.Proofs.YtllcofllnjgkcaaDoor.Sha
