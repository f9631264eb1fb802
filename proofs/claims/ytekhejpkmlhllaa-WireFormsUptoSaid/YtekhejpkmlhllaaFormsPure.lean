/- What calls of Go functions of this seat come to, as the rows need it: under the conditions that each theorem names. -/
import Derived.Test.YtekhejpkmlhllaaMWireFormsx1
import Derived.Test.YtekhejpkmlhllaaWirePure
import Derived.OpenShut
namespace Go.Proofs.Ytekhejpkmlhllaa.FormsP
open Go.RowKit Go.Proofs.YtekhejpkmlhllaaW.PrintWords Go.Proofs.YtekhejpkmlhllaaW.PrintLast Go.Proofs.YtekhejpkmlhllaaW.PrintMore
set_option linter.unusedVariables false
set_option linter.unusedSimpArgs false
open Go.Proofs.Ytekhejpkmlhllaa.MWireForms Go.Proofs.Ytekhejpkmlhllaa.Hand
theorem form_end (n : Int) (acc : List Int) (hn : ¬ n > 0) (ha : acc.length ≤ 8) : Ev (fun j => murmurationref03_Form.l0 j n acc) ((acc.length : Int) :: acc) := by
  refine Ev.step (f := fun _ => some _) (fun k => ?_) (Ev.now _)
  simp only [murmurationref03_Form.l0]
  rw [if_neg hn]
  simp only [Option.bind_some]
  rw [if_pos (by simp; omega), show (acc.length : Int) % 256 = acc.length by omega]
  rfl
theorem ev_form_loop : ∀ (k n : Nat) (acc : List Int), n < 256 ^ k → n < 18446744073709551616 → acc.length + k ≤ 8 →
    Ev (fun j => murmurationref03_Form.l0 j (n : Int) acc) (((digsF k n acc).length : Int) :: digsF k n acc) := by
  intro k
  induction k with
  | zero =>
    intro n acc h1 h2 h3
    have h0 : n = 0 := by simpa using h1
    subst h0
    exact form_end _ acc (by omega) (by omega)
  | succ k ih =>
    intro n acc h1 h2 h3
    by_cases h0 : n = 0
    · subst h0
      rw [digsF_zero]
      exact form_end _ acc (by omega) (by omega)
    · have e : digsF (k + 1) n acc = digsF k (n / 256) (((n % 256 : Nat) : Int) :: acc) := by simp [digsF, h0]
      have hd : n / 256 < 256 ^ k := Nat.div_lt_of_lt_mul (by rw [Nat.pow_succ] at h1; omega)
      have hI := ih (n / 256) (((n % 256 : Nat) : Int) :: acc) hd (by omega) (by simp; omega)
      rw [e]
      refine Ev.step (fun j => ?_) hI
      simp only [murmurationref03_Form.l0]
      rw [if_pos (by omega)]
      simp only [Option.bind_some]
      have t1 : Int.tmod (n : Int) 256 = ((n % 256 : Nat) : Int) := by simp [Int.tmod]
      have t2 : Int.tdiv (n : Int) 256 = ((n / 256 : Nat) : Int) := by simp [Int.tdiv]
      have t3 : IntKind.u64.wrap ((n / 256 : Nat) : Int) = ((n / 256 : Nat) : Int) := by
        simp only [IntKind.wrap, IntKind.bits, IntKind.signed]
        simp
        omega
      rw [if_pos (by simp; omega), t1, t2, t3, show (((n % 256 : Nat) : Int)) % 256 = ((n % 256 : Nat) : Int) by omega]
      rfl
theorem ev_form (n : Nat) (h : n < 18446744073709551616) : Ev (fun k => murmurationref03_Form.f k (n : Int)) (formL n) := ev_form_loop 8 n [] (by simpa using h) h (by simp)
theorem wrapn (n : Nat) (h : n < 18446744073709551616) : IntKind.u64.wrap (n : Int) = n := by
  simp only [IntKind.wrap, IntKind.bits, IntKind.signed]
  simp
  omega
theorem ev_row (l : List Int) (h : l.length < 100000) : Ev (fun k => murmurationref03_Row.f k l) (rowL l) := by
  have hf := formL_len l.length (by omega)
  have h1 := ev_form l.length (by omega)
  refine Ev.congr (f := fun k => (murmurationref03_Form.f k ((l.length : Nat) : Int)).bind fun t => (if t.length + l.length < 140737488355328 then (some (t ++ l)) else (none))) (fun k => by unfold murmurationref03_Row.f; rw [wrapn _ (by omega)]) (h1.bind ?_)
  exact Ev.congr (fun _ => if_pos (by omega)) (Ev.now _)
theorem ev_listform_loop (l : List (List Int)) (hl : ∀ x ∈ l, x.length < 100000) (hn : l.length < 100000) : ∀ (d i : Nat), i + d = l.length → ∀ acc : List Int, acc.length + d * 100009 < 140737488355328 →
    Ev (fun k => murmurationref03_ListForm.l0 k l acc (i : Int)) (acc ++ ((l.drop i).map rowL).flatten) := by
  intro d
  induction d with
  | zero =>
    intro i hi acc ha
    refine Ev.step (f := fun _ => some _) (fun k => ?_) (Ev.now _)
    simp only [murmurationref03_ListForm.l0]
    rw [if_neg (by omega), List.drop_eq_nil_of_le (by omega)]
    simp
  | succ d ih =>
    intro i hi acc ha
    have hlt : i < l.length := by omega
    have hr : rd_L1 l (i : Int) = l[i] := by
      unfold rd_L1
      rw [Int.toNat_natCast, List.getD_eq_getElem?_getD, List.getElem?_eq_getElem hlt]
      rfl
    have hx := hl l[i] (List.getElem_mem hlt)
    have hR := ev_row l[i] hx
    have hf := formL_len l[i].length (by omega)
    have hrl : (rowL l[i]).length = (formL l[i].length).length + l[i].length := by simp [rowL]
    have hI := ih (i + 1) (by omega) (acc ++ rowL l[i]) (by rw [List.length_append]; omega)
    have e : acc ++ ((l.drop i).map rowL).flatten = acc ++ rowL l[i] ++ ((l.drop (i + 1)).map rowL).flatten := by
      rw [List.drop_eq_getElem_cons hlt]
      simp only [List.map_cons, List.flatten_cons, List.append_assoc]
    rw [e]
    refine Ev.step (f := fun k => (murmurationref03_Row.f k l[i]).bind fun t125 => (if acc.length + t125.length < 140737488355328 then (murmurationref03_ListForm.l0 k l (acc ++ t125) (wrap64 ((i : Int) + 1))) else (none))) (fun k => ?_) (hR.bind ?_)
    · simp only [murmurationref03_ListForm.l0]
      rw [if_pos (by omega), if_pos (by omega), hr]
    · have hw : wrap64 ((i : Int) + 1) = ((i + 1 : Nat) : Int) := by unfold wrap64; omega
      refine Ev.congr (fun k => ?_) hI
      rw [if_pos (by omega), hw]
theorem ev_listform (l : List (List Int)) (hl : ∀ x ∈ l, x.length < 100000) (hn : l.length < 100000) : Ev (fun k => murmurationref03_ListForm.f k l) (listL l) := by
  have hf := formL_len l.length (by omega)
  have h1 := ev_form l.length (by omega)
  have h2 := ev_listform_loop l hl hn l.length 0 (by omega) (formL l.length) (by omega)
  refine Ev.congr (f := fun k => (murmurationref03_Form.f k ((l.length : Nat) : Int)).bind fun t => murmurationref03_ListForm.l0 k l t 0) (fun k => by unfold murmurationref03_ListForm.f; rw [wrapn _ (by omega)]) (h1.bind ?_)
  exact h2
end Go.Proofs.Ytekhejpkmlhllaa.FormsP
