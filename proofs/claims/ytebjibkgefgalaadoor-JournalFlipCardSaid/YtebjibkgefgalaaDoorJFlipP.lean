/- What calls of Go functions of this seat come to, as the rows need it: under the conditions that each theorem names. -/
import Derived.Test.YtebjibkgefgalaaDoorJCutP
namespace Go.Proofs.YtebjibkgefgalaaDoor.Jr
open Go.RowKit Go.Proofs.YtebjibkgefgalaaDoorW.PrintWords Go.Proofs.YtebjibkgefgalaaDoorW.PrintLast Go.Proofs.YtebjibkgefgalaaDoorW.PrintMore
set_option linter.unusedVariables false
set_option linter.unusedSimpArgs false
open Go.Proofs.YtebjibkgefgalaaDoor.Hand (bytesL bytesL_row formL rowL bytes_take bytes_append bytes_row)
theorem bys_set {l : List Int} (h : bys l) (i : Nat) {y : Int} (hy : 0 ≤ y ∧ y < 256) : bys (l.set i y) := fun z hz => by
  rcases List.mem_or_eq_of_mem_set hz with h1 | h1
  · exact h z h1
  · rw [h1]; exact hy
/-- A byte changed within a record: nothing ahead of it is changed, it is not read as it was. -/
theorem readJ_flip (xs : List (List Int)) (k p : Nat) (y : Int) (hl : okL xs) (hL : (joinJ xs).length < 18446744073709551616) (hk : k < xs.length) (hp : p < (xs[k]).length) (hy : 0 ≤ y ∧ y < 256) :
    (chk ((xs[k]).set p y) ≠ chk xs[k] ∧ readJ ((joinJ xs).set ((joinJ (xs.take k)).length + (formL (xs[k]).length).length + p) y) = (xs.take k, (joinJ (xs.take k)).length)) ∨
    (chk ((xs[k]).set p y) = chk xs[k] ∧ ∃ tl n, readJ ((joinJ xs).set ((joinJ (xs.take k)).length + (formL (xs[k]).length).length + p) y) = (xs.take k ++ (xs[k]).set p y :: tl, n)) := by
  have hx := hl _ (List.getElem_mem hk)
  have hlt : okL (xs.take k) := fun x hx => hl x (List.mem_of_mem_take hx)
  have e := take_join xs k
  have h5 : joinJ (xs.drop k) = jform xs[k] ++ joinJ (xs.drop (k + 1)) := by rw [List.drop_eq_getElem_cons hk, joinJ_cons]
  have hR : bys (joinJ (xs.drop (k + 1))) := bys_join (fun x hx => hl x (List.mem_of_mem_drop hx))
  rw [h5] at e
  generalize xs[k] = x at hx hp e ⊢
  generalize joinJ (xs.drop (k + 1)) = R at e hR
  have hxl : (x.set p y).length = x.length := List.length_set
  have hx' : okR (x.set p y) := ⟨by rw [hxl]; exact hx.1.1, by rw [hxl]; exact hx.1.2⟩
  have hb' : bys (x.set p y) := bys_set hx.2 p hy
  have e1 : (joinJ xs).set ((joinJ (xs.take k)).length + (formL x.length).length + p) y = joinJ (xs.take k) ++ (rowL (x.set p y) ++ (chk x ++ R)) := by
    rw [e, jform, rowL, rowL, hxl]
    simp only [List.append_assoc]
    rw [List.set_append_right _ _ (by omega), List.set_append_right _ _ (by omega)]
    rw [show (joinJ (xs.take k)).length + (formL x.length).length + p - (joinJ (xs.take k)).length - (formL x.length).length = p by omega]
    rw [List.set_append_left _ _ hp]
  have hlen : ((joinJ xs).set ((joinJ (xs.take k)).length + (formL x.length).length + p) y).length = (joinJ xs).length := List.length_set
  rw [e1] at hlen
  have hbm : bys (rowL (x.set p y) ++ (chk x ++ R)) := bytes_append (bytes_row hb' (by rw [hxl]; have := hx.1.2; omega)) (bytes_append (bys_chk x) hR)
  have hj := readJ_join (xs.take k) (rowL (x.set p y) ++ (chk x ++ R)) hlt hbm (by rw [hlen]; exact hL)
  have b1 := bytesL_row [] (x.set p y) (chk x ++ R) 8000 (by have := hx'.2; omega) (by have := hx'.2; omega)
  simp only [List.nil_append, List.length_nil] at b1
  have hc := chk_len x
  have hs : stepJ (rowL (x.set p y) ++ (chk x ++ R)) 0 = if chk (x.set p y) ≠ chk x then none else some (x.set p y, (rowL (x.set p y)).length + 8) := by
    unfold stepJ
    rw [b1]
    simp only []
    rw [show (((0 : Nat) : Int) + ((rowL (x.set p y)).length : Int)).toNat = (rowL (x.set p y)).length by omega, List.drop_left' rfl, List.take_left' hc]
    have h1 := hx'.1
    rw [if_neg (by simp only [List.length_append, Int.natCast_add]; omega)]
  rw [e1, hj]
  by_cases h : chk (x.set p y) = chk x
  · right
    refine ⟨h, ?_⟩
    rw [if_neg (fun h2 => h2 h)] at hs
    unfold readJ
    rw [recs_some hs]
    exact ⟨_, _, rfl⟩
  · left
    refine ⟨h, ?_⟩
    rw [if_pos h] at hs
    unfold readJ
    rw [recs_none hs]
    simp
theorem join_get (xs : List (List Int)) (k p : Nat) (hk : k < xs.length) (hp : p < (xs[k]).length) : (joinJ xs)[(joinJ (xs.take k)).length + (formL (xs[k]).length).length + p]? = some (xs[k])[p] := by
  have e := take_join xs k
  have h5 : joinJ (xs.drop k) = jform xs[k] ++ joinJ (xs.drop (k + 1)) := by rw [List.drop_eq_getElem_cons hk, joinJ_cons]
  rw [h5] at e
  generalize xs[k] = x at hp e ⊢
  rw [e, jform, rowL]
  simp only [List.append_assoc]
  rw [List.getElem?_append_right (by omega), List.getElem?_append_right (by omega)]
  rw [show (joinJ (xs.take k)).length + (formL x.length).length + p - (joinJ (xs.take k)).length - (formL x.length).length = p by omega]
  rw [List.getElem?_append_left hp, List.getElem?_eq_getElem hp]
theorem join_fits (xs : List (List Int)) (k : Nat) (hk : k < xs.length) : (joinJ (xs.take k)).length + (formL (xs[k]).length).length + (xs[k]).length + 8 ≤ (joinJ xs).length := by
  have e := take_join xs k
  have h5 : joinJ (xs.drop k) = jform xs[k] ++ joinJ (xs.drop (k + 1)) := by rw [List.drop_eq_getElem_cons hk, joinJ_cons]
  rw [h5] at e
  have h1 := jform_len xs[k]
  have h2 : (rowL xs[k]).length = (formL (xs[k]).length).length + (xs[k]).length := by simp [rowL]
  have h3 := congrArg List.length e
  simp only [List.length_append] at h3
  omega
theorem set_ne {x : List Int} {p : Nat} {y : Int} (hp : p < x.length) (h : y ≠ x[p]) : x.set p y ≠ x := fun e => h (by
  have h1 := congrArg (fun l => l[p]?) e
  simp only [List.getElem?_set_self hp, List.getElem?_eq_getElem hp] at h1
  exact Option.some.inj h1)
end Go.Proofs.YtebjibkgefgalaaDoor.Jr
