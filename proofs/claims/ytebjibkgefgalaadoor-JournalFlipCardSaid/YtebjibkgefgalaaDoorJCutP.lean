/- What calls of Go functions of this seat come to, as the rows need it: under the conditions that each theorem names. -/
import Derived.Test.YtebjibkgefgalaaDoorJPB
namespace Go.Proofs.YtebjibkgefgalaaDoor.Jr
open Go.RowKit Go.Proofs.YtebjibkgefgalaaDoorW.PrintWords Go.Proofs.YtebjibkgefgalaaDoorW.PrintLast Go.Proofs.YtebjibkgefgalaaDoorW.PrintMore
set_option linter.unusedVariables false
set_option linter.unusedSimpArgs false
open Go.Proofs.YtebjibkgefgalaaDoor.Hand (bytes_take bytes_append)
theorem take_join (xs : List (List Int)) (j : Nat) : joinJ xs = joinJ (xs.take j) ++ joinJ (xs.drop j) := by rw [← joinJ_append, List.take_append_drop]
theorem join_mono (xs : List (List Int)) {i j : Nat} (h : i ≤ j) : (joinJ (xs.take i)).length ≤ (joinJ (xs.take j)).length := by
  have h1 := take_join (xs.take j) i
  rw [List.take_take, Nat.min_eq_left h] at h1
  rw [h1, List.length_append]
  omega
/-- Records' forms, cut anywhere, are read as those whose forms are whole. -/
theorem readJ_cut (xs : List (List Int)) (n j : Nat) (hl : okL xs) (hL : (joinJ xs).length < 18446744073709551616) (hj : j ≤ xs.length) (h1 : (joinJ (xs.take j)).length ≤ n) (h2 : n ≤ (joinJ xs).length) (h3 : j < xs.length → n < (joinJ (xs.take (j + 1))).length) :
    readJ ((joinJ xs).take n) = (xs.take j, (joinJ (xs.take j)).length) := by
  have hlt : okL (xs.take j) := fun x hx => hl x (List.mem_of_mem_take hx)
  have e := take_join xs j
  have e1 : (joinJ xs).take n = joinJ (xs.take j) ++ (joinJ (xs.drop j)).take (n - (joinJ (xs.take j)).length) := by
    rw [e, List.take_append, List.take_of_length_le h1]
  have hbn : bys ((joinJ (xs.drop j)).take (n - (joinJ (xs.take j)).length)) := bytes_take (bys_join (fun x hx => hl x (List.mem_of_mem_drop hx))) _
  have key : readJ ((joinJ (xs.drop j)).take (n - (joinJ (xs.take j)).length)) = ([], 0) := by
    by_cases hjl : j < xs.length
    · have h4 := h3 hjl
      have hx := hl _ (List.getElem_mem hjl)
      have h5 : joinJ (xs.drop j) = jform xs[j] ++ joinJ (xs.drop (j + 1)) := by rw [List.drop_eq_getElem_cons hjl, joinJ_cons]
      have h6 : (joinJ (xs.take (j + 1))).length = (joinJ (xs.take j)).length + (jform xs[j]).length := by
        rw [List.take_succ_eq_append_getElem hjl, joinJ_append, List.length_append]
        simp [joinJ]
      rw [h5, List.take_append_of_le_length (by omega)]
      exact readJ_part _ _ hx.1 hx.2 (by omega)
    · rw [List.drop_eq_nil_of_le (by omega)]
      rw [show joinJ [] = [] from rfl, List.take_nil]
      exact readJ_nil
  rw [e1, readJ_join _ _ hlt hbn (by rw [← e1, List.length_take]; omega), key]
  simp
end Go.Proofs.YtebjibkgefgalaaDoor.Jr
