/- What calls of Go functions of this seat come to, as the rows need it: under the conditions that each theorem names. -/
import Derived.Test.YtllcofllnjgkcaaDoorChkC
import Derived.Test.YtllcofllnjgkcaaDoorMkI
namespace Go.Proofs.YtllcofllnjgkcaaDoor.Sha
open Go.RowKit Go.Proofs.YtllcofllnjgkcaaDoorW.PrintWords Go.Proofs.YtllcofllnjgkcaaDoorW.PrintLast Go.Proofs.YtllcofllnjgkcaaDoorW.PrintMore
set_option linter.unusedVariables false
set_option linter.unusedSimpArgs false
theorem chk_app : ∀ (n i : Nat) (d : List Int) (p q : List (List Int)) (t : List Int) (r : List (List Int)), chk n i d p = some (t, r) → chk n i d (p ++ q) = some (t, r ++ q) := by
  intro n
  induction n using Nat.strongRecOn with
  | ind n ih =>
    intro i d p q t r h
    by_cases h1 : n ≤ 1
    · rw [chk_end _ _ _ h1] at h ⊢
      cases h
      rfl
    · by_cases h2 : n ≤ oth i
      · rw [chk_alone _ _ h1 h2] at h ⊢
        exact ih _ (by omega) _ _ _ _ _ _ h
      · cases p with
        | nil => rw [chk_none _ h1 h2] at h; cases h
        | cons x p =>
          rw [List.cons_append, chk_cons _ _ _ h1 h2]
          rw [chk_cons _ _ _ h1 h2] at h
          exact ih _ (by omega) _ _ _ _ _ _ h
theorem upN_at (rows : List (List Int)) (n k : Nat) (h : k < n) : (upN rows n)[k]? = some (pairI (rows.getD (2 * k) []) (rows.getD (2 * k + 1) [])) := by
  unfold upN
  rw [List.getElem?_map, List.getElem?_range h]
  rfl
theorem up_at2 (rows : List (List Int)) (k : Nat) (h : 2 * k + 1 < rows.length) : (upL rows).getD k [] = pairI (rows.getD (2 * k) []) (rows.getD (2 * k + 1) []) := by
  have : (upL rows)[k]? = some (pairI (rows.getD (2 * k) []) (rows.getD (2 * k + 1) [])) := by
    unfold upL
    split
    · rw [List.getElem?_append_left (by rw [upN_len]; omega)]
      exact upN_at _ _ _ (by omega)
    · exact upN_at _ _ _ (by omega)
  rw [List.getD_eq_getElem?_getD, this, Option.getD_some]
theorem up_at1 (rows : List (List Int)) (k : Nat) (h : 2 * k + 1 = rows.length) : (upL rows).getD k [] = rows.getD (2 * k) [] := by
  have : (upL rows)[k]? = some (rows.getD (2 * k) []) := by
    unfold upL
    rw [if_pos (by omega), List.getElem?_append_right (by rw [upN_len]; omega), upN_len, show k - rows.length / 2 = 0 by omega, show rows.length - 1 = 2 * k by omega, List.getElem?_cons_zero]
  rw [List.getD_eq_getElem?_getD, this, Option.getD_some]
/-- The way up of a digest of a row, with its proof, ends at the top. -/
theorem chk_proof : ∀ (n : Nat) (rows : List (List Int)) (i : Nat), rows.length = n → i < n → chk n i (rows.getD i []) (proofP rows i) = some ((climb rows).getD 0 [], []) := by
  intro n
  induction n using Nat.strongRecOn with
  | ind n ih =>
    intro rows i hn hi
    by_cases h1 : n ≤ 1
    · obtain rfl : i = 0 := by omega
      rw [chk_end _ _ _ h1, proofP_end _ (by omega), climb_end (by omega)]
    · have hul := upL_len rows
      have hcl : climb rows = climb (upL rows) := climb_up (by omega)
      have hrec := ih ((n + 1) / 2) (by omega) (upL rows) (i / 2) (by omega) (by omega)
      rw [proofP_up i (by omega), hcl]
      by_cases h2 : n ≤ oth i
      · rw [if_neg (by omega), List.nil_append, chk_alone _ _ h1 h2]
        have he : i % 2 = 0 ∧ i + 1 = n := by unfold oth at h2; split at h2 <;> omega
        rw [up_at1 rows (i / 2) (by omega), show 2 * (i / 2) = i by omega] at hrec
        exact hrec
      · rw [if_pos (by omega)]
        show chk n i _ (_ :: proofP (upL rows) (i / 2)) = _
        rw [chk_cons _ _ _ h1 h2]
        by_cases h3 : i % 2 = 0
        · have ho : oth i = i + 1 := by unfold oth; rw [if_pos h3]
          rw [if_pos h3, ho]
          rw [up_at2 rows (i / 2) (by omega), show 2 * (i / 2) = i by omega] at hrec
          exact hrec
        · have ho : oth i = i - 1 := by unfold oth; rw [if_neg h3]
          rw [if_neg h3, ho]
          rw [up_at2 rows (i / 2) (by omega), show 2 * (i / 2) = i - 1 by omega, show i - 1 + 1 = i by omega] at hrec
          exact hrec
theorem leavesL_at (l : List Int) (i : Nat) (h : i < countN l.length) : (leavesL l).getD i [] = leafI i (chunkL l i) := by
  unfold leavesL leavesP
  rw [List.getD_eq_getElem?_getD, List.getElem?_map, List.getElem?_range h, Option.map_some, Option.getD_some]
/-- The proof of a chunk is checked. -/
theorem prove_top (l : List Int) (i : Nat) (h : i < countN l.length) : ∃ t, chk (countN l.length) i (leafI i (chunkL l i)) (proofOf l i) = some (t, []) ∧ rootI l.length t = rootOf l :=
  ⟨(climb (leavesL l)).getD 0 [], by rw [← leavesL_at l i h]; exact chk_proof _ (leavesL l) i (leavesL_len l) h, by unfold rootOf; rfl⟩
theorem chunk_size (l : List Int) (i : Nat) (h : i < countN l.length) : (chunkL l i).length = sizeN l.length i := by
  rw [chunk_len h]
  have := count_lt h
  unfold sizeN
  omega
theorem prove_yes (l : List Int) (i : Nat) (h : i < countN l.length) : checkB (rootOf l) l.length i (chunkL l i) (proofOf l i) = true := by
  obtain ⟨t, h1, h2⟩ := prove_top l i h
  unfold checkB
  rw [Int.toNat_natCast, Int.toNat_natCast, if_pos ⟨by omega, by omega, by omega, chunk_size l i h⟩]
  unfold checkR
  rw [h1, topB_nil, h2]
  exact decide_eq_true rfl
theorem prove_more (l : List Int) (i : Nat) (m : List Int) (h : i < countN l.length) : checkB (rootOf l) l.length i (chunkL l i) (proofOf l i ++ [m]) = false := by
  obtain ⟨t, h1, h2⟩ := prove_top l i h
  unfold checkB
  rw [Int.toNat_natCast, Int.toNat_natCast, if_pos ⟨by omega, by omega, by omega, chunk_size l i h⟩]
  unfold checkR
  rw [chk_app _ _ _ _ [m] _ _ h1, List.nil_append]
  exact topB_left _ _ _ (by simp)
theorem prove_less (l : List Int) (i : Nat) (h : i < countN l.length) (hp : 0 < (proofOf l i).length) : checkB (rootOf l) l.length i (chunkL l i) ((proofOf l i).take ((proofOf l i).length - 1)) = false := by
  obtain ⟨t, h1, h2⟩ := prove_top l i h
  unfold checkB
  rw [Int.toNat_natCast, Int.toNat_natCast, if_pos ⟨by omega, by omega, by omega, chunk_size l i h⟩]
  unfold checkR
  generalize proofOf l i = p at *
  have hpe : p.take (p.length - 1) ++ [p.getD (p.length - 1) []] = p := by
    rw [List.getD_eq_getElem?_getD, List.getElem?_eq_getElem (by omega)]
    rw [Option.getD_some, ← List.take_succ_eq_append_getElem (by omega), show p.length - 1 + 1 = p.length by omega, List.take_length]
  cases hq : chk (countN l.length) i (leafI i (chunkL l i)) (p.take (p.length - 1)) with
  | none => rfl
  | some r =>
    obtain ⟨t', r'⟩ := r
    have h3 := chk_app _ _ _ _ [p.getD (p.length - 1) []] _ _ hq
    rw [hpe, h1] at h3
    simp at h3
theorem check_size (R : List Int) (n i : Nat) (c : List Int) (p : List (List Int)) (h : c.length ≠ sizeN n i) : checkB R n i c p = false := by
  unfold checkB
  rw [Int.toNat_natCast, Int.toNat_natCast, if_neg (fun hh => h hh.2.2.2)]
theorem check_place (R : List Int) (n i : Int) (c : List Int) (p : List (List Int)) (h : n < 0 ∨ i < 0 ∨ (countN n.toNat : Int) ≤ i) : checkB R n i c p = false := by
  unfold checkB
  rw [if_neg (fun hh => by omega)]
theorem proofP_le2 : ∀ (rows : List (List Int)) (i : Nat), (proofP rows i).length ≤ rows.length := by
  intro rows
  induction hn : rows.length using Nat.strongRecOn generalizing rows with
  | ind n ih =>
    intro i
    by_cases h : rows.length ≤ 1
    · rw [proofP_end i h]; simp
    · have hu := upL_len rows
      have := ih (upL rows).length (by omega) (upL rows) rfl (i / 2)
      rw [proofP_up i h, List.length_append]
      have : (if oth i < rows.length then [rows.getD (oth i) []] else []).length ≤ 1 := by split <;> simp
      omega
theorem proofP_row : ∀ (rows : List (List Int)) (i : Nat), isRow rows → isRow (proofP rows i) := by
  intro rows
  induction hn : rows.length using Nat.strongRecOn generalizing rows with
  | ind n ih =>
    intro i hr
    by_cases h : rows.length ≤ 1
    · rw [proofP_end i h]; intro d hd; cases hd
    · have hu := upL_len rows
      have h2 := ih (upL rows).length (by omega) (upL rows) rfl (i / 2) (upL_row hr)
      rw [proofP_up i h]
      intro d hd
      rcases List.mem_append.1 hd with h3 | h3
      · split at h3
        · rename_i ho
          obtain rfl : d = rows.getD (oth i) [] := by simpa using h3
          exact isRow_getD hr _ ho
        · cases h3
      · exact h2 d h3
theorem proof_row (l : List Int) (i : Nat) : isRow (proofOf l i) := proofP_row _ _ (leaves_D l)
end Go.Proofs.YtllcofllnjgkcaaDoor.Sha
