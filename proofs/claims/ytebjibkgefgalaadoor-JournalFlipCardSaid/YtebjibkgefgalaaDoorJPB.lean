/- What calls of Go functions of this seat come to, as the rows need it: under the conditions that each theorem names. -/
import Derived.Test.YtebjibkgefgalaaDoorJP
namespace Go.Proofs.YtebjibkgefgalaaDoor.Jr
open Go.RowKit Go.Proofs.YtebjibkgefgalaaDoorW.PrintWords Go.Proofs.YtebjibkgefgalaaDoorW.PrintLast Go.Proofs.YtebjibkgefgalaaDoorW.PrintMore
set_option linter.unusedVariables false
set_option linter.unusedSimpArgs false
open Go.Proofs.YtebjibkgefgalaaDoor.Hand (uintL bytesL bytesL_eq formL rowL uintL_form bytesL_row uintL_inv bytesL_inv digs digs_len bytes_form bytes_append bytes_row bytes_drop bytes_take formL_len)
open Go.Proofs.YtebjibkgefgalaaDoor.Sha (shaI shaI_len)
theorem bys_chk (x : List Int) : bys (chk x) := fun y hy => Sha.shaI_bytes x y (List.mem_of_mem_take hy)
theorem bys_jform {x : List Int} (hx : bys x) (h : x.length < 18446744073709551616) : bys (jform x) := bytes_append (bytes_row hx h) (bys_chk x)
def okL (l : List (List Int)) : Prop := ∀ x ∈ l, okR x ∧ bys x
theorem bys_join : ∀ {l : List (List Int)}, okL l → bys (joinJ l)
  | [], _ => fun x hx => by cases hx
  | x :: l, h => by
    rw [joinJ_cons]
    exact bytes_append (bys_jform (h x (by simp)).2 (by have := (h x (by simp)).1.2; omega)) (bys_join (fun y hy => h y (by simp [hy])))
theorem join_le : ∀ {l : List (List Int)}, okL l → (joinJ l).length ≤ l.flatten.length + 17 * l.length
  | [], _ => by simp [joinJ]
  | x :: l, h => by
    have h1 := join_le (l := l) (fun y hy => h y (by simp [hy]))
    have h2 := jform_len x
    have h3 := (rowL_len x (by have := (h x (by simp)).1.2; omega)).2
    rw [joinJ_cons]
    simp only [List.length_append, List.flatten_cons, List.length_cons]
    omega
theorem uintL_shift (a m : List Int) (k : Nat) : uintL (a ++ m) ((a.length + k : Nat) : Int) = if (uintL m (k : Nat)).2.2 = 0 then ((uintL m (k : Nat)).1, (a.length : Int) + (uintL m (k : Nat)).2.1, 0) else (0, 0, (uintL m (k : Nat)).2.2) := by
  unfold uintL
  have hd : (a ++ m).drop (((a.length + k : Nat) : Int)).toNat = m.drop k := by rw [Int.toNat_natCast, List.drop_append]; simp
  have hk : ((k : Nat) : Int).toNat = k := Int.toNat_natCast k
  by_cases h1 : (k : Int) < 0 ∨ (m.length : Int) < k
  · rw [if_pos h1, if_pos (by simp only [List.length_append]; omega)]
    simp
  · rw [if_neg h1, if_neg (by simp only [List.length_append]; omega), hd, hk]
    split
    · simp
    · split
      · simp
      · split
        · simp
        · simp only [if_true]
          refine Prod.ext rfl (Prod.ext ?_ rfl)
          simp only [Int.natCast_add]
          omega
theorem bytesL_shift (a m : List Int) (k : Nat) (most : Int) (hm : bys m) : (((bytesL m (k : Nat) most).2.2 ≠ 0 ↔ (bytesL (a ++ m) ((a.length + k : Nat) : Int) most).2.2 ≠ 0)) ∧ ((bytesL m (k : Nat) most).2.2 = 0 → bytesL (a ++ m) ((a.length + k : Nat) : Int) most = ((bytesL m (k : Nat) most).1, (a.length : Int) + (bytesL m (k : Nat) most).2.1, 0)) := by
  have hs := uintL_shift a m k
  by_cases h0 : (uintL m (k : Nat)).2.2 = 0
  · rw [if_pos h0] at hs
    have hok := Hand.uintL_ok m (k : Nat) hm h0
    have E1 : bytesL m (k : Nat) most = if most < 0 ∨ most < (uintL m (k : Nat)).1 then ([], 0, 3) else if (m.length : Int) - (uintL m (k : Nat)).2.1 < (uintL m (k : Nat)).1 then ([], 0, 4) else ((m.drop (uintL m (k : Nat)).2.1.toNat).take (uintL m (k : Nat)).1.toNat, (uintL m (k : Nat)).2.1 + (uintL m (k : Nat)).1, 0) := by
      rw [bytesL_eq, if_neg (fun h => h h0)]
    have E2 : bytesL (a ++ m) ((a.length + k : Nat) : Int) most = if most < 0 ∨ most < (uintL m (k : Nat)).1 then ([], 0, 3) else if ((a ++ m).length : Int) - ((a.length : Int) + (uintL m (k : Nat)).2.1) < (uintL m (k : Nat)).1 then ([], 0, 4) else (((a ++ m).drop ((a.length : Int) + (uintL m (k : Nat)).2.1).toNat).take (uintL m (k : Nat)).1.toNat, (a.length : Int) + (uintL m (k : Nat)).2.1 + (uintL m (k : Nat)).1, 0) := by
      rw [bytesL_eq, hs, if_neg (fun h => h rfl)]
    rw [E1, E2]
    by_cases h1 : most < 0 ∨ most < (uintL m (k : Nat)).1
    · rw [if_pos h1, if_pos h1]
      simp
    · rw [if_neg h1, if_neg h1]
      by_cases h2 : (m.length : Int) - (uintL m (k : Nat)).2.1 < (uintL m (k : Nat)).1
      · rw [if_pos h2, if_pos (by simp only [List.length_append, Int.natCast_add]; omega)]
        simp
      · rw [if_neg h2, if_neg (by simp only [List.length_append, Int.natCast_add]; omega)]
        have hd : (a ++ m).drop ((a.length : Int) + (uintL m (k : Nat)).2.1).toNat = m.drop ((uintL m (k : Nat)).2.1).toNat := by
          rw [show ((a.length : Int) + (uintL m (k : Nat)).2.1).toNat = a.length + ((uintL m (k : Nat)).2.1).toNat by omega, List.drop_append]
          simp
        rw [hd]
        simp
        omega
  · rw [if_neg h0] at hs
    have E1 : bytesL m (k : Nat) most = ([], 0, (uintL m (k : Nat)).2.2) := by rw [bytesL_eq, if_pos h0]
    have E2 : bytesL (a ++ m) ((a.length + k : Nat) : Int) most = ([], 0, (uintL m (k : Nat)).2.2) := by rw [bytesL_eq, hs, if_pos h0]
    rw [E1, E2]
    simp [h0]
theorem stepJ_shift (a m : List Int) (k : Nat) (hm : bys m) (hL : m.length < 18446744073709551616) : stepJ (a ++ m) (a.length + k) = (stepJ m k).map (fun r => (r.1, a.length + r.2)) := by
  obtain ⟨h1, h2⟩ := bytesL_shift a m k 8000 hm
  by_cases h0 : (bytesL m (k : Nat) 8000).2.2 = 0
  · have hs := h2 h0
    obtain ⟨x, _, _, _, e, _, _⟩ := bytesL_inv m k 8000 hm hL h0
    have hn : 0 ≤ (bytesL m (k : Nat) 8000).2.1 := by rw [e]; simp only []; omega
    have E1 : stepJ m k = if (bytesL m (k : Nat) 8000).1.length = 0 ∨ (m.length : Int) - (bytesL m (k : Nat) 8000).2.1 < 8 then none else if chk (bytesL m (k : Nat) 8000).1 ≠ (m.drop (bytesL m (k : Nat) 8000).2.1.toNat).take 8 then none else some ((bytesL m (k : Nat) 8000).1, (bytesL m (k : Nat) 8000).2.1.toNat + 8) := by
      unfold stepJ
      by_cases h3 : (bytesL m (k : Nat) 8000).1.length = 0 ∨ (m.length : Int) - (bytesL m (k : Nat) 8000).2.1 < 8
      · rw [if_pos (.inr h3), if_pos h3]
      · rw [if_neg (by rintro (h | h); exact h h0; exact h3 h), if_neg h3]
    have E2 : stepJ (a ++ m) (a.length + k) = if (bytesL m (k : Nat) 8000).1.length = 0 ∨ ((a ++ m).length : Int) - ((a.length : Int) + (bytesL m (k : Nat) 8000).2.1) < 8 then none else if chk (bytesL m (k : Nat) 8000).1 ≠ ((a ++ m).drop ((a.length : Int) + (bytesL m (k : Nat) 8000).2.1).toNat).take 8 then none else some ((bytesL m (k : Nat) 8000).1, ((a.length : Int) + (bytesL m (k : Nat) 8000).2.1).toNat + 8) := by
      unfold stepJ
      rw [hs]
      by_cases h3 : (bytesL m (k : Nat) 8000).1.length = 0 ∨ ((a ++ m).length : Int) - ((a.length : Int) + (bytesL m (k : Nat) 8000).2.1) < 8
      · rw [if_pos (.inr h3), if_pos h3]
      · rw [if_neg (by rintro (h | h); exact h rfl; exact h3 h), if_neg h3]
    rw [E1, E2]
    have hd : (a ++ m).drop ((a.length : Int) + (bytesL m (k : Nat) 8000).2.1).toNat = m.drop ((bytesL m (k : Nat) 8000).2.1).toNat := by
      rw [show ((a.length : Int) + (bytesL m (k : Nat) 8000).2.1).toNat = a.length + ((bytesL m (k : Nat) 8000).2.1).toNat by omega, List.drop_append]
      simp
    rw [hd]
    by_cases h3 : (bytesL m (k : Nat) 8000).1.length = 0 ∨ (m.length : Int) - (bytesL m (k : Nat) 8000).2.1 < 8
    · rw [if_pos h3, if_pos (by simp only [List.length_append, Int.natCast_add]; omega)]
      rfl
    · rw [if_neg h3, if_neg (by simp only [List.length_append, Int.natCast_add]; omega)]
      split
      · rfl
      · simp only [Option.map_some]
        congr 2
        omega
  · have E1 : stepJ m k = none := by unfold stepJ; rw [if_pos (.inl h0)]
    have E2 : stepJ (a ++ m) (a.length + k) = none := by unfold stepJ; rw [if_pos (.inl (h1.1 h0))]
    rw [E1, E2]
    rfl
theorem recs_shift (a m : List Int) (hm : bys m) (hL : m.length < 18446744073709551616) : ∀ f k, recs (a ++ m) f (a.length + k) = ((recs m f k).1, a.length + (recs m f k).2)
  | 0, k => rfl
  | f + 1, k => by
    have hs := stepJ_shift a m k hm hL
    cases h : stepJ m k with
    | none =>
      rw [h] at hs
      rw [recs_none h, recs_none hs]
    | some r =>
      obtain ⟨x, k'⟩ := r
      rw [h] at hs
      rw [recs_some h, recs_some (x := x) (a' := a.length + k') hs, recs_shift a m hm hL f k']
/-- What stands behind whole records changes none of them. -/
theorem readJ_join (l : List (List Int)) (m : List Int) (hl : okL l) (hm : bys m) (hL : (joinJ l ++ m).length < 18446744073709551616) : readJ (joinJ l ++ m) = (l ++ (readJ m).1, (joinJ l).length + (readJ m).2) := by
  have key : ∀ (l1 l2 : List (List Int)), okL l2 → bys (joinJ l1 ++ (joinJ l2 ++ m)) → (joinJ l1 ++ (joinJ l2 ++ m)).length < 18446744073709551616 → ∀ f, (joinJ l2 ++ m).length < f → recs (joinJ l1 ++ (joinJ l2 ++ m)) f (joinJ l1).length = (l2 ++ (readJ m).1, (joinJ l1).length + ((joinJ l2).length + (readJ m).2)) := by
    intro l1 l2
    induction l2 generalizing l1 with
    | nil =>
      intro _ hb hL f hf
      have h0 : joinJ [] = [] := rfl
      rw [h0, List.nil_append] at hb hL hf ⊢
      have h1 := recs_shift (joinJ l1) m hm (by simp only [List.length_append] at hL; omega) f 0
      rw [Nat.add_zero] at h1
      rw [h1]
      have h2 : recs m f 0 = readJ m := by
        unfold readJ
        obtain ⟨d, rfl⟩ : ∃ d, f = m.length + 1 + d := ⟨f - (m.length + 1), by omega⟩
        exact recs_fuel m hm (by simp only [List.length_append] at hL; omega) (m.length + 1) 0 (by omega) d
      rw [h2]
      simp
    | cons x l2 ih =>
      intro hl hb hL f hf
      obtain ⟨f, rfl⟩ : ∃ g, f = g + 1 := ⟨f - 1, by omega⟩
      have hx := (hl x (by simp)).1
      have e1 : joinJ l1 ++ (joinJ (x :: l2) ++ m) = joinJ (l1 ++ [x]) ++ (joinJ l2 ++ m) := by
        rw [joinJ_append, joinJ_cons, joinJ_cons]
        simp [joinJ]
      have hs : stepJ (joinJ l1 ++ (joinJ (x :: l2) ++ m)) (joinJ l1).length = some (x, (joinJ l1).length + (jform x).length) := by
        rw [joinJ_cons, List.append_assoc]
        exact stepJ_form (joinJ l1) x (joinJ l2 ++ m) hx
      have hl3 : (joinJ (l1 ++ [x])).length = (joinJ l1).length + (jform x).length := by rw [joinJ_append, List.length_append]; simp [joinJ]
      rw [recs_some hs, ← hl3]
      rw [e1] at hb hL ⊢
      have hj := jform_len x
      have hf2 : (joinJ l2 ++ m).length < f := by
        rw [joinJ_cons] at hf
        simp only [List.length_append] at hf ⊢
        omega
      rw [ih (l1 ++ [x]) (fun y hy => hl y (by simp [hy])) hb hL f hf2]
      rw [joinJ_cons]
      simp only [List.cons_append, List.length_append, hl3]
      refine Prod.ext rfl ?_
      simp only []
      omega
  have h := key [] l hl (by simpa [joinJ] using bytes_append (bys_join hl) hm) (by simpa [joinJ] using hL) ((joinJ l ++ m).length + 1) (by omega)
  simpa [joinJ, readJ] using h
/-- What is no whole form is no record. -/
theorem readJ_part (x : List Int) (j : Nat) (hx : okR x) (hb : bys x) (hj : j < (jform x).length) : readJ ((jform x).take j) = ([], 0) := by
  have hbj : bys ((jform x).take j) := bytes_take (bys_jform hb (by have := hx.2; omega)) j
  have hjl := jform_len x
  have hrl := (rowL_len x (by have := hx.2; omega)).2
  have h8 := hx.2
  unfold readJ
  refine recs_none ?_
  cases hs : stepJ ((jform x).take j) 0 with
  | none => rfl
  | some r =>
    obtain ⟨y, k⟩ := r
    obtain ⟨hy, hyb, hd, hk, hkl⟩ := stepJ_some hbj (by rw [List.length_take]; omega) hs
    rw [List.drop_zero] at hd
    have e1 : jform x = rowL y ++ (chk y ++ (((jform x).take j).drop k ++ (jform x).drop j)) := by
      conv => lhs; rw [← List.take_append_drop j (jform x)]
      conv => lhs; rw [hd]
      rw [jform, List.append_assoc, List.append_assoc]
    have e2 : jform x = rowL x ++ chk x := rfl
    have b1 := bytesL_row [] y (chk y ++ (((jform x).take j).drop k ++ (jform x).drop j)) 8000 (by have := hy.2; omega) (by have := hy.2; omega)
    have b2 := bytesL_row [] x (chk x) 8000 (by omega) (by omega)
    simp only [List.nil_append] at b1 b2
    rw [← e1] at b1
    rw [← e2] at b2
    rw [b1] at b2
    have hxy : y = x := congrArg Prod.fst b2
    rw [hxy] at hk
    rw [List.length_take] at hkl
    omega
theorem readJ_nil : readJ [] = ([], 0) := by
  unfold readJ
  refine recs_none ?_
  unfold stepJ
  rw [if_pos]
  left
  rw [bytesL_eq]
  decide
end Go.Proofs.YtebjibkgefgalaaDoor.Jr
