/- What calls of Go functions of this seat come to, as the rows need it: under the conditions that each theorem names. -/
import Derived.Test.YtebjibkgefgalaaDoorFP
import Derived.Test.YtebjibkgefgalaaDoorShaG
namespace Go.Proofs.YtebjibkgefgalaaDoor.Jr
open Go.RowKit Go.Proofs.YtebjibkgefgalaaDoorW.PrintWords Go.Proofs.YtebjibkgefgalaaDoorW.PrintLast Go.Proofs.YtebjibkgefgalaaDoorW.PrintMore
set_option linter.unusedVariables false
set_option linter.unusedSimpArgs false
open Go.Proofs.YtebjibkgefgalaaDoor.Hand (uintL bytesL bytesL_eq formL rowL uintL_form bytesL_row uintL_inv bytesL_inv digs digs_len bytes_form bytes_append bytes_row bytes_drop bytes_take formL_len)
open Go.Proofs.YtebjibkgefgalaaDoor.Sha (shaI)
abbrev bys := Go.Proofs.YtebjibkgefgalaaDoor.Hand.bytes
/-- The first eight bytes of a digest. -/
def chk (x : List Int) : List Int := (shaI x).take 8
/-- A record's form. -/
def jform (x : List Int) : List Int := rowL x ++ chk x
def okR (x : List Int) : Prop := 1 ≤ x.length ∧ x.length ≤ 8000
/-- One record that stands at a place, and where its form ends. -/
def stepJ (b : List Int) (a : Nat) : Option (List Int × Nat) :=
  if (bytesL b (a : Nat) 8000).2.2 ≠ 0 ∨ (bytesL b (a : Nat) 8000).1.length = 0 ∨ (b.length : Int) - (bytesL b (a : Nat) 8000).2.1 < 8 then none
  else if chk (bytesL b (a : Nat) 8000).1 ≠ (b.drop (bytesL b (a : Nat) 8000).2.1.toNat).take 8 then none
  else some ((bytesL b (a : Nat) 8000).1, (bytesL b (a : Nat) 8000).2.1.toNat + 8)
def recs (b : List Int) : Nat → Nat → List (List Int) × Nat
  | 0, a => ([], a)
  | k + 1, a => match stepJ b a with
    | none => ([], a)
    | some r => (r.1 :: (recs b k r.2).1, (recs b k r.2).2)
/-- The records of bytes, and how many bytes they take. -/
def readJ (b : List Int) : List (List Int) × Nat := recs b (b.length + 1) 0
theorem chk_len (x : List Int) : (chk x).length = 8 := by
  unfold chk
  rw [List.length_take, Sha.shaI_len]
  rfl
theorem rowL_len (x : List Int) (h : x.length < 18446744073709551616) : x.length + 1 ≤ (rowL x).length ∧ (rowL x).length ≤ x.length + 9 := by
  have := formL_len x.length h
  have h2 : 1 ≤ (formL x.length).length := by unfold formL; simp
  simp only [rowL, List.length_append]
  omega
theorem jform_len (x : List Int) : (jform x).length = (rowL x).length + 8 := by rw [jform, List.length_append, chk_len]
/-- What a step that is had says. -/
theorem stepJ_some {b : List Int} {a a' : Nat} {x : List Int} (hb : bys b) (hL : b.length < 18446744073709551616) (h : stepJ b a = some (x, a')) : okR x ∧ bys x ∧ b.drop a = jform x ++ b.drop a' ∧ a' = a + (jform x).length ∧ a' ≤ b.length := by
  unfold stepJ at h
  split at h
  · cases h
  rename_i h1
  split at h
  · cases h
  rename_i h2
  injection h with h
  have he : (bytesL b (a : Nat) 8000).2.2 = 0 := Classical.byContradiction fun h3 => h1 (.inl h3)
  obtain ⟨y, hy, hyl, h8, e, ha, hd⟩ := bytesL_inv b a 8000 hb hL he
  rw [e] at h h1 h2
  simp only [] at h h1 h2
  rw [show ((a : Int) + (rowL y).length).toNat = a + (rowL y).length by omega] at h h2
  have hx : y = x := congrArg Prod.fst h
  have ha' : a + (rowL y).length + 8 = a' := congrArg Prod.snd h
  subst hx
  have h3 : chk y = (b.drop (a + (rowL y).length)).take 8 := Classical.byContradiction h2
  have h4 : ¬ (b.length : Int) - ((a : Int) + (rowL y).length) < 8 := fun h => h1 (.inr (.inr h))
  have h5 : y.length ≠ 0 := fun h => h1 (.inr (.inl h))
  refine ⟨⟨by omega, by omega⟩, hy, ?_, by rw [jform_len]; omega, by omega⟩
  have h9 : b.drop (a + (rowL y).length + 8) = (b.drop (a + (rowL y).length)).drop 8 := by rw [List.drop_drop]
  rw [hd, jform, List.append_assoc, h3, ← ha', h9, List.take_append_drop]
/-- A form that stands at a place is had. -/
theorem stepJ_form (a x m : List Int) (hx : okR x) : stepJ (a ++ (jform x ++ m)) a.length = some (x, a.length + (jform x).length) := by
  have e : a ++ (jform x ++ m) = a ++ (rowL x ++ (chk x ++ m)) := by rw [jform, List.append_assoc]
  have h := bytesL_row a x (chk x ++ m) 8000 (by have := hx.2; omega) (by have := hx.2; omega)
  unfold stepJ
  rw [e, h]
  simp only []
  rw [show ((a.length : Int) + (rowL x).length).toNat = (a ++ rowL x).length by simp; omega]
  have hd : (a ++ (rowL x ++ (chk x ++ m))).drop (a ++ rowL x).length = chk x ++ m := by rw [← List.append_assoc]; exact List.drop_left' rfl
  have hc := chk_len x
  rw [if_neg, if_neg]
  · rw [jform_len]; simp; omega
  · rw [hd, List.take_left' hc]; exact fun h => h rfl
  · have := hx.1
    simp only [List.length_append, hc]
    omega
theorem recs_more (b : List Int) (hb : bys b) (hL : b.length < 18446744073709551616) : ∀ k a, b.length - a < k → recs b (k + 1) a = recs b k a
  | 0, a, h => by omega
  | k + 1, a, h => by
    show (match stepJ b a with | none => _ | some r => _) = (match stepJ b a with | none => _ | some r => _)
    cases hs : stepJ b a with
    | none => rfl
    | some r =>
      obtain ⟨x, a'⟩ := r
      obtain ⟨hx, _, _, h2, h3⟩ := stepJ_some hb hL hs
      have h4 := jform_len x
      have := recs_more b hb hL k a' (by omega)
      show (x :: (recs b (k + 1) a').1, (recs b (k + 1) a').2) = (x :: (recs b k a').1, (recs b k a').2)
      rw [this]
theorem recs_fuel (b : List Int) (hb : bys b) (hL : b.length < 18446744073709551616) (k a : Nat) (h : b.length - a < k) : ∀ d, recs b (k + d) a = recs b k a
  | 0 => rfl
  | d + 1 => by rw [← Nat.add_assoc, recs_more b hb hL (k + d) a (by omega), recs_fuel b hb hL k a h d]
theorem recs_some {b : List Int} {k a a' : Nat} {x : List Int} (h : stepJ b a = some (x, a')) : recs b (k + 1) a = (x :: (recs b k a').1, (recs b k a').2) := by
  show (match stepJ b a with | none => _ | some r => _) = _
  rw [h]
theorem recs_none {b : List Int} {k a : Nat} (h : stepJ b a = none) : recs b k a = ([], a) := by
  cases k with
  | zero => rfl
  | succ k =>
    show (match stepJ b a with | none => _ | some r => _) = _
    rw [h]
/-- How far a reader has come: what it has, where it stands. -/
def Got (b : List Int) (pre : List (List Int)) (a : Nat) : Prop := a ≤ b.length ∧ ∃ k, b.length - a < k ∧ readJ b = (pre ++ (recs b k a).1, (recs b k a).2)
theorem Got.start (b : List Int) : Got b [] 0 := ⟨Nat.zero_le _, b.length + 1, by omega, by simp [readJ]⟩
theorem Got.stop {b : List Int} {pre : List (List Int)} {a : Nat} (h : Got b pre a) (hs : stepJ b a = none) : readJ b = (pre, a) := by
  obtain ⟨_, k, _, e⟩ := h
  rw [e, recs_none hs, List.append_nil]
theorem Got.step {b : List Int} {pre : List (List Int)} {a a' : Nat} {x : List Int} (hb : bys b) (hL : b.length < 18446744073709551616) (h : Got b pre a) (hs : stepJ b a = some (x, a')) : Got b (pre ++ [x]) a' := by
  obtain ⟨ha, k, hk, e⟩ := h
  obtain ⟨_, _, _, h2, h3⟩ := stepJ_some hb hL hs
  have := jform_len x
  obtain ⟨k, rfl⟩ : ∃ j, k = j + 1 := ⟨k - 1, by omega⟩
  refine ⟨h3, k, by omega, ?_⟩
  rw [e, recs_some hs]
  simp
/-- Records' forms, one behind the other. -/
def joinJ (l : List (List Int)) : List Int := (l.map jform).flatten
theorem joinJ_cons (x : List Int) (l : List (List Int)) : joinJ (x :: l) = jform x ++ joinJ l := by simp [joinJ]
theorem joinJ_append (l m : List (List Int)) : joinJ (l ++ m) = joinJ l ++ joinJ m := by simp [joinJ]
/-- What is read is the forms of what it is, and what stands behind them. -/
theorem recs_inv (b : List Int) (hb : bys b) (hL : b.length < 18446744073709551616) : ∀ k a, (∀ x ∈ (recs b k a).1, okR x ∧ bys x) ∧ b.drop a = joinJ (recs b k a).1 ++ b.drop (recs b k a).2 ∧ (recs b k a).2 = a + (joinJ (recs b k a).1).length ∧ (a ≤ b.length → (recs b k a).2 ≤ b.length)
  | 0, a => ⟨(fun x hx => by cases hx), by simp [recs, joinJ], by simp [recs, joinJ], fun h => h⟩
  | k + 1, a => by
    cases hs : stepJ b a with
    | none =>
      rw [recs_none hs]
      exact ⟨(fun x hx => by cases hx), by simp [joinJ], by simp [joinJ], fun h => h⟩
    | some r =>
      obtain ⟨x, a'⟩ := r
      obtain ⟨h0, hx, h1, h2, h3⟩ := stepJ_some hb hL hs
      obtain ⟨i1, i2, i3, i4⟩ := recs_inv b hb hL k a'
      rw [recs_some hs]
      simp only []
      refine ⟨?_, ?_, ?_, fun _ => i4 h3⟩
      · intro y hy
        rcases List.mem_cons.1 hy with rfl | hy
        · exact ⟨h0, hx⟩
        · exact i1 y hy
      · rw [joinJ_cons, h1, i2, List.append_assoc]
      · rw [joinJ_cons, List.length_append, i3, h2]; omega
end Go.Proofs.YtebjibkgefgalaaDoor.Jr
