/- What calls of Go functions of this seat come to, as the rows need it: under the conditions that each theorem names. -/
import Derived.Test.YtllcofllnjgkcaaDoorProvA
import Derived.Test.YtllcofllnjgkcaaDoorRefU
namespace Go.Proofs.YtllcofllnjgkcaaDoor.Ref
open Go.RowKit Go.Proofs.YtllcofllnjgkcaaDoorW.PrintWords Go.Proofs.YtllcofllnjgkcaaDoorW.PrintLast Go.Proofs.YtllcofllnjgkcaaDoorW.PrintMore
set_option linter.unusedVariables false
set_option linter.unusedSimpArgs false
open Go.Proofs.YtllcofllnjgkcaaDoor.Sha
theorem u8_inj {x y : Int} (hx : 0 ≤ x ∧ x < 256) (hy : 0 ≤ y ∧ y < 256) (h : UInt8.ofNat x.toNat = UInt8.ofNat y.toNat) : x = y := by
  have h2 := congrArg UInt8.toNat h
  rw [UInt8.toNat_ofNat', UInt8.toNat_ofNat', Nat.mod_eq_of_lt (by omega), Nat.mod_eq_of_lt (by omega)] at h2
  omega
theorem map_inj : ∀ (a b : List Int), Sha.bytes a → Sha.bytes b → (a.map fun n => UInt8.ofNat n.toNat) = (b.map fun n => UInt8.ofNat n.toNat) → a = b
  | [], [], _, _, _ => rfl
  | [], _ :: _, _, _, h => by simp at h
  | _ :: _, [], _, _, h => by simp at h
  | x :: a, y :: b, ha, hb, h => by
    simp only [List.map_cons, List.cons.injEq] at h
    rw [u8_inj (ha x (by simp)) (hb y (by simp)) h.1, map_inj a b (fun z hz => ha z (by simp [hz])) (fun z hz => hb z (by simp [hz])) h.2]
theorem str_inj {a b : List Int} (ha : Sha.bytes a) (hb : Sha.bytes b) (h : strOfNums a = strOfNums b) : a = b := by
  apply map_inj a b ha hb
  rw [← strOfNums_data, ← strOfNums_data, h]
theorem str_list_ne {a b : List Int} (h : ¬ strOfNums a = strOfNums b) : ((strOfNums a).toList == (strOfNums b).toList) = false := by
  rw [beq_eq_false_iff_ne, ByteArray.toList_eq, ByteArray.toList_eq]
  intro h2
  apply h
  have h3 : (strOfNums a).data = (strOfNums b).data := by
    rw [← Array.toList_inj]
    exact h2
  cases ha : strOfNums a
  cases hb : strOfNums b
  rw [ha, hb] at h3
  exact congrArg ByteArray.mk h3
/-- Two ways up, row by row: where a row of one is a row of the other, the digests of the rows below are alike. -/
def Link (P Q : List (List Int)) (t u : List Int) : Prop := P.length = Q.length ∧ (∀ k, k + 1 < P.length → P.getD (k + 1) [] = Q.getD (k + 1) [] → shaI (P.getD k []) = shaI (Q.getD k [])) ∧ shaI (P.getD (P.length - 1) []) = t ∧ shaI (Q.getD (Q.length - 1) []) = u
theorem Link.cons {X Y Z W : List Int} {P Q : List (List Int)} {t u : List Int} (h : Link (Z :: P) (W :: Q) t u) (hl : Z = W → shaI X = shaI Y) : Link (X :: Z :: P) (Y :: W :: Q) t u := by
  obtain ⟨h1, h2, h3, h4⟩ := h
  refine ⟨by simpa using h1, fun k hk he => ?_, ?_, ?_⟩
  · cases k with
    | zero => exact hl (by simpa using he)
    | succ k =>
      have := h2 k (by simpa using hk) (by simpa using he)
      simpa using this
  · have e : (X :: Z :: P).length - 1 = ((Z :: P).length - 1) + 1 := by simp
    rw [e]
    exact h3
  · have e : (Y :: W :: Q).length - 1 = ((W :: Q).length - 1) + 1 := by simp
    rw [e]
    exact h4
theorem app_inj {a b c d : List Int} (h : a ++ b = c ++ d) (hl : a.length = c.length) : a = c ∧ b = d := List.append_inj h hl
theorem link_path : ∀ (n i : Nat) (X Y d e : List Int) (p q : List (List Int)) (rs ss : List (List Int)) (t u : List Int), shaI X = d → shaI Y = e → isD d → isD e → isRow p → isRow q →
    pathR n i d p = some (rs, t, []) → pathR n i e q = some (ss, u, []) → Link (X :: rs) (Y :: ss) t u := by
  intro n
  induction n using Nat.strongRecOn with
  | ind n ih =>
    intro i X Y d e p q rs ss t u hX hY hd he hp hq h1 h2
    by_cases hn : n ≤ 1
    · rw [pathR_end _ _ _ hn] at h1 h2
      cases h1
      cases h2
      exact ⟨rfl, fun k hk => by simp at hk, hX, hY⟩
    · by_cases ho : n ≤ oth i
      · rw [pathR_alone _ _ hn ho] at h1 h2
        exact ih _ (by omega) _ X Y d e p q rs ss t u hX hY hd he hp hq h1 h2
      · cases p with
        | nil => rw [pathR_none _ hn ho] at h1; cases h1
        | cons x p =>
          cases q with
          | nil => rw [pathR_none _ hn ho] at h2; cases h2
          | cons y q =>
            rw [pathR_cons _ _ _ hn ho] at h1 h2
            have hx : isD x := hp x (by simp)
            have hy : isD y := hq y (by simp)
            cases hr1 : pathR ((n + 1) / 2) (i / 2) (if i % 2 = 0 then pairI d x else pairI x d) p with
            | none => rw [hr1] at h1; cases h1
            | some r1 =>
              cases hr2 : pathR ((n + 1) / 2) (i / 2) (if i % 2 = 0 then pairI e y else pairI y e) q with
              | none => rw [hr2] at h2; cases h2
              | some r2 =>
                rw [hr1] at h1
                rw [hr2] at h2
                obtain ⟨r1, t1, q1⟩ := r1
                obtain ⟨r2, t2, q2⟩ := r2
                simp only [Option.map_some, Option.some.injEq, Prod.mk.injEq] at h1 h2
                obtain ⟨hrs, rfl, rfl⟩ := h1
                obtain ⟨hss, rfl, rfl⟩ := h2
                subst hrs
                subst hss
                by_cases hpar : i % 2 = 0
                · rw [if_pos hpar] at hr1 hr2
                  rw [if_pos hpar, if_pos hpar]
                  refine (ih _ (by omega) _ _ _ _ _ _ _ _ _ _ _ (show shaI (1 :: (d ++ x)) = pairI d x from rfl) (show shaI (1 :: (e ++ y)) = pairI e y from rfl) (by unfold pairI; exact sha_D _) (by unfold pairI; exact sha_D _) (fun z hz => hp z (by simp [hz])) (fun z hz => hq z (by simp [hz])) hr1 hr2).cons (fun heq => ?_)
                  rw [hX, hY]
                  exact (app_inj (by simpa using heq) (by rw [hd.1, he.1])).1
                · rw [if_neg hpar] at hr1 hr2
                  rw [if_neg hpar, if_neg hpar]
                  refine (ih _ (by omega) _ _ _ _ _ _ _ _ _ _ _ (show shaI (1 :: (x ++ d)) = pairI x d from rfl) (show shaI (1 :: (y ++ e)) = pairI y e from rfl) (by unfold pairI; exact sha_D _) (by unfold pairI; exact sha_D _) (fun z hz => hp z (by simp [hz])) (fun z hz => hq z (by simp [hz])) hr1 hr2).cons (fun heq => ?_)
                  rw [hX, hY]
                  exact (app_inj (by simpa using heq) (by rw [hx.1, hy.1])).2
theorem getD_app1 (P : List (List Int)) (z : List Int) (k : Nat) (h : k < P.length) : (P ++ [z]).getD k [] = P.getD k [] := by
  rw [List.getD_eq_getElem?_getD, List.getElem?_append_left h, ← List.getD_eq_getElem?_getD]
theorem getD_app2 (P : List (List Int)) (z : List Int) (k : Nat) (h : k = P.length) : (P ++ [z]).getD k [] = z := by
  rw [List.getD_eq_getElem?_getD, List.getElem?_append_right (by omega), h, Nat.sub_self]
  rfl
theorem path_of_check (R : List Int) (n i : Nat) (c : List Int) (p : List (List Int)) (h : checkR R n i c p = true) : ∃ rs t, pathR (countN n) i (leafI i c) p = some (rs, t, []) ∧ rootI n t = R := by
  have hc := pathR_chk (countN n) i (leafI i c) p
  unfold checkR at h
  rw [← hc] at h
  cases hp : pathR (countN n) i (leafI i c) p with
  | none => rw [hp] at h; cases h
  | some r =>
    obtain ⟨rs, t, q⟩ := r
    rw [hp] at h
    replace h : topB n R (some (t, q)) = true := h
    by_cases hq : 0 < q.length
    · rw [topB_left n R t hq] at h; cases h
    · obtain rfl : q = [] := List.length_eq_zero_iff.1 (by omega)
      rw [topB_nil] at h
      exact ⟨rs, t, rfl, of_decide_eq_true h⟩
theorem pathV_of {n i : Nat} {c : List Int} {p rs : List (List Int)} {t : List Int} (h : pathR (countN n) i (leafI i c) p = some (rs, t, [])) : pathV n i c p = ((0 :: (be8 i ++ c)) :: rs ++ [2 :: (be8 n ++ t)], true) := by
  unfold pathV
  rw [h]
  rfl
/-- What binds: where rows of two ways to one root are alike from k on, the digests of the rows ahead are alike. -/
theorem bind_rows (n i : Nat) (R c1 c2 : List Int) (p q : List (List Int)) (hp : isRow p) (hq : isRow q) (h1 : checkR R n i c1 p = true) (h2 : checkR R n i c2 q = true) :
    (pathV n i c1 p).2 = true ∧ (pathV n i c2 q).2 = true ∧ (pathV n i c1 p).1.length = (pathV n i c2 q).1.length ∧ 0 < (pathV n i c1 p).1.length ∧
    (pathV n i c1 p).1.getD 0 [] = 0 :: (be8 i ++ c1) ∧ (pathV n i c2 q).1.getD 0 [] = 0 :: (be8 i ++ c2) ∧
    ∀ k, k < (pathV n i c1 p).1.length → (∀ j, k < j → j < (pathV n i c1 p).1.length → (pathV n i c1 p).1.getD j [] = (pathV n i c2 q).1.getD j []) → shaI ((pathV n i c1 p).1.getD k []) = shaI ((pathV n i c2 q).1.getD k []) := by
  obtain ⟨rs, t, e1, r1⟩ := path_of_check R n i c1 p h1
  obtain ⟨ss, u, e2, r2⟩ := path_of_check R n i c2 q h2
  have hL := link_path (countN n) i (0 :: (be8 i ++ c1)) (0 :: (be8 i ++ c2)) (leafI i c1) (leafI i c2) p q rs ss t u rfl rfl (by unfold leafI; exact sha_D _) (by unfold leafI; exact sha_D _) hp hq e1 e2
  rw [pathV_of e1, pathV_of e2]
  obtain ⟨hl, hk, ht, hu⟩ := hL
  generalize hP : (0 :: (be8 i ++ c1)) :: rs = P at *
  generalize hQ : (0 :: (be8 i ++ c2)) :: ss = Q at *
  have hP0 : P.length = rs.length + 1 := by rw [← hP]; simp
  have hg0 : P.getD 0 [] = 0 :: (be8 i ++ c1) := by rw [← hP]; rfl
  have hg1 : Q.getD 0 [] = 0 :: (be8 i ++ c2) := by rw [← hQ]; rfl
  refine ⟨rfl, rfl, by simp [hl], by simp, ?_, ?_, ?_⟩
  · show (P ++ [2 :: (be8 n ++ t)]).getD 0 [] = _
    rw [getD_app1 _ _ _ (by omega), hg0]
  · show (Q ++ [2 :: (be8 n ++ u)]).getD 0 [] = _
    rw [getD_app1 _ _ _ (by omega), hg1]
  · intro k hkl hj
    replace hkl : k < P.length + 1 := by simpa using hkl
    replace hj : ∀ j, k < j → j < P.length + 1 → (P ++ [2 :: (be8 n ++ t)]).getD j [] = (Q ++ [2 :: (be8 n ++ u)]).getD j [] := fun j h1 h2 => hj j h1 (by simpa using h2)
    show shaI ((P ++ [2 :: (be8 n ++ t)]).getD k []) = shaI ((Q ++ [2 :: (be8 n ++ u)]).getD k [])
    by_cases hlast : k = P.length
    · rw [getD_app2 P _ k hlast, getD_app2 Q _ k (by omega)]
      exact r1.trans r2.symm
    · rw [getD_app1 P _ k (by omega), getD_app1 Q _ k (by omega)]
      by_cases hl1 : k + 1 = P.length
      · have h3 := hj (k + 1) (by omega) (by omega)
        rw [getD_app2 P _ _ hl1, getD_app2 Q _ _ (by omega)] at h3
        have h4 : t = u := by simpa using h3
        have ek : k = P.length - 1 := by omega
        have ek2 : k = Q.length - 1 := by omega
        rw [← ek] at ht
        rw [← ek2] at hu
        rw [ht, hu, h4]
      · have h3 := hj (k + 1) (by omega) (by omega)
        rw [getD_app1 P _ _ (by omega), getD_app1 Q _ _ (by omega)] at h3
        exact hk k (by omega) h3
end Go.Proofs.YtllcofllnjgkcaaDoor.Ref
