/- What calls of Go functions of this seat come to, as the rows need it: under the conditions that each theorem names. -/
import Derived.Test.YtebjibkgefgalaaDoorAppB
namespace Go.Proofs.YtebjibkgefgalaaDoor.Hand
open Go.RowKit Go.Proofs.YtebjibkgefgalaaDoorW.PrintWords Go.Proofs.YtebjibkgefgalaaDoorW.PrintLast Go.Proofs.YtebjibkgefgalaaDoorW.PrintMore
set_option linter.unusedVariables false
set_option linter.unusedSimpArgs false
/-- What wire.Bytes tells. -/
def bytesL (l : List Int) (a most : Int) : List Int × Int × Int :=
  if (uintL l a).2.2 ≠ 0 then ([], 0, (uintL l a).2.2)
  else if most < 0 ∨ most < (uintL l a).1 then ([], 0, 3)
  else if (l.length : Int) - (uintL l a).2.1 < (uintL l a).1 then ([], 0, 4)
  else ((l.drop (uintL l a).2.1.toNat).take (uintL l a).1.toNat, (uintL l a).2.1 + (uintL l a).1, 0)
theorem numL_range (l : List Int) : 0 ≤ numL l ∧ numL l < 18446744073709551616 := by
  rcases List.eq_nil_or_concat l with rfl | ⟨l, x, rfl⟩
  · simp [numL]
  · rw [List.concat_eq_append, numL_snoc]
    simp only [IntKind.wrap, IntKind.bits, IntKind.signed]
    simp
    omega
theorem uintL_ok (l : List Int) (a : Int) (h : bytes l) (he : (uintL l a).2.2 = 0) : 0 ≤ (uintL l a).1 ∧ (uintL l a).1 < 18446744073709551616 ∧ 0 ≤ a ∧ a < (uintL l a).2.1 ∧ (uintL l a).2.1 ≤ l.length := by
  unfold uintL at *
  split at he
  · simp at he
  rename_i h1
  rw [if_neg h1]
  split at he
  · simp at he
  rename_i h2
  rw [if_neg h2]
  split at he
  · simp at he
  rename_i h3
  rw [if_neg h3]
  split at he
  · simp at he
  rename_i h4
  rw [if_neg h4]
  have hr := numL_range (((l.drop a.toNat).drop 1).take (rd (l.drop a.toNat) (0 : Nat)).toNat)
  have hs := bytes_rd (bytes_drop h a.toNat) 0 (by omega)
  have hl : ((l.drop a.toNat).drop 1).length = l.length - a.toNat - 1 := by simp; omega
  have hl2 : (l.drop a.toNat).length = l.length - a.toNat := by simp
  refine ⟨hr.1, hr.2, by omega, ?_, ?_⟩
  · show a < a + 1 + _
    omega
  · show a + 1 + _ ≤ _
    omega
theorem uintL_err (l : List Int) (a : Int) : 0 ≤ (uintL l a).2.2 ∧ (uintL l a).2.2 ≤ 5 ∧ ((uintL l a).2.2 ≠ 0 → (uintL l a).1 = 0 ∧ (uintL l a).2.1 = 0) := by
  unfold uintL
  repeat' split
  all_goals simp
theorem cutBB (A : Option Addr) (c : Nat) (l : List Int) (n m : Nat) (hn : n + m ≤ l.length) (hc : l.length ≤ c) :
    ∃ (A' : Option Addr) (c' : Nat), (∀ W : World, (Instr.slice 22 (.slice A l.length c) (some (.int .i64 (n : Int))) (some (.int .i64 ((n : Int) + m))) none).run Tryd.prog W = .ok (.slice A' m c') W) ∧
      (∀ w : World, B.C w A l.length l → B.C w A' m ((l.drop n).take m)) ∧ m ≤ c' := by
  obtain ⟨i0, hi, _, hsz, _⟩ := info_parts info5
  refine ⟨if c = n then A else A.map (·.add (n * 1)), c - n, fun W => ?_, fun w h => ?_, by omega⟩
  · have h := cut_mid (P := Tryd.prog) 22 5 .i64 .i64 Tryd.underlying22 hi 1 hsz A l.length c (n : Int) ((n : Int) + m) (by omega) (by omega) (by omega) hc W
    rw [h]
    have e1 : ((n : Int)).toNat = n := by omega
    have e2 : ((n : Int) + m).toNat - n = m := by omega
    simp only [e1, e2]
  · have h2 := Kd.C_mid (lo := n) (hi := n + m) h (by omega) (by omega) hc
    have e : (l.take (n + m)).drop n = (l.drop n).take m := by rw [List.drop_take]; congr 1; omega
    have e2 : ((l.drop n).take m).length = m := by rw [List.length_take, List.length_drop]; omega
    rw [e, e2] at h2
    exact h2
theorem wrap_of (n : Int) (h0 : 0 ≤ n) (h : n ≤ 9223372036854775807) : IntKind.u64.wrap n = n := by
  simp [IntKind.wrap, IntKind.bits, IntKind.signed]
  omega
theorem wrap_i64 (n : Nat) (h : (n : Int) ≤ 9223372036854775807) : IntKind.i64.wrap (n : Int) = (n : Int) := by
  rw [i64_w]
  unfold wrap64
  omega
theorem wrap_sub (n m : Nat) (h0 : m ≤ n) (h : n < 140737488355300) : IntKind.u64.wrap ((n : Int) - m) = (n : Int) - m := wrap_of _ (by omega) (by omega)
theorem bytesL_eq (l : List Int) (a most : Int) : bytesL l a most = if (uintL l a).2.2 ≠ 0 then ([], 0, (uintL l a).2.2) else if most < 0 ∨ most < (uintL l a).1 then ([], 0, 3) else if (l.length : Int) - (uintL l a).2.1 < (uintL l a).1 then ([], 0, 4) else ((l.drop (uintL l a).2.1.toNat).take (uintL l a).1.toNat, (uintL l a).2.1 + (uintL l a).1, 0) := rfl
set_option maxHeartbeats 1600000 in
set_option maxRecDepth 100000 in
theorem bytes_calls (A0 : Option Addr) (c0 : Nat) (l0 : List Int) (a most : Int) (w : World) (hr0 : B.C w A0 l0.length l0) (hc0 : l0.length ≤ c0) (hb : bytes l0) (hL : l0.length < 140737488355300) (hmost : most ≤ 9223372036854775807) :
    Calls Tryd.prog 30 #[.slice A0 l0.length c0, .int .i64 a, .int .i64 most] w fun e w' => ∃ v : Value, e = .returned (.tuple #[v, .int .i64 (bytesL l0 a most).2.1, .int .i64 (bytesL l0 a most).2.2]) ∧ Kd.R B 5 w' w.heap.size (fun _ => True) v (bytesL l0 a most).1 ∧ Below w.heap.size w w' := by
  have HR := Aside0.mk hr0
  have HBY := Aside0.mk hb
  have HE := Aside0.mk (uintL_err l0 a)
  have HO := Aside0.mk (uintL_ok l0 a hb)
  have HD := Aside0.mk (bytesL_eq l0 a most)
  clear hr0 hb
  have HU := Aside0.mk (fun w => uint_calls A0 c0 l0 a w)
  obtain ⟨n, x, e, hu⟩ : ∃ n x e : Int, uintL l0 a = (n, x, e) := ⟨_, _, _, rfl⟩
  rw [hu] at HE HO HD
  have HUU := Aside0.mk hu
  clear hu
  by_cases h0 : e = 0
  · subst h0
    obtain ⟨ho1, ho2, ho3, ho4, ho5⟩ := HO.out rfl
    replace HD := Aside0.mk (HD.out.trans (if_neg (by simp)))
    simp only at ho1 ho2 ho3 ho4 ho5 HD
    clear HE HO
    obtain ⟨N, rfl⟩ := Int.eq_ofNat_of_zero_le ho1
    obtain ⟨X, rfl⟩ := Int.eq_ofNat_of_zero_le (show 0 ≤ x by omega)
    by_cases hm0 : most < 0
    · replace HD := Aside0.mk (HD.out.trans (if_pos (.inl hm0)))
      go_enter Tryd.func30, Tryd.ntmps30
      go_wp2_with fail
      refine (HU.out _ HR.out hc0 HBY.out).mono ?_
      rintro e w' ⟨rfl, rfl⟩
      rw [HUU.out]
      go_wp2
      go_ret3
      refine ⟨.slice none 0 0, ?_, ?_, Below.refl _ _⟩
      · rw [HD.out]; rfl
      · rw [HD.out]; exact Kd.R_nil _ _ _ _ _
    by_cases hm1 : most < (N : Int)
    · replace HD := Aside0.mk (HD.out.trans (if_pos (.inr hm1)))
      go_enter Tryd.func30, Tryd.ntmps30
      go_wp2_with fail
      refine (HU.out _ HR.out hc0 HBY.out).mono ?_
      rintro e w' ⟨rfl, rfl⟩
      rw [HUU.out]
      go_wp2
      go_ret3
      refine ⟨.slice none 0 0, ?_, ?_, Below.refl _ _⟩
      · rw [HD.out]; rfl
      · rw [HD.out]; exact Kd.R_nil _ _ _ _ _
    replace HD := Aside0.mk (HD.out.trans (if_neg (by omega)))
    have hwr : IntKind.u64.wrap ((l0.length : Int) - X) = (l0.length : Int) - X := wrap_sub _ _ (by omega) (by omega)
    have hwm : IntKind.u64.wrap most = most := wrap_of _ (by omega) (by omega)
    have hm4 : 0 ≤ most := by omega
    have hwN : IntKind.i64.wrap (N : Int) = (N : Int) := wrap_i64 _ (by omega)
    clear ho2 hmost
    by_cases hm2 : (l0.length : Int) - X < N
    · replace HD := Aside0.mk (HD.out.trans (if_pos hm2))
      go_enter Tryd.func30, Tryd.ntmps30
      go_wp2_with fail
      refine (HU.out _ HR.out hc0 HBY.out).mono ?_
      rintro e w' ⟨rfl, rfl⟩
      rw [HUU.out]
      go_wp2
      go_ret3
      refine ⟨.slice none 0 0, ?_, ?_, Below.refl _ _⟩
      · rw [HD.out]; rfl
      · rw [HD.out]; exact Kd.R_nil _ _ _ _ _
    · replace HD := Aside0.mk (HD.out.trans (if_neg hm2))
      simp only [Int.toNat_natCast] at HD
      obtain ⟨A', c', hcut, hrd, hc'⟩ := cutBB A0 c0 l0 X N (by omega) hc0
      have HR2 := Aside0.mk hrd
      clear hrd
      have hlen : ((l0.drop X).take N).length = N := by rw [List.length_take, List.length_drop]; omega
      generalize (l0.drop X).take N = ys at *
      subst hlen
      go_enter Tryd.func30, Tryd.ntmps30
      go_wp2_with fail
      refine (HU.out _ HR.out hc0 HBY.out).mono ?_
      rintro e w' ⟨rfl, rfl⟩
      rw [HUU.out]
      go_wp2_with fail
      refine (behind_calls (some ⟨_, 0, none⟩) 1 [ys] _ ?h1 (Nat.le_refl 1) ?h2).mono ?_
      case h1 =>
        refine C_rows_block _ (heap_new' _ _ _ (by simp)) [ys] (fun j x hj => ?_) (show 1 ≤ 9223372036854775807 by omega)
        rcases j with _ | j
        · obtain rfl : ys = x := by simpa using hj
          exact ⟨A', c', rfl, hc', Kd.C_alloc (HR2.out _ HR.out) _⟩
        · simp at hj
      case h2 => simp [flen]; omega
      rintro e w1 ⟨v, rfl, hr, hbb⟩
      go_wp2
      go_ret3
      refine ⟨v, ?_, ?_, ?_⟩
      · rw [HD.out]; rfl
      · rw [HD.out]
        have := Kd.R_lower hr (show w'.heap.size ≤ (w'.alloc (.cells #[.slice A' ys.length c'] 22)).heap.size by simp)
        simpa using this
      · exact ((Below.refl _ _).alloc (Nat.le_refl _) _).trans (hbb.mono (by simp))
  · have HE0 := HE.out.2.2 h0
    replace HD := Aside0.mk (HD.out.trans (if_pos h0))
    have hbe : (e == 0) = false := by simpa using h0
    have hbn : (e != 0) = true := by simpa using h0
    clear HE HO
    go_enter Tryd.func30, Tryd.ntmps30
    go_wp2_with fail
    refine (HU.out _ HR.out hc0 HBY.out).mono ?_
    rintro e w' ⟨rfl, rfl⟩
    rw [HUU.out]
    go_wp2
    go_ret3
    refine ⟨.slice none 0 0, ?_, ?_, Below.refl _ _⟩
    · rw [HD.out]; rfl
    · rw [HD.out]; exact Kd.R_nil _ _ _ _ _
end Go.Proofs.YtebjibkgefgalaaDoor.Hand
