/- What calls of Go functions of this seat come to, as the rows need it: under the conditions that each theorem names. -/
import Derived.Test.YtekhejpkmlhllaaMWireReadsx2
import Derived.Test.YtekhejpkmlhllaaWirePure
namespace Go.Proofs.Ytekhejpkmlhllaa.MWireReads
open Go.RowKit Go.Proofs.YtekhejpkmlhllaaW.PrintWords Go.Proofs.YtekhejpkmlhllaaW.PrintLast Go.Proofs.YtekhejpkmlhllaaW.PrintMore
set_option linter.unusedVariables false
set_option linter.unusedSimpArgs false
open Hand
theorem wrap_u64 (n : Nat) (h : n < 18446744073709551616) : IntKind.u64.wrap (n : Int) = n := by
  simp only [IntKind.wrap, IntKind.bits, IntKind.signed]
  simp
  omega
theorem wrap_u64i (n : Int) (h0 : 0 ≤ n) (h : n < 18446744073709551616) : IntKind.u64.wrap n = n := by
  simp only [IntKind.wrap, IntKind.bits, IntKind.signed]
  simp
  omega
theorem wrap_mul (n x : Int) : IntKind.u64.wrap (IntKind.u64.wrap (n * 256) + IntKind.u64.wrap x) = IntKind.u64.wrap (n * 256 + x) := by
  simp only [IntKind.wrap, IntKind.bits, IntKind.signed]
  simp
theorem all_bytes {l : List Int} (h : Hand.bytes l) : (l.all fun x => decide (0 ≤ x ∧ x < 256)) = true := List.all_eq_true.2 fun x hx => decide_eq_true (h x hx)
theorem ev_ruint (l : List Int) (a : Int) (h : Hand.bytes l) : Ev (fun k => wire_Uint.f k l a) (uintL l a) :=
  Ev.step (f := fun _ => some (uintL l a)) (fun k => by show wire_Uint.g l a = _; unfold wire_Uint.g; rw [if_pos (all_bytes h)]) (Ev.now _)
theorem ev_rbytes (l : List Int) (a m : Int) (h : Hand.bytes l) (hl : l.length < 140737488355300) (hm : m ≤ 9223372036854775807) : Ev (fun k => wire_Bytes.f k l a m) (bytesL l a m) :=
  Ev.step (f := fun _ => some (bytesL l a m)) (fun k => by show wire_Bytes.g l a m = _; unfold wire_Bytes.g; rw [if_pos ⟨⟨all_bytes h, hl⟩, hm⟩]) (Ev.now _)
theorem rdn (l : List Int) (n : Nat) : rd l (n : Int) = l.getD n 0 := by unfold rd; rw [Int.toNat_natCast]
theorem rd_dropn (l : List Int) (m n : Nat) : rd (l.drop m) (n : Int) = rd l ((m + n : Nat) : Int) := by
  rw [rdn, rdn, List.getD_eq_getElem?_getD, List.getD_eq_getElem?_getD, List.getElem?_drop]
theorem rd_byte {l : List Int} (h : Hand.bytes l) (n : Nat) (hn : n < l.length) : 0 ≤ rd l (n : Int) ∧ rd l (n : Int) < 256 := by
  rw [rdn, List.getD_eq_getElem?_getD, List.getElem?_eq_getElem hn]
  exact h _ (List.getElem_mem hn)
theorem take_snocn (p : List Int) (k : Nat) (h : k < p.length) : p.take (k + 1) = p.take k ++ [rd p (k : Int)] := by
  rw [rdn, List.take_succ_eq_append_getElem h, List.getD_eq_getElem?_getD, List.getElem?_eq_getElem h]; rfl
theorem uintL_at (l : List Int) (n : Nat) (h : n < l.length) : uintL l n = if 8 < rd l n ∨ (0 < rd l n ∧ 0 < (l.drop (n + 1)).length ∧ rd (l.drop (n + 1)) (0 : Nat) = 0) then (0, 0, 5) else if ((l.drop (n + 1)).length : Int) < rd l n then (0, 0, 4) else (numL ((l.drop (n + 1)).take (rd l n).toNat), (n : Int) + 1 + rd l n, 0) := by
  unfold uintL
  rw [if_neg (by omega), if_neg (by simp; omega)]
  simp only [Int.toNat_natCast, List.drop_drop, rd_dropn l n 0, Nat.add_zero]
section
attribute [local irreducible] rd numL
set_option maxHeartbeats 1000000 in
theorem ev_uint_loop (l : List Int) (n c : Nat) (hb : Hand.bytes l) (hl : l.length ≤ 2000) (hn : n < l.length) (hc : rd l n = (c : Int)) (hc8 : c ≤ 8) :
    ∀ d j, j + d = c → j ≤ (l.drop (n + 1)).length → (0 < j → rd (l.drop (n + 1)) (0 : Nat) ≠ 0) →
      Ev (fun k => murmurationref03_Uint.l0 k l (n : Int) (c : Int) (numL ((l.drop (n + 1)).take j)) ((j : Int) + 1)) (uintL l n) := by
  intro d
  have hpl : (l.drop (n + 1)).length = l.length - (n + 1) := by simp
  induction d with
  | zero =>
    intro j hj hjl hz
    obtain rfl : j = c := by omega
    refine Ev.step (f := fun _ => some _) (fun k => ?_) (Ev.now _)
    simp only [murmurationref03_Uint.l0]
    rw [if_neg (by omega), uintL_at l n hn, hc, if_neg, if_neg (by omega)]
    · rw [Int.toNat_natCast]
      refine congrArg some (Prod.ext rfl (Prod.ext ?_ rfl))
      show wrap64 (wrap64 ((n : Int) + 1) + (j : Int)) = (n : Int) + 1 + (j : Int)
      unfold wrap64; omega
    · rintro (h1 | ⟨h1, h2, h3⟩)
      · omega
      · exact hz (by omega) h3
  | succ d ih =>
    intro j hj hjl hz
    have HW := Aside0.mk (show wrap64 ((n : Int) + ((j : Int) + 1)) = ((n + 1 + j : Nat) : Int) by unfold wrap64; omega)
    have HRD := Aside0.mk (rd_dropn l (n + 1) j).symm
    have HCC := Aside0.mk hc
    clear hc
    by_cases hend : (l.drop (n + 1)).length ≤ j
    · refine Ev.step (f := fun _ => some _) (fun k => ?_) (Ev.now _)
      simp only [murmurationref03_Uint.l0]
      rw [if_pos (by omega), HW.out, if_pos (by omega), uintL_at l n hn, HCC.out, if_neg, if_pos (by omega)]
      rintro (h1 | ⟨h1, h2, h3⟩)
      · omega
      · exact hz (by omega) h3
    · have HSTEP : Aside0 (∀ q, IntKind.u64.wrap (IntKind.u64.wrap (numL ((l.drop (n + 1)).take j) * 256) + IntKind.u64.wrap (rd (l.drop (n + 1)) (j : Int))) = q → q = numL ((l.drop (n + 1)).take (j + 1))) := Aside0.mk (by
        intro q hq
        rw [← hq, wrap_mul, take_snocn _ _ (by omega), numL_snoc])
      have HJ1 := Aside0.mk (show wrap64 (((j : Int) + 1) + 1) = ((j + 1 : Nat) : Int) + 1 by unfold wrap64; omega)
      have hc0 : 0 < (c : Int) := by omega
      by_cases hj0 : j = 0
      · have hp0 : 0 < (l.drop (n + 1)).length := by omega
        by_cases hz0 : rd (l.drop (n + 1)) (0 : Nat) = 0
        · have HZ := Aside0.mk hz0
          clear hz0 hz
          have hcond : 8 < (c : Int) ∨ (0 < (c : Int) ∧ 0 < (l.drop (n + 1)).length ∧ rd (l.drop (n + 1)) (0 : Nat) = 0) := Or.inr ⟨hc0, hp0, HZ.out⟩
          have HC := Aside0.mk hcond
          clear hcond
          refine Ev.step (f := fun _ => some _) (fun k => ?_) (Ev.now _)
          simp only [murmurationref03_Uint.l0]
          rw [if_pos (by omega), HW.out, if_neg (by omega), if_pos (by omega), if_pos (by omega), if_pos (by omega), HRD.out, if_pos (by rw [hj0]; exact HZ.out), uintL_at l n hn, HCC.out, if_pos HC.out]
        · have HZ := Aside0.mk hz0
          clear hz0 hz
          refine Ev.step (fun k => ?_) (ih (j + 1) (by omega) (by omega) (fun _ => HZ.out))
          simp only [murmurationref03_Uint.l0]
          rw [if_pos (by omega), HW.out, if_neg (by omega), if_pos (by omega), if_pos (by omega), if_pos (by omega), HRD.out, if_neg (by rw [hj0]; exact HZ.out), HSTEP.out _ rfl, HJ1.out]
      · refine Ev.step (fun k => ?_) (ih (j + 1) (by omega) (by omega) (fun _ => hz (by omega)))
        simp only [murmurationref03_Uint.l0]
        rw [if_pos (by omega), HW.out, if_neg (by omega), if_neg (by omega), if_pos (by omega), if_pos (by omega), HRD.out, HSTEP.out _ rfl, HJ1.out]
end
theorem ev_refuint (l : List Int) (a : Int) (hb : Hand.bytes l) (hl : l.length ≤ 2000) : Ev (fun k => murmurationref03_Uint.f k l a) (uintL l a) := by
  by_cases h0 : a < 0
  · refine Ev.congr (f := fun k => murmurationref03_Uint.j0 k l a true) (fun k => by unfold murmurationref03_Uint.f; rw [if_pos h0]) (Ev.step (f := fun _ => some _) (fun k => ?_) (Ev.now _))
    simp only [murmurationref03_Uint.j0]
    unfold uintL
    rw [if_pos trivial, if_pos (Or.inl h0)]
  · obtain ⟨n, rfl⟩ : ∃ n : Nat, a = n := ⟨a.toNat, by omega⟩
    refine Ev.congr (f := fun k => murmurationref03_Uint.j0 k l n (decide ((n : Int) > l.length))) (fun k => by unfold murmurationref03_Uint.f; rw [if_neg h0]) ?_
    by_cases h1 : (n : Int) > l.length
    · refine Ev.step (f := fun _ => some _) (fun k => ?_) (Ev.now _)
      simp only [murmurationref03_Uint.j0]
      unfold uintL
      rw [if_pos (decide_eq_true h1), if_pos (Or.inr h1)]
    · by_cases h2 : (n : Int) = l.length
      · refine Ev.step (f := fun _ => some _) (fun k => ?_) (Ev.now _)
        simp only [murmurationref03_Uint.j0]
        unfold uintL
        rw [if_neg (by simp; omega), if_pos h2, if_neg (by omega), if_pos (by simp; omega)]
      · have hn : n < l.length := by omega
        have hr := rd_byte hb n hn
        obtain ⟨c, hc⟩ : ∃ c : Nat, rd l (n : Int) = c := ⟨(rd l (n : Int)).toNat, by omega⟩
        have hw : wrap64 (rd l (n : Int)) = (c : Int) := by rw [hc]; unfold wrap64; omega
        by_cases h8 : 8 < c
        · refine Ev.step (f := fun _ => some _) (fun k => ?_) (Ev.now _)
          simp only [murmurationref03_Uint.j0]
          rw [if_neg (by simp; omega), if_neg h2, if_pos (by omega), if_pos (by omega), hw, if_pos (by omega), uintL_at l n hn, hc, if_pos (Or.inl (by omega))]
        · refine Ev.step (fun k => ?_) (ev_uint_loop l n c hb hl hn hc (by omega) c 0 (by omega) (Nat.zero_le _) (fun h => absurd h (by omega)))
          simp only [murmurationref03_Uint.j0]
          rw [if_neg (by simp; omega), if_neg h2, if_pos (by omega), if_pos (by omega), hw, if_neg (by omega)]
          rfl
theorem ev_bytes_loop (l : List Int) (n a : Nat) (hl : l.length ≤ 2000) (hn : n ≤ 9223372036854775807) (ha : a ≤ l.length) :
    ∀ d j, a + j + d = l.length → j ≤ n →
      Ev (fun k => murmurationref03_Bytes.l0 k l (n : Int) (a : Int) ((l.drop a).take j) (j : Int)) (if (l.length : Int) - (a : Int) < (n : Int) then ([], 0, 4) else ((l.drop a).take n, (a : Int) + (n : Int), 0)) := by
  intro d
  have hwn : wrap64 (n : Int) = n := by unfold wrap64; omega
  have hpl : (l.drop a).length = l.length - a := by simp
  induction d with
  | zero =>
    intro j hj hjn
    refine Ev.step (f := fun _ => some _) (fun k => ?_) (Ev.now _)
    simp only [murmurationref03_Bytes.l0]
    rw [hwn]
    by_cases h : j = n
    · rw [if_neg (by omega), if_neg (by omega), h]
      refine congrArg some (Prod.ext rfl (Prod.ext ?_ rfl))
      show wrap64 ((a : Int) + (n : Int)) = (a : Int) + (n : Int)
      unfold wrap64; omega
    · rw [if_pos (by omega), if_pos (by unfold wrap64; omega), if_pos (by omega)]
  | succ d ih =>
    intro j hj hjn
    by_cases h : j = n
    · refine Ev.step (f := fun _ => some _) (fun k => ?_) (Ev.now _)
      simp only [murmurationref03_Bytes.l0]
      rw [hwn, if_neg (by omega), if_neg (by omega), h]
      refine congrArg some (Prod.ext rfl (Prod.ext ?_ rfl))
      show wrap64 ((a : Int) + (n : Int)) = (a : Int) + (n : Int)
      unfold wrap64; omega
    · have hw : wrap64 ((a : Int) + (j : Int)) = ((a + j : Nat) : Int) := by unfold wrap64; omega
      refine Ev.step (fun k => ?_) (ih (j + 1) (by omega) (by omega))
      simp only [murmurationref03_Bytes.l0]
      have hw1 : wrap64 ((j : Int) + 1) = ((j + 1 : Nat) : Int) := by unfold wrap64; omega
      rw [hwn, if_pos (by omega), hw, if_neg (by omega), if_pos (by omega), if_pos (by omega), if_pos (by simp; omega), ← rd_dropn l a j, ← take_snocn _ _ (by omega), hw1]
theorem ev_refbytes (l : List Int) (a most : Int) (hb : Hand.bytes l) (hl : l.length ≤ 2000) (hm : most ≤ 9223372036854775807) : Ev (fun k => murmurationref03_Bytes.f k l a most) (bytesL l a most) := by
  refine Ev.congr (fun k => rfl) ((ev_refuint l a hb hl).bind ?_)
  rw [bytesL_eq]
  by_cases h1 : (uintL l a).2.2 = 0
  · obtain ⟨u1, u2, u3, u4, u5⟩ := uintL_ok l a hb h1
    simp only [h1, if_true, ne_eq, not_true_eq_false, if_false]
    by_cases h2 : most < 0
    · simp only [h2, if_true, true_or]
      refine Ev.step (f := fun _ => some _) (fun k => ?_) (Ev.now _)
      simp only [murmurationref03_Bytes.j0]
      rw [if_pos trivial]
    · simp only [h2, if_false, false_or]
      rw [wrap_u64i most (by omega) (by omega)]
      by_cases h3 : most < (uintL l a).1
      · refine Ev.step (f := fun _ => some _) (fun k => ?_) (Ev.now _)
        simp only [murmurationref03_Bytes.j0]
        rw [if_pos (decide_eq_true h3), if_pos h3]
      · obtain ⟨n, hn⟩ : ∃ n : Nat, (uintL l a).1 = n := ⟨(uintL l a).1.toNat, by omega⟩
        obtain ⟨a', ha'⟩ : ∃ n : Nat, (uintL l a).2.1 = n := ⟨(uintL l a).2.1.toNat, by omega⟩
        rw [hn] at h3 ⊢
        rw [ha'] at u5 ⊢
        rw [if_neg h3, Int.toNat_natCast, Int.toNat_natCast]
        refine Ev.step (fun k => ?_) (ev_bytes_loop l n a' hl (by omega) (by omega) (l.length - a') 0 (by omega) (Nat.zero_le _))
        simp only [murmurationref03_Bytes.j0]
        rw [if_neg (by simp; omega)]
        rfl
  · simp only [h1, if_false, ne_eq, not_false_eq_true, if_true]
    exact Ev.now _
theorem bytesL_ok (l : List Int) (a most : Int) (hb : Hand.bytes l) (he : (bytesL l a most).2.2 = 0) : 0 ≤ a ∧ a < (bytesL l a most).2.1 ∧ (bytesL l a most).2.1 ≤ l.length := by
  rw [bytesL_eq] at he ⊢
  by_cases h1 : (uintL l a).2.2 = 0
  · obtain ⟨u1, u2, u3, u4, u5⟩ := uintL_ok l a hb h1
    rw [if_neg (by simp [h1])] at he ⊢
    split at he
    · simp at he
    · split at he
      · simp at he
      · rename_i g1 g2
        rw [if_neg g1, if_neg g2]
        refine ⟨u3, ?_, ?_⟩
        · show a < (uintL l a).2.1 + (uintL l a).1
          omega
        · show (uintL l a).2.1 + (uintL l a).1 ≤ l.length
          omega
  · rw [if_pos h1] at he
    exact absurd he h1
theorem ev_list_loop (l : List Int) (most : Int) (hb : Hand.bytes l) (hl : l.length ≤ 2000) (hm : most ≤ 9223372036854775807) :
    ∀ (d a : Nat) (n0 i : Nat) (acc : List (List Int)), a + d = l.length → acc.length ≤ a → i ≤ n0 → n0 < 18446744073709551616 →
      ∃ r, Ev (fun k => wire_List.l0 k l (a : Int) most acc ((n0 - i : Nat) : Int)) r ∧ Ev (fun k => murmurationref03_List.l0 k l most (n0 : Int) (a : Int) acc (i : Int)) r := by
  intro d
  induction d using Nat.strongRecOn with
  | _ d ih =>
    intro a n0 i acc ha hacc hi hn
    by_cases h : i = n0
    · refine ⟨(acc, (a : Int), 0), Ev.step (f := fun _ => some _) (fun k => ?_) (Ev.now _), Ev.step (f := fun _ => some _) (fun k => ?_) (Ev.now _)⟩
      · simp only [wire_List.l0]
        rw [if_neg (by omega)]
      · simp only [murmurationref03_List.l0]
        rw [if_neg (by omega)]
    · have hB := ev_rbytes l a most hb (by omega) hm
      have hR := ev_refbytes l a most hb hl hm
      by_cases he : (bytesL l a most).2.2 = 0
      · obtain ⟨b1, b2, b3⟩ := bytesL_ok l a most hb he
        obtain ⟨a', ha'⟩ : ∃ n : Nat, (bytesL l a most).2.1 = n := ⟨(bytesL l a most).2.1.toNat, by omega⟩
        obtain ⟨r, r1, r2⟩ := ih (l.length - a') (by omega) a' n0 (i + 1) (acc ++ [(bytesL l a most).1]) (by omega) (by simp; omega) (by omega) hn
        refine ⟨r, ?_, ?_⟩
        · refine Ev.step (f := fun k => (wire_Bytes.f k l a most).bind fun bt106 => (if bt106.2.2 = 0 then (if acc.length < 5864062014805 then (wire_List.l0 k l bt106.2.1 most (acc ++ [bt106.1]) (IntKind.u64.wrap (((n0 - i : Nat) : Int) - 1))) else (none)) else (some (([] : List (List Int)), 0, bt106.2.2)))) (fun k => ?_) (hB.bind ?_)
          · simp only [wire_List.l0]
            rw [if_pos (by omega)]
          · simp only [he, if_true]
            refine Ev.congr (fun k => ?_) r1
            rw [if_pos (by omega), ha', wrap_u64i _ (by omega) (by omega), show ((n0 - i : Nat) : Int) - 1 = ((n0 - (i + 1) : Nat) : Int) by omega]
        · refine Ev.step (f := fun k => (murmurationref03_Bytes.f k l a most).bind fun bt106 => (if bt106.2.2 = 0 then (if acc.length < 5864062014805 then (murmurationref03_List.l0 k l most n0 bt106.2.1 (acc ++ [bt106.1]) (IntKind.u64.wrap ((i : Int) + 1))) else (none)) else (some (([] : List (List Int)), 0, bt106.2.2)))) (fun k => ?_) (hR.bind ?_)
          · simp only [murmurationref03_List.l0]
            rw [if_pos (by omega)]
          · simp only [he, if_true]
            refine Ev.congr (fun k => ?_) r2
            rw [if_pos (by omega), ha', wrap_u64i _ (by omega) (by omega)]
            rfl
      · refine ⟨(([] : List (List Int)), 0, (bytesL l a most).2.2), ?_, ?_⟩
        · refine Ev.step (f := fun k => (wire_Bytes.f k l a most).bind fun bt106 => (if bt106.2.2 = 0 then (if acc.length < 5864062014805 then (wire_List.l0 k l bt106.2.1 most (acc ++ [bt106.1]) (IntKind.u64.wrap (((n0 - i : Nat) : Int) - 1))) else (none)) else (some (([] : List (List Int)), 0, bt106.2.2)))) (fun k => ?_) (hB.bind ?_)
          · simp only [wire_List.l0]
            rw [if_pos (by omega)]
          · simp only [he, if_false]
            exact Ev.now _
        · refine Ev.step (f := fun k => (murmurationref03_Bytes.f k l a most).bind fun bt106 => (if bt106.2.2 = 0 then (if acc.length < 5864062014805 then (murmurationref03_List.l0 k l most n0 bt106.2.1 (acc ++ [bt106.1]) (IntKind.u64.wrap ((i : Int) + 1))) else (none)) else (some (([] : List (List Int)), 0, bt106.2.2)))) (fun k => ?_) (hR.bind ?_)
          · simp only [murmurationref03_List.l0]
            rw [if_pos (by omega)]
          · simp only [he, if_false]
            exact Ev.now _
theorem ev_lists (l : List Int) (a many most : Int) (hb : Hand.bytes l) (hl : l.length ≤ 2000) (hy : many ≤ 9223372036854775807) (hm : most ≤ 9223372036854775807) :
    ∃ r, Ev (fun k => wire_List.f k l a many most) r ∧ Ev (fun k => murmurationref03_List.f k l a many most) r := by
  have hU := ev_ruint l a hb
  have hR := ev_refuint l a hb hl
  by_cases he : (uintL l a).2.2 = 0
  · obtain ⟨u1, u2, u3, u4, u5⟩ := uintL_ok l a hb he
    by_cases h2 : many < 0
    · refine ⟨(([] : List (List Int)), 0, 3), Ev.congr (fun k => rfl) (hU.bind ?_), Ev.congr (fun k => rfl) (hR.bind ?_)⟩
      · simp only [he, h2, if_true]
        exact Ev.now _
      · simp only [he, h2, if_true]
        refine Ev.step (f := fun _ => some _) (fun k => ?_) (Ev.now _)
        simp only [murmurationref03_List.j0]
        rw [if_pos trivial]
    · by_cases h3 : (uintL l a).1 > many
      · refine ⟨(([] : List (List Int)), 0, 3), Ev.congr (fun k => rfl) (hU.bind ?_), Ev.congr (fun k => rfl) (hR.bind ?_)⟩
        · simp only [he, h2, if_true, if_false, wrap_u64i many (by omega) (by omega), h3]
          exact Ev.now _
        · simp only [he, h2, if_true, if_false, wrap_u64i many (by omega) (by omega)]
          refine Ev.step (f := fun _ => some _) (fun k => ?_) (Ev.now _)
          simp only [murmurationref03_List.j0]
          rw [if_pos (decide_eq_true h3)]
      · obtain ⟨n, hn⟩ : ∃ n : Nat, (uintL l a).1 = n := ⟨(uintL l a).1.toNat, by omega⟩
        obtain ⟨a', ha'⟩ : ∃ n : Nat, (uintL l a).2.1 = n := ⟨(uintL l a).2.1.toNat, by omega⟩
        obtain ⟨r, r1, r2⟩ := ev_list_loop l most hb hl hm (l.length - a') a' n 0 [] (by omega) (Nat.zero_le _) (Nat.zero_le _) (by omega)
        rw [Nat.sub_zero] at r1
        rw [hn] at h3
        refine ⟨r, Ev.congr (fun k => rfl) (hU.bind ?_), Ev.congr (fun k => rfl) (hR.bind ?_)⟩
        · simp only [he, h2, if_true, if_false, wrap_u64i many (by omega) (by omega), h3, hn, ha']
          exact r1
        · simp only [he, h2, if_true, if_false, wrap_u64i many (by omega) (by omega), hn, ha']
          refine Ev.step (fun k => ?_) r2
          simp only [murmurationref03_List.j0]
          rw [if_neg (by simp; omega)]
          rfl
  · refine ⟨(([] : List (List Int)), 0, (uintL l a).2.2), Ev.congr (fun k => rfl) (hU.bind ?_), Ev.congr (fun k => rfl) (hR.bind ?_)⟩
    · simp only [he, if_false]
      exact Ev.now _
    · simp only [he, if_false]
      exact Ev.now _
end Go.Proofs.Ytekhejpkmlhllaa.MWireReads
