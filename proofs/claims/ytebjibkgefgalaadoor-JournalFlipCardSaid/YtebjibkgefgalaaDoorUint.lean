/- What calls of Go functions of this seat come to, as the rows need it: under the conditions that each theorem names. -/
import Derived.Test.YtebjibkgefgalaaDoorHandB
namespace Go.Proofs.YtebjibkgefgalaaDoor.Hand
open Go.RowKit Go.Proofs.YtebjibkgefgalaaDoorW.PrintWords Go.Proofs.YtebjibkgefgalaaDoorW.PrintLast Go.Proofs.YtebjibkgefgalaaDoorW.PrintMore
set_option linter.unusedVariables false
set_option linter.unusedSimpArgs false

theorem cutB (A : Option Addr) (c : Nat) (l : List Int) (n : Nat) (hn : n ≤ l.length) (hc : l.length ≤ c) :
    ∃ (A' : Option Addr) (c' : Nat), (∀ W : World, (Instr.slice 22 (.slice A l.length c) (some (.int .i64 (n : Int))) none none).run Tryd.prog W = .ok (.slice A' (l.drop n).length c') W) ∧
      (∀ w : World, B.C w A l.length l → B.C w A' (l.drop n).length (l.drop n)) ∧ (l.drop n).length ≤ c' := by
  obtain ⟨i0, hi, _, hsz, _⟩ := info_parts info5
  obtain ⟨A', h1, h2, h3⟩ := print_drop_of (P := Tryd.prog) (Value.int .u8) 0 22 5 .i64 Tryd.underlying22 hi hsz A c l (n : Int) (by omega) (by omega) hc
  simp only [Int.toNat_natCast] at h1 h2 h3
  exact ⟨A', _, h1, fun w h => Kd.C_of_reads (h1 := fun _ => rfl) (h2 w (Kd.reads_of_C h)), h3⟩
theorem takeB (A : Option Addr) (c : Nat) (l : List Int) (n : Nat) (hn : n ≤ l.length) (hc : l.length ≤ c) :
    (∀ W : World, (Instr.slice 22 (.slice A l.length c) none (some (.int .i64 (n : Int))) none).run Tryd.prog W = .ok (.slice A (l.take n).length c) W) ∧
      (∀ w : World, B.C w A l.length l → B.C w A (l.take n).length (l.take n)) ∧ (l.take n).length ≤ c := by
  obtain ⟨i0, hi, _, hsz, _⟩ := info_parts info5
  obtain ⟨h1, h2, h3⟩ := print_take_of (P := Tryd.prog) (Value.int .u8) 0 22 5 .i64 Tryd.underlying22 hi hsz A c l (n : Int) (by omega) (by omega) hc
  simp only [Int.toNat_natCast] at h1 h2 h3
  exact ⟨h1, fun w h => Kd.C_of_reads (h1 := fun _ => rfl) (h2 w (Kd.reads_of_C h)), h3⟩
theorem getB {w : World} {A : Option Addr} {n : Nat} {xs : List Int} (h : B.C w A n xs) (k : Nat) (hk : k < n) : ∃ ad, A = some ad ∧ w.cell? (ad.add k) = some (.int .u8 (rd xs (k : Int))) := by
  obtain ⟨ad, e, hx⟩ := Kd.at_int h (k : Int) (by omega) (by omega)
  exact ⟨ad, e, by simpa using hx⟩
def bytes (l : List Int) : Prop := ∀ x ∈ l, 0 ≤ x ∧ x < 256
theorem bytes_rd {l : List Int} (h : bytes l) (k : Nat) (hk : k < l.length) : 0 ≤ rd l (k : Int) ∧ rd l (k : Int) < 256 := by
  unfold rd
  rw [Int.toNat_natCast, List.getD_eq_getElem?_getD, List.getElem?_eq_getElem hk]
  exact h _ (List.getElem_mem hk)
theorem bytes_drop {l : List Int} (h : bytes l) (k : Nat) : bytes (l.drop k) := fun x hx => h x (List.mem_of_mem_drop hx)
theorem bytes_take {l : List Int} (h : bytes l) (k : Nat) : bytes (l.take k) := fun x hx => h x (List.mem_of_mem_take hx)

/-- The number of a row of bytes, the greatest digit first. -/
def numL (l : List Int) : Int := l.foldl (fun n x => IntKind.u64.wrap (n * 256 + x)) 0
theorem numL_snoc (l : List Int) (x : Int) : numL (l ++ [x]) = IntKind.u64.wrap (numL l * 256 + x) := by simp [numL]
theorem take_snoc_rd (l : List Int) (k : Nat) (h : k < l.length) : l.take (k + 1) = l.take k ++ [rd l (k : Int)] := by
  rw [List.take_succ_eq_append_getElem h]
  unfold rd
  rw [Int.toNat_natCast, List.getD_eq_getElem?_getD, List.getElem?_eq_getElem h]
  rfl
theorem wrap_shl (n x : Int) : IntKind.u64.wrap (IntKind.u64.wrap (n * 256) + x) = IntKind.u64.wrap (n * 256 + x) := by
  simp [IntKind.wrap, IntKind.bits, IntKind.signed]
/-- What wire.Uint tells. -/
def uintL (l : List Int) (a : Int) : Int × Int × Int :=
  if a < 0 ∨ (l.length : Int) < a then (0, 0, 2)
  else if (l.drop a.toNat).length = 0 then (0, 0, 4)
  else if 8 < rd (l.drop a.toNat) (0 : Nat) ∨ (0 < rd (l.drop a.toNat) (0 : Nat) ∧ 0 < ((l.drop a.toNat).drop 1).length ∧ rd ((l.drop a.toNat).drop 1) (0 : Nat) = 0) then (0, 0, 5)
  else if (((l.drop a.toNat).drop 1).length : Int) < rd (l.drop a.toNat) (0 : Nat) then (0, 0, 4)
  else (numL (((l.drop a.toNat).drop 1).take (rd (l.drop a.toNat) (0 : Nat)).toNat), a + 1 + rd (l.drop a.toNat) (0 : Nat), 0)
abbrev U3 (r : Int × Int × Int) : Value := .tuple #[.int .u64 r.1, .int .i64 r.2.1, .int .i64 r.2.2]

set_option maxHeartbeats 1600000 in
set_option maxRecDepth 100000 in
theorem uint_calls (A0 : Option Addr) (c0 : Nat) (l0 : List Int) (a : Int) (w : World) (hr0 : B.C w A0 l0.length l0) (hc0 : l0.length ≤ c0) (hb : bytes l0) :
    Calls Tryd.prog 39 #[.slice A0 l0.length c0, .int .i64 a] w fun e w' => e = .returned (U3 (uintL l0 a)) ∧ w' = w := by
  have HR := Aside0.mk hr0
  have HB := Aside0.mk hb
  have hlen : l0.length ≤ 9223372036854775807 := hr0.2.1
  clear hr0 hb
  by_cases ha : a < 0
  · have HU := Aside0.mk (show uintL l0 a = (0, 0, 2) by unfold uintL; rw [if_pos (.inl ha)])
    go_enter Tryd.func39, Tryd.ntmps39
    go_wp2
    go_ret3
    exact ⟨by rw [HU.out]; rfl, rfl⟩
  by_cases ha2 : (l0.length : Int) < a
  · have HU := Aside0.mk (show uintL l0 a = (0, 0, 2) by unfold uintL; rw [if_pos (.inr ha2)])
    go_enter Tryd.func39, Tryd.ntmps39
    go_wp2
    go_ret3
    exact ⟨by rw [HU.out]; rfl, rfl⟩
  obtain ⟨n, rfl⟩ := Int.eq_ofNat_of_zero_le (show 0 ≤ a by omega)
  obtain ⟨A7, c7, hcut, hrd, hc7⟩ := cutB A0 c0 l0 n (by omega) hc0
  have HU0 := Aside0.mk (show uintL l0 n = if (l0.drop n).length = 0 then (0, 0, 4) else if 8 < rd (l0.drop n) (0 : Nat) ∨ (0 < rd (l0.drop n) (0 : Nat) ∧ 0 < ((l0.drop n).drop 1).length ∧ rd ((l0.drop n).drop 1) (0 : Nat) = 0) then (0, 0, 5)
    else if (((l0.drop n).drop 1).length : Int) < rd (l0.drop n) (0 : Nat) then (0, 0, 4) else (numL (((l0.drop n).drop 1).take (rd (l0.drop n) (0 : Nat)).toNat), n + 1 + rd (l0.drop n) (0 : Nat), 0) by unfold uintL; rw [if_neg (by omega), Int.toNat_natCast])
  have HR7 := Aside0.mk (hrd w HR.out)
  have HB7 := Aside0.mk (bytes_drop HB.out n)
  have hr7 : (l0.drop n).length ≤ 9223372036854775807 := by rw [List.length_drop]; omega
  have hn7 : n + (l0.drop n).length ≤ l0.length := by rw [List.length_drop]; omega
  clear hrd HR HB
  generalize l0.drop n = r at *
  by_cases h0 : r.length = 0
  · have HU := Aside0.mk (show uintL l0 n = (0, 0, 4) by rw [HU0.out, if_pos h0])
    clear HU0
    go_enter Tryd.func39, Tryd.ntmps39
    go_wp2
    go_ret3
    exact ⟨by rw [HU.out]; rfl, rfl⟩
  obtain ⟨ad7, rfl, hx7⟩ := getB HR7.out 0 (by omega)
  obtain ⟨hs0, hs1⟩ := bytes_rd HB7.out 0 (by omega)
  obtain ⟨A8, c8, hcut8, hrd8, hc8⟩ := cutB _ c7 r 1 (by omega) hc7
  have HR8 := Aside0.mk (hrd8 w HR7.out)
  have HB8 := Aside0.mk (bytes_drop HB7.out 1)
  have hl8 : (r.drop 1).length + 1 = r.length := by rw [List.length_drop]; omega
  clear hrd8
  have HU := Aside0.mk (HU0.out.trans (if_neg h0))
  clear HU0
  replace hcut8 : ∀ W : World, (Instr.slice 22 (.slice (some ad7) r.length c7) (some (.int .i64 1)) none none).run Tryd.prog W = .ok (.slice A8 (r.drop 1).length c8) W := hcut8
  generalize r.drop 1 = q at *
  generalize rd r (0 : Nat) = s at *
  simp only [Addr.add_zero'] at hx7
  obtain ⟨m, rfl⟩ := Int.eq_ofNat_of_zero_le hs0
  have hne : ¬ r.length = 0 := h0
  by_cases h8 : 8 < (m : Int)
  · replace HU := Aside0.mk (HU.out.trans (if_pos (.inl h8)))
    go_enter Tryd.func39, Tryd.ntmps39
    go_wp2
    go_ret3
    exact ⟨by rw [HU.out]; rfl, rfl⟩
  by_cases hz : 0 < (m : Int) ∧ 0 < q.length
  · obtain ⟨hz1, hz2⟩ := hz
    obtain ⟨ad8, rfl, hx8⟩ := getB HR8.out 0 hz2
    simp only [Addr.add_zero'] at hx8
    by_cases hq : rd q (0 : Nat) = 0
    · replace HU := Aside0.mk (HU.out.trans (if_pos (.inr ⟨hz1, hz2, hq⟩)))
      rw [hq] at hx8
      clear hq
      go_enter Tryd.func39, Tryd.ntmps39
      go_wp2
      go_ret3
      exact ⟨by rw [HU.out]; rfl, rfl⟩
    · replace HU := Aside0.mk (HU.out.trans (if_neg (by omega)))
      have hqb : (rd q (0 : Nat) == 0) = false := by simpa using hq
      clear hq
      generalize rd q (0 : Nat) = q0 at *
      by_cases hsh : (q.length : Int) < m
      · replace HU := Aside0.mk (HU.out.trans (if_pos hsh))
        go_enter Tryd.func39, Tryd.ntmps39
        go_wp2
        go_ret3
        exact ⟨by rw [HU.out]; rfl, rfl⟩
      · obtain ⟨hcut9, hrd9, hc9⟩ := takeB _ c8 q m (by omega) hc8
        have HU9 := Aside0.mk (HU.out.trans (if_neg (by omega)))
        have HR9 := Aside0.mk (hrd9 w HR8.out)
        have HB9 := Aside0.mk (bytes_take HB8.out m)
        have hl9 : (q.take m).length = m := by rw [List.length_take]; omega
        rw [hl9] at hcut9 hc9
        have HL9 := Aside0.mk hl9
        simp only [Int.toNat_natCast] at HU9
        clear hrd9 hl9
        generalize q.take m = p at *
        go_enter Tryd.func39, Tryd.ntmps39
        go_wp2
        go_loop [4, 56] (fun v i => ∃ k : Nat, k ≤ m ∧ i = .int .i64 k ∧ v = .int .u64 (numL (p.take k))) (fun _ i => m - (intOf i).toNat)
        case atStart => exact ⟨0, Nat.zero_le _, rfl, rfl⟩
        case round =>
          obtain ⟨k, hk, rfl, rfl⟩ := hrel
          by_cases hlt : k < m
          · obtain ⟨ad9, e9, hx9⟩ := getB HR9.out k (by rw [HL9.out]; exact hlt)
            cases e9
            obtain ⟨hy0, hy1⟩ := bytes_rd HB9.out k (by rw [HL9.out]; exact hlt)
            have HN := Aside0.mk (show numL (p.take (k + 1)) = IntKind.u64.wrap (numL (p.take k) * 256 + rd p (k : Int)) by rw [take_snoc_rd p k (by rw [HL9.out]; exact hlt), numL_snoc])
            generalize rd p (k : Int) = y at *
            go_wp2
            go_round
            case rel => exact ⟨k + 1, by omega, by go_num, ival (by rw [HN.out]; exact wrap_shl _ _)⟩
            case measure => simp [intOf]; omega
          · obtain rfl : k = m := by omega
            go_wp2
            go_ret3
            exact ⟨by rw [HU9.out]; simp only [U3]; rw [List.take_of_length_le (by rw [HL9.out]; exact Nat.le_refl _)]; rfl, rfl⟩
  · replace HU := Aside0.mk (HU.out.trans (if_neg (by omega)))
    by_cases hm0 : m = 0
    · subst hm0
      have hsh : ¬ (q.length : Int) < ((0 : Nat) : Int) := by omega
      obtain ⟨hcut9, hrd9, hc9⟩ := takeB _ c8 q 0 (by omega) hc8
      have HU9 := Aside0.mk (HU.out.trans (if_neg (by omega)))
      replace hcut9 : ∀ W : World, (Instr.slice 22 (.slice A8 q.length c8) none (some (.int .i64 0)) none).run Tryd.prog W = .ok (.slice A8 0 c8) W := hcut9
      clear hrd9 hc9
      go_enter Tryd.func39, Tryd.ntmps39
      go_wp2
      go_loop [4, 56] (fun v i => i = .int .i64 0 ∧ v = .int .u64 0) (fun _ i => (intOf i).toNat)
      case atStart => exact ⟨rfl, rfl⟩
      case round =>
        obtain ⟨rfl, rfl⟩ := hrel
        go_wp2
        go_ret3
        exact ⟨by rw [HU9.out]; rfl, rfl⟩
    · have hz1 : 0 < (m : Int) := by omega
      have hz2 : ¬ 0 < q.length := fun h => hz ⟨hz1, h⟩
      have hsh : (q.length : Int) < m := by omega
      replace HU := Aside0.mk (HU.out.trans (if_pos hsh))
      go_enter Tryd.func39, Tryd.ntmps39
      go_wp2
      go_ret3
      exact ⟨by rw [HU.out]; rfl, rfl⟩
end Go.Proofs.YtebjibkgefgalaaDoor.Hand
