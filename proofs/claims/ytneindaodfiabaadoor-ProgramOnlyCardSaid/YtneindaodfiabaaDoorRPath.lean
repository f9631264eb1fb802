/- What calls of Go functions of this seat come to, as the rows need it: under the conditions that each theorem names. -/
import Derived.Test.YtneindaodfiabaaDoorPath
import Derived.Test.YtneindaodfiabaaDoorRdr
namespace Go.Proofs.YtneindaodfiabaaDoor.Prog6
open Go.RowKit Go.Proofs.YtneindaodfiabaaDoorW.PrintWords Go.Proofs.YtneindaodfiabaaDoorW.PrintLast Go.Proofs.YtneindaodfiabaaDoorW.PrintMore
set_option linter.unusedVariables false
set_option linter.unusedSimpArgs false
/-- The byte ahead of a place; a stroke ahead of the first one. -/
def prevB (s : ByteArray) (i : Nat) : Int := if h : 0 < i ∧ i ≤ s.size then ((s[i - 1]'(by omega)).toNat : Nat) else 47
def restP (s : ByteArray) (i : Nat) : Bool := pathFrom s (s.size - i) i (prevB s i)
def lastOk (s : ByteArray) : Bool := if h : 0 < s.size then !((((s[s.size - 1]'(by omega)).toNat : Nat) : Int) == 47) else true
theorem isPath_rest (s : ByteArray) (h1 : 1 ≤ s.size) (h2 : s.size ≤ 40) : isPath s = (lastOk s && restP s 0) := by
  unfold isPath lastOk restP prevB
  rw [dif_pos ⟨h1, h2⟩, dif_pos (by omega), dif_neg (by omega)]
  simp only [Nat.sub_zero]
  cases ((((s[s.size - 1]'(by omega)).toNat : Nat) : Int) == 47) <;> simp
theorem restP_end (s : ByteArray) (i : Nat) (h : s.size ≤ i) : restP s i = true := by
  unfold restP
  rw [show s.size - i = 0 by omega]
  rfl
theorem plain_nat (b : Nat) : plain (b : Int) = (decide (97 ≤ b ∧ b ≤ 122) || decide (48 ≤ b ∧ b ≤ 57) || decide (b = 46) || decide (b = 95) || decide (b = 45)) := by
  unfold plain
  rw [Bool.eq_iff_iff]
  simp only [Bool.or_eq_true, Bool.and_eq_true, decide_eq_true_eq, beq_iff_eq]
  omega
theorem plain_high (r : Int) (h : 128 ≤ r) : plain r = false := by
  unfold plain
  rw [Bool.eq_false_iff]
  simp only [ne_eq, Bool.or_eq_true, Bool.and_eq_true, decide_eq_true_eq, beq_iff_eq]
  omega
theorem restP_step (s : ByteArray) (i : Nat) (h : i < s.size) (b : Nat) (hb : (s[i]'h).toNat = b) :
    restP s i = if plain (b : Int) = true ∨ (b = 47 ∧ prevB s i ≠ 47) then restP s (i + 1) else false := by
  have hp : prevB s (i + 1) = (b : Int) := by
    unfold prevB
    rw [dif_pos ⟨by omega, by omega⟩]
    simp only [Nat.add_sub_cancel, hb]
  have hf : s.size - i = (s.size - (i + 1)) + 1 := by omega
  unfold restP
  rw [hf, pathFrom, if_pos h]
  by_cases ha : b < 128
  · have hd := decode_ascii s i h (by rw [hb]; exact ha)
    rw [hd, hb]
    simp only []
    by_cases hc : plain (b : Int) = true ∨ (b = 47 ∧ prevB s i ≠ 47)
    · rw [if_pos hc, if_neg, hp]
      rintro hx
      simp only [Bool.and_eq_true, Bool.not_eq_true', Bool.or_eq_true, bne_iff_ne, beq_iff_eq, ne_eq] at hx
      rcases hc with hc | ⟨h1, h2⟩
      · rw [hx.1] at hc; cases hc
      · rcases hx.2 with h3 | h3
        · omega
        · exact h2 h3
    · rw [if_neg hc, if_pos]
      simp only [Bool.and_eq_true, Bool.not_eq_true', Bool.or_eq_true, bne_iff_ne, beq_iff_eq, ne_eq]
      refine ⟨by
        cases hq : plain (b : Int)
        · rfl
        · exact absurd (.inl hq) hc, ?_⟩
      by_cases h47 : b = 47
      · right
        exact Classical.byContradiction fun h2 => hc (.inr ⟨h47, h2⟩)
      · left
        omega
  · have hd := (decode_high s i h (by rw [hb]; omega)).1
    generalize hr : (Utf8.decode s i).1 = r at hd ⊢
    have hph := plain_high (r : Int) (by omega)
    have hpb := plain_high (b : Int) (by omega)
    rw [if_pos, if_neg]
    · rintro (h1 | h1)
      · rw [hpb] at h1; cases h1
      · omega
    · simp only [Bool.and_eq_true, Bool.not_eq_true', Bool.or_eq_true, bne_iff_ne, beq_iff_eq, ne_eq]
      exact ⟨hph, .inl (by omega)⟩
set_option maxHeartbeats 1600000 in
set_option maxRecDepth 100000 in
theorem risPath_calls (s : ByteArray) (w : World) (hs63 : s.size ≤ 9223372036854775807) :
    Calls Tryd.prog 35 #[.string s] w fun e w' => e = .returned (.bool (isPath s)) ∧ w' = w := by
  by_cases h1 : s.size < 1
  · have e1 : decide ((s.size : Int) < 1) = true := decide_eq_true (by omega)
    have e1' : decide (s.size < 1) = true := decide_eq_true h1
    have HV := Aside0.mk (show isPath s = false by unfold isPath; rw [dif_neg (by omega)])
    rw [HV.out]
    clear h1
    go_enter Tryd.func35, Tryd.ntmps35
    go_wp2
    go_ret
    exact ⟨rfl, rfl⟩
  have e1 : decide ((s.size : Int) < 1) = false := decide_eq_false (by omega)
  by_cases h2 : s.size > 40
  · have e2 : decide ((s.size : Int) > 40) = true := decide_eq_true (by omega)
    have HV := Aside0.mk (show isPath s = false by unfold isPath; rw [dif_neg (by omega)])
    rw [HV.out]
    clear h1 h2
    go_enter Tryd.func35, Tryd.ntmps35
    go_wp2
    go_ret
    exact ⟨rfl, rfl⟩
  have e2 : decide ((s.size : Int) > 40) = false := decide_eq_false (by omega)
  have HIR := Aside0.mk (isPath_rest s (by omega) (by omega))
  have hs40 : s.size ≤ 40 := by omega
  have hs1 : 1 ≤ s.size := by omega
  generalize isPath s = R at HIR ⊢
  clear hs63 h1 h2
  go_enter Tryd.func35, Tryd.ntmps35
  go_wp2
  clear e1 e2
  go_loopw [3] (fun v wr => ∃ k : Nat, k ≤ s.size ∧ v = .int .i64 (k : Int) ∧ Aside0 (R = (lastOk s && restP s k)) ∧ Aside0 (k = s.size → lastOk s = true) ∧ wr = w) (fun v _ => 41 - (intOf v).toNat)
  case atStart => exact ⟨0, Nat.zero_le _, rfl, HIR, ⟨fun h => by omega⟩, rfl⟩
  case round =>
    obtain ⟨k, hk, rfl, HI, HL, hwr⟩ := hrel
    replace hwr := hwr.symm
    subst hwr
    by_cases hlt : k < s.size
    · obtain ⟨b, hb⟩ : ∃ b, (s[k]'hlt).toNat = b := ⟨_, rfl⟩
      have hb256 : b < 256 := by rw [← hb]; exact (s[k]'hlt).toNat_lt
      have HST := Aside0.mk (restP_step s k hlt b hb)
      have HLS := Aside0.mk (show b ≠ 47 → k + 1 = s.size → lastOk s = true from fun h h2 => by
        unfold lastOk
        rw [dif_pos (by omega)]
        have e : s.size - 1 = k := by omega
        simp only [e, hb]
        rw [Bool.not_eq_true', beq_eq_false_iff_ne]
        omega)
      by_cases h47 : b = 47
      · have q47 : ((b : Int) == 47) = true := by rw [beq_iff_eq]; omega
        by_cases hk0 : k = 0
        · have HE := Aside0.mk (show R = false by
            rw [HI.out, HST.out, if_neg, Bool.and_false]
            rintro (h | h)
            · rw [plain_nat] at h; simp only [Bool.or_eq_true, decide_eq_true_eq] at h; omega
            · apply h.2
              unfold prevB
              rw [dif_neg (by omega)])
          have z1 : ((k : Int) == 0) = true := by rw [beq_iff_eq]; omega
          have z2 : (k == 0) = true := by rw [beq_iff_eq]; exact hk0
          clear h47 hk0
          go_wp2
          go_ret
          exact ⟨by rw [HE.out]; rfl, rfl⟩
        · have z1 : ((k : Int) == 0) = false := by rw [beq_eq_false_iff_ne]; omega
          have z2 : (k == 0) = false := by rw [beq_eq_false_iff_ne]; exact hk0
          by_cases hlast : k + 1 = s.size
          · have HE := Aside0.mk (show R = false by
              have hlo : lastOk s = false := by
                unfold lastOk
                rw [dif_pos (by omega)]
                have e : s.size - 1 = k := by omega
                simp only [e, hb, h47]
                rfl
              rw [HI.out, hlo, Bool.false_and])
            have y1 : ((k : Int) == (s.size : Int) - 1) = true := by rw [beq_iff_eq]; omega
            clear h47 hlast
            go_wp2
            go_ret
            exact ⟨by rw [HE.out]; rfl, rfl⟩
          · have y1 : ((k : Int) == (s.size : Int) - 1) = false := by rw [beq_eq_false_iff_ne]; omega
            obtain ⟨p, hp⟩ : ∃ p, k = p + 1 := ⟨k - 1, by omega⟩
            have hp1 : (k : Int) - 1 = (p : Int) := by omega
            have hps : p < s.size := by omega
            obtain ⟨b2, hb2⟩ : ∃ b2, (s[p]'hps).toNat = b2 := ⟨_, rfl⟩
            have HPV := Aside0.mk (show prevB s k = (b2 : Int) by
              unfold prevB
              rw [dif_pos ⟨by omega, by omega⟩]
              have e : k - 1 = p := by omega
              simp only [e, hb2])
            have HPP := Aside0.mk hp
            by_cases hv : b2 = 47
            · have HE := Aside0.mk (show R = false by
                rw [HI.out, HST.out, if_neg, Bool.and_false]
                rintro (h | h)
                · rw [plain_nat] at h; simp only [Bool.or_eq_true, decide_eq_true_eq] at h; omega
                · apply h.2
                  rw [HPV.out, hv]
                  rfl)
              have v1 : ((b2 : Int) == 47) = true := by rw [beq_iff_eq]; omega
              clear h47 hp hv hk0 hlast
              go_wp2
              go_ret
              exact ⟨by rw [HE.out]; rfl, rfl⟩
            · have v1 : ((b2 : Int) == 47) = false := by rw [beq_eq_false_iff_ne]; omega
              have HN := Aside0.mk (show R = (lastOk s && restP s (k + 1)) by
                rw [HI.out, HST.out, if_pos (.inr ⟨h47, by rw [HPV.out]; omega⟩)])
              have HLL := Aside0.mk (show k + 1 = s.size → lastOk s = true from fun h => absurd h hlast)
              clear h47 hp hv hk0 hlast
              go_wp2
              go_roundw
              case rel => exact ⟨k + 1, by omega, by go_num, HN, HLL, trivial⟩
              case measure => simp [intOf]; omega
      · have q47 : ((b : Int) == 47) = false := by rw [beq_eq_false_iff_ne]; omega
        replace HLS := Aside0.mk (HLS.out h47)
        by_cases cA : 97 ≤ b ∧ b ≤ 122
        · have d41 : decide ((b : Int) < 97) = false := decide_eq_false (by omega)
          have d44 : decide ((b : Int) > 122) = false := decide_eq_false (by omega)
          have HPL := Aside0.mk (show plain (b : Int) = true by rw [plain_nat]; simp only [Bool.or_eq_true, decide_eq_true_eq]; omega)
          clear cA h47
          go_wp2
          go_roundw
          case rel => exact ⟨k + 1, by omega, by go_num, ⟨by rw [HI.out, HST.out, if_pos (.inl HPL.out)]⟩, ⟨fun hk1 => HLS.out hk1⟩, trivial⟩
          case measure => simp [intOf]; omega
        by_cases cB : 48 ≤ b ∧ b ≤ 57
        · have d41 : decide ((b : Int) < 97) = true := decide_eq_true (by omega)
          have d48 : decide ((b : Int) < 48) = false := decide_eq_false (by omega)
          have d51 : decide ((b : Int) > 57) = false := decide_eq_false (by omega)
          have HPL := Aside0.mk (show plain (b : Int) = true by rw [plain_nat]; simp only [Bool.or_eq_true, decide_eq_true_eq]; omega)
          clear cB h47 cA
          go_wp2
          go_roundw
          case rel => exact ⟨k + 1, by omega, by go_num, ⟨by rw [HI.out, HST.out, if_pos (.inl HPL.out)]⟩, ⟨fun hk1 => HLS.out hk1⟩, trivial⟩
          case measure => simp [intOf]; omega
        by_cases cC : b = 46
        · have d41 : decide ((b : Int) < 97) = true := decide_eq_true (by omega)
          have d48 : decide ((b : Int) < 48) = true := decide_eq_true (by omega)
          have x46 : ((b : Int) != 46) = false := by rw [bne_eq_false_iff_eq]; omega
          have HPL := Aside0.mk (show plain (b : Int) = true by rw [plain_nat]; simp only [Bool.or_eq_true, decide_eq_true_eq]; omega)
          clear cC h47 cA cB
          go_wp2
          go_roundw
          case rel => exact ⟨k + 1, by omega, by go_num, ⟨by rw [HI.out, HST.out, if_pos (.inl HPL.out)]⟩, ⟨fun hk1 => HLS.out hk1⟩, trivial⟩
          case measure => simp [intOf]; omega
        by_cases cD : b = 95
        · have d41 : decide ((b : Int) < 97) = true := decide_eq_true (by omega)
          have d48 : decide ((b : Int) < 48) = false := decide_eq_false (by omega)
          have d51 : decide ((b : Int) > 57) = true := decide_eq_true (by omega)
          have n46 : ((b : Int) != 46) = true := by rw [bne_iff_ne]; omega
          have x95 : ((b : Int) != 95) = false := by rw [bne_eq_false_iff_eq]; omega
          have HPL := Aside0.mk (show plain (b : Int) = true by rw [plain_nat]; simp only [Bool.or_eq_true, decide_eq_true_eq]; omega)
          clear cD h47 cA cB cC
          go_wp2
          go_roundw
          case rel => exact ⟨k + 1, by omega, by go_num, ⟨by rw [HI.out, HST.out, if_pos (.inl HPL.out)]⟩, ⟨fun hk1 => HLS.out hk1⟩, trivial⟩
          case measure => simp [intOf]; omega
        by_cases cE : b = 45
        · have d41 : decide ((b : Int) < 97) = true := decide_eq_true (by omega)
          have d48 : decide ((b : Int) < 48) = true := decide_eq_true (by omega)
          have n46 : ((b : Int) != 46) = true := by rw [bne_iff_ne]; omega
          have n95 : ((b : Int) != 95) = true := by rw [bne_iff_ne]; omega
          have x45 : ((b : Int) != 45) = false := by rw [bne_eq_false_iff_eq]; omega
          have HPL := Aside0.mk (show plain (b : Int) = true by rw [plain_nat]; simp only [Bool.or_eq_true, decide_eq_true_eq]; omega)
          clear cE h47 cA cB cC cD
          go_wp2
          go_roundw
          case rel => exact ⟨k + 1, by omega, by go_num, ⟨by rw [HI.out, HST.out, if_pos (.inl HPL.out)]⟩, ⟨fun hk1 => HLS.out hk1⟩, trivial⟩
          case measure => simp [intOf]; omega
        by_cases cF : b < 48
        · have d41 : decide ((b : Int) < 97) = true := decide_eq_true (by omega)
          have d48 : decide ((b : Int) < 48) = true := decide_eq_true (by omega)
          have n46 : ((b : Int) != 46) = true := by rw [bne_iff_ne]; omega
          have n95 : ((b : Int) != 95) = true := by rw [bne_iff_ne]; omega
          have n45 : ((b : Int) != 45) = true := by rw [bne_iff_ne]; omega
          have HNP := Aside0.mk (show ¬ (plain (b : Int) = true ∨ (b = 47 ∧ prevB s k ≠ 47)) by
            rintro (h | h)
            · rw [plain_nat] at h; simp only [Bool.or_eq_true, decide_eq_true_eq] at h; omega
            · omega)
          clear cF h47 cA cB cC cD cE
          go_wp2
          go_ret
          exact ⟨by rw [HI.out, HST.out, if_neg HNP.out, Bool.and_false]; rfl, rfl⟩
        by_cases cG : b < 97
        · have d41 : decide ((b : Int) < 97) = true := decide_eq_true (by omega)
          have d48 : decide ((b : Int) < 48) = false := decide_eq_false (by omega)
          have d51 : decide ((b : Int) > 57) = true := decide_eq_true (by omega)
          have n46 : ((b : Int) != 46) = true := by rw [bne_iff_ne]; omega
          have n95 : ((b : Int) != 95) = true := by rw [bne_iff_ne]; omega
          have n45 : ((b : Int) != 45) = true := by rw [bne_iff_ne]; omega
          have HNP := Aside0.mk (show ¬ (plain (b : Int) = true ∨ (b = 47 ∧ prevB s k ≠ 47)) by
            rintro (h | h)
            · rw [plain_nat] at h; simp only [Bool.or_eq_true, decide_eq_true_eq] at h; omega
            · omega)
          clear cG h47 cA cB cC cD cE cF
          go_wp2
          go_ret
          exact ⟨by rw [HI.out, HST.out, if_neg HNP.out, Bool.and_false]; rfl, rfl⟩
        have d41 : decide ((b : Int) < 97) = false := decide_eq_false (by omega)
        have d44 : decide ((b : Int) > 122) = true := decide_eq_true (by omega)
        have d48 : decide ((b : Int) < 48) = false := decide_eq_false (by omega)
        have d51 : decide ((b : Int) > 57) = true := decide_eq_true (by omega)
        have n46 : ((b : Int) != 46) = true := by rw [bne_iff_ne]; omega
        have n95 : ((b : Int) != 95) = true := by rw [bne_iff_ne]; omega
        have n45 : ((b : Int) != 45) = true := by rw [bne_iff_ne]; omega
        have HNP := Aside0.mk (show ¬ (plain (b : Int) = true ∨ (b = 47 ∧ prevB s k ≠ 47)) by
          rintro (h | h)
          · rw [plain_nat] at h; simp only [Bool.or_eq_true, decide_eq_true_eq] at h; omega
          · omega)
        clear h47 cA cB cC cD cE cF cG
        go_wp2
        go_ret
        exact ⟨by rw [HI.out, HST.out, if_neg HNP.out, Bool.and_false]; rfl, rfl⟩
    · obtain rfl : k = s.size := by omega
      have HE := Aside0.mk (show R = true by rw [HI.out, HL.out rfl, restP_end s _ (Nat.le_refl _)]; rfl)
      have e3 : decide ((s.size : Int) < (s.size : Int)) = false := decide_eq_false (by omega)
      go_wp2
      go_ret
      exact ⟨by rw [HE.out]; rfl, rfl⟩
end Go.Proofs.YtneindaodfiabaaDoor.Prog6
