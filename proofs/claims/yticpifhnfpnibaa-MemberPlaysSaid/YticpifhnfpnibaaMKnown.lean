/- What calls of Go functions of this seat come to, as the rows need it: under the conditions that each theorem names. -/
import Derived.Test.YticpifhnfpnibaaAlive
namespace Go.Proofs.Yticpifhnfpnibaa.Mem
open Go.RowKit Go.Proofs.YticpifhnfpnibaaW.PrintWords Go.Proofs.YticpifhnfpnibaaW.PrintLast Go.Proofs.YticpifhnfpnibaaW.PrintMore
set_option linter.unusedVariables false
set_option linter.unusedSimpArgs false
def kf0 : Nat → U := first 0 3 2
def kf1 : Nat → U := hearF 0 3 kf0 (1, 2, 0)
def kf2 : Nat → U := hearF 0 3 kf1 (1, 1, 0)
def kf3 : Nat → U := hearF 0 3 kf2 (0, 3, 2)
def kf4 : Nat → U := upd kf3 1 ((kf3 1).1, 3, (kf3 1).2.2)
theorem kb1 : hearB 0 3 kf0 (1, 2, 0) = true := by decide
theorem kb2 : hearB 0 3 kf1 (1, 1, 0) = false := by decide
theorem kb3 : hearB 0 3 kf2 (0, 3, 2) = true := by decide
theorem ke1 : hearE 3 (1, 2, 0) = 0 := by decide
theorem ke2 : hearE 3 (1, 1, 0) = 0 := by decide
theorem ke3 : hearE 3 (0, 3, 2) = 0 := by decide
theorem ks : kf3 0 = (0, 1, 3) := by decide
theorem ka3 : (alv kf3 3).length = 3 := by decide
theorem kk : (0 ≤ (1 : Int) ∧ (1 : Int) < ((3 : Nat) : Int)) ∧ (1 : Int) ≠ ((0 : Nat) : Int) ∧ (kf3 (1 : Int).toNat).2.1 = 2 := by decide
theorem ka4 : (alv kf4 3).length = 2 := by decide
theorem below_ch {m : Nat} {w w1 w2 : World} (h : Below m w w1) (hc : Ch m w1 w2) (hm : m < w1.heap.size) : Below m w w2 := h.trans (hc.below (Nat.le_refl _) hm)
set_option maxHeartbeats 1600000 in
set_option maxRecDepth 100000 in
theorem known_calls (w : World) : Calls Try.prog 9 #[] w fun e w' => e = .returned (.bool true) ∧ Below w.heap.size w w' := by
  go_enter Try.func9, Try.ntmps9
  go_wp2_with fail
  refine (new_calls 0 3 2 w (by unfold mayNew; omega) (by omega)).mono ?_
  rintro e w1 ⟨rfl, hb, hm⟩
  have HM := Aside0.mk (show Mem w1 w.heap.size 0 3 kf0 from hm)
  have HB := Aside0.mk hb
  clear hm hb
  generalize hgm : w.heap.size = m at HM HB ⊢
  go_wp2_with fail
  refine (hear_calls m 0 3 kf0 1 2 0 _ HM.out (by omega) (by omega) (by omega)).mono ?_
  rintro e w2 ⟨rfl, hc, hm⟩
  rw [kb1, ke1]
  replace HB := Aside0.mk (below_ch HB.out hc HM.out.lt)
  replace HM := Aside0.mk (show Mem w2 m 0 3 kf1 from hm)
  clear hc hm
  go_wp2_with fail
  refine (hear_calls m 0 3 kf1 1 1 0 _ HM.out (by omega) (by omega) (by omega)).mono ?_
  rintro e w3 ⟨rfl, hc, hm⟩
  rw [kb2, ke2]
  replace HB := Aside0.mk (below_ch HB.out hc HM.out.lt)
  replace HM := Aside0.mk (show Mem w3 m 0 3 kf2 from hm)
  clear hc hm
  go_wp2_with fail
  refine (hear_calls m 0 3 kf2 0 3 2 _ HM.out (by omega) (by omega) (by omega)).mono ?_
  rintro e w4 ⟨rfl, hc, hm⟩
  rw [kb3, ke3]
  replace HB := Aside0.mk (below_ch HB.out hc HM.out.lt)
  replace HM := Aside0.mk (show Mem w4 m 0 3 kf3 from hm)
  clear hc hm
  go_wp2_with fail
  refine (self_calls m 0 3 kf3 _ HM.out (by omega)).mono ?_
  rintro e w5 ⟨rfl, hb⟩
  rw [ks]
  replace HB := Aside0.mk (HB.out.trans (hb.mono (Nat.le_of_lt HM.out.lt)))
  replace HM := Aside0.mk (HM.out.below hb)
  unfold uv
  clear hb
  go_wp2_with fail
  refine (alive_calls m 0 3 kf3 _ HM.out (by omega)).mono ?_
  rintro e w6 ⟨v, rfl, ho, hb⟩
  obtain ⟨A, c, rfl, _, _⟩ := Kd.R_reads ho
  rw [ka3]
  replace HB := Aside0.mk (HB.out.trans (hb.mono (Nat.le_of_lt HM.out.lt)))
  replace HM := Aside0.mk (HM.out.below hb)
  clear hb ho
  go_wp2_with fail
  refine (kill_calls m 0 3 kf3 1 _ HM.out (by omega)).mono ?_
  rintro e w7 ⟨rfl, hc, hm⟩
  rw [decide_eq_true kk]
  rw [if_pos kk] at hm
  replace HB := Aside0.mk (below_ch HB.out hc HM.out.lt)
  replace HM := Aside0.mk (show Mem w7 m 0 3 kf4 from hm)
  clear hc hm
  go_wp2_with fail
  refine (alive_calls m 0 3 kf4 _ HM.out (by omega)).mono ?_
  rintro e w8 ⟨v, rfl, ho, hb⟩
  obtain ⟨A, c, rfl, _, _⟩ := Kd.R_reads ho
  rw [ka4]
  replace HB := Aside0.mk (HB.out.trans (hb.mono (Nat.le_of_lt HM.out.lt)))
  clear hb ho HM
  go_wp2
  go_ret
  subst hgm
  exact ⟨rfl, HB.out⟩
end Go.Proofs.Yticpifhnfpnibaa.Mem
