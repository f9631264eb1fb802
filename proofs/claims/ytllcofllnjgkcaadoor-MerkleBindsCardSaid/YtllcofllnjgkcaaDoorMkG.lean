/- What calls of Go functions of this seat come to, as the rows need it: under the conditions that each theorem names. -/
import Derived.Test.YtllcofllnjgkcaaDoorMkF
namespace Go.Proofs.YtllcofllnjgkcaaDoor.Sha
open Go.RowKit Go.Proofs.YtllcofllnjgkcaaDoorW.PrintWords Go.Proofs.YtllcofllnjgkcaaDoorW.PrintLast Go.Proofs.YtllcofllnjgkcaaDoorW.PrintMore
set_option linter.unusedVariables false
set_option linter.unusedSimpArgs false
theorem p3 {rows : List (List Int)} (h : rows.length = 3) : (proofP rows 2).length = 1 ∧ (proofP rows 0).length = 2 := by
  have h2 : (upL rows).length = 2 := by rw [upL_len]; omega
  have h1 : (upL (upL rows)).length = 1 := by rw [upL_len]; omega
  constructor
  · rw [proofP_up 2 (by omega), if_neg (by rw [h]; decide), proofP_up _ (by omega), if_pos (by rw [h2]; decide), proofP_end _ (by omega)]
    rfl
  · rw [proofP_up 0 (by omega), if_pos (by rw [h]; decide), proofP_up _ (by omega), if_pos (by rw [h2]; decide), proofP_end _ (by omega)]
    rfl
def z150 : List Int := List.replicate 150 0
theorem z150_len : z150.length = 150 := by simp [z150]
theorem z150_bytes : bytes z150 := bytes_rep 150
theorem z150_proof : (proofOf z150 2).length = 1 ∧ (proofOf z150 0).length = 2 := p3 (by rw [leavesL_len, z150_len]; decide)
set_option maxHeartbeats 1600000 in
set_option maxRecDepth 100000 in
theorem known_calls (w : World) (hT : Tab w) : Calls Tryd.prog 9 #[] w fun e w' => e = .returned (.bool true) ∧ Below w.heap.size w w' := by
  have HTAB := Aside0.mk hT
  clear hT
  go_enter Tryd.func9, Tryd.ntmps9
  go_wp2_with (first | ((with_reducible refine gate_dst (N := 8) rfl ?_); refine Kd.R_make B (w0 := w) (ok := fun _ => True) (okp := fun _ => True) w.heap.size 5 rfl (N := 8) rfl 22 (.const (.int .i64 150)) (.const (.int .i64 150)) rfl 150 rfl rfl Tryd.underlying22 (.int .u8 0) 1 info5 rfl (by decide) (by omega) 0 ?hz (fun _ h => h) trivial (by omega) (by decide) (Below.refl _ _) (Nat.le_refl _) ?_; (case hz => exact rfl); intro v1 w1 ho hb2 _ _; obtain ⟨A8, c8', rfl, hc8, hr8⟩ := Kd.R_reads ho; rw [show (List.replicate (150 : Int).toNat (0 : Int)).length = z150.length from rfl] at hc8 hr8 ⊢; have HR8 := Aside0.mk (show B.C w1 A8 z150.length z150 from hr8); have HB8 := Aside0.mk hb2; clear ho hb2 hr8))
  refine (proof_yes A8 c8' z150 2 _ HR8.out hc8 z150_bytes (by rw [z150_len]; omega) (by rw [z150_len]; decide) (HTAB.out.below HB8.out)).mono ?_
  rintro e w2 ⟨v9, rfl, ho, hb⟩
  have HB9 := Aside0.mk (below_step HB8.out hb)
  obtain ⟨A9, c9, rfl, hc9, hr9⟩ := Kd.R_reads ho
  rw [z150_proof.1]
  clear ho hb hr9 HR8 HB8 hc8 hc9
  go_wp2_with (first | ((with_reducible refine gate_dst (N := 13) rfl ?_); refine Kd.R_make B (w0 := w) (ok := fun _ => True) (okp := fun _ => True) w.heap.size 5 rfl (N := 13) rfl 22 (.const (.int .i64 150)) (.const (.int .i64 150)) rfl 150 rfl rfl Tryd.underlying22 (.int .u8 0) 1 info5 rfl (by decide) (by omega) 0 ?hz (fun _ h => h) trivial (by omega) (by decide) HB9.out HB9.out.size ?_; (case hz => exact rfl); intro v1 w1 ho hb2 _ _; obtain ⟨A13, c13', rfl, hc13, hr13⟩ := Kd.R_reads ho; rw [show (List.replicate (150 : Int).toNat (0 : Int)).length = z150.length from rfl] at hc13 hr13 ⊢; have HR13 := Aside0.mk (show B.C w1 A13 z150.length z150 from hr13); have HB13 := Aside0.mk hb2; clear ho hb2 hr13))
  refine (proof_yes A13 c13' z150 0 _ HR13.out hc13 z150_bytes (by rw [z150_len]; omega) (by rw [z150_len]; decide) (HTAB.out.below HB13.out)).mono ?_
  rintro e w3 ⟨v14, rfl, ho, hb⟩
  have HB14 := Aside0.mk (below_step HB13.out hb)
  obtain ⟨A14, c14, rfl, hc14, hr14⟩ := Kd.R_reads ho
  rw [z150_proof.2]
  clear ho hb hr14 HR13 HB13 hc13 hc14 HB9
  go_wp2_with fail
  refine (proof_no none 0 [] 1 _ (by simp) (Or.inr (by decide))).mono ?_
  rintro e w4 ⟨rfl, rfl⟩
  go_wp2_with fail
  refine (count_calls 0 _ (by omega)).mono ?_
  rintro e w4 ⟨rfl, rfl⟩
  rw [show ((countN 0 : Nat) : Int) = 1 from rfl]
  go_wp2_with fail
  refine (count_calls 64 _ (by omega)).mono ?_
  rintro e w4 ⟨rfl, rfl⟩
  rw [show ((countN 64 : Nat) : Int) = 1 from rfl]
  go_wp2_with fail
  refine (count_calls 65 _ (by omega)).mono ?_
  rintro e w4 ⟨rfl, rfl⟩
  rw [show ((countN 65 : Nat) : Int) = 2 from rfl]
  go_wp2_with fail
  refine (count_neg (-1) _ (by omega)).mono ?_
  rintro e w4 ⟨rfl, rfl⟩
  go_wp2
  go_ret
  exact ⟨rfl, HB14.out⟩
end Go.Proofs.YtllcofllnjgkcaaDoor.Sha
