/- What calls of Go functions of this seat come to, as the rows need it: under the conditions that each theorem names. -/
import Derived.Test.YtllcofllnjgkcaaDoorMkD
namespace Go.Proofs.YtllcofllnjgkcaaDoor.Sha
open Go.RowKit Go.Proofs.YtllcofllnjgkcaaDoorW.PrintWords Go.Proofs.YtllcofllnjgkcaaDoorW.PrintLast Go.Proofs.YtllcofllnjgkcaaDoorW.PrintMore
set_option linter.unusedVariables false
set_option linter.unusedSimpArgs false
def climb (rows : List (List Int)) : List (List Int) := if h : rows.length ≤ 1 then rows else climb (upL rows)
termination_by rows.length
decreasing_by rw [upL_len]; omega
theorem climb_end {rows : List (List Int)} (h : rows.length ≤ 1) : climb rows = rows := by rw [climb, dif_pos h]
theorem climb_up {rows : List (List Int)} (h : ¬ rows.length ≤ 1) : climb rows = climb (upL rows) := by conv => lhs; rw [climb, dif_neg h]
/-- A blob's root. -/
def rootOf (l : List Int) : List Int := rootI l.length ((climb (leavesL l)).getD 0 [])
theorem count_pos (n : Nat) : 1 ≤ countN n := by unfold countN; omega
theorem leavesL_len (l : List Int) : (leavesL l).length = countN l.length := leavesP_len _ _
set_option maxHeartbeats 1600000 in
set_option maxRecDepth 100000 in
theorem Root_calls (A : Option Addr) (c : Nat) (l : List Int) (w : World) (hr : B.C w A l.length l) (hc : l.length ≤ c) (hb : bytes l) (hl : l.length < 10000000) (hT : Tab w) :
    Calls Tryd.prog 14 #[.slice A l.length c] w fun e w' => e = .returned (vd (rootOf l)) ∧ Below w.heap.size w w' := by
  have HR := Aside0.mk hr
  have HY := Aside0.mk hb
  have HTAB := Aside0.mk hT
  have hcp := count_pos l.length
  have hcm : countN l.length ≤ 1000000 := by unfold countN; omega
  have hll := leavesL_len l
  have HLD := Aside0.mk (leaves_D l)
  have HRO := Aside0.mk (show rootOf l = rootI l.length ((climb (leavesL l)).getD 0 []) from rfl)
  clear hr hb hT
  go_enter Tryd.func14, Tryd.ntmps14
  go_upto_region 1 with (fail)
  obtain ⟨w1, hw1, HB1, HD, HZ1⟩ := dg_start w
  rw [hw1]
  clear hw1
  go_wp2_with fail
  refine (leaves_calls A c l _ (Kd.C_below HR.out HB1.out) hc HY.out hl (HTAB.out.below HB1.out)).mono ?_
  rintro e w2 ⟨v, rfl, ho, hb⟩
  obtain ⟨A3, c3, rfl, hc3, hr3⟩ := Kd.R_reads ho
  have HR3 := Aside0.mk hr3
  have HB2 := Aside0.mk hb
  clear ho hb hr3
  generalize leavesL l = rows0 at *
  have h01 : 1 ≤ rows0.length := by omega
  have h06 : rows0.length ≤ 1000000 := by omega
  clear hll hcp hcm
  go_wp2
  go_loopw [3] (fun v wr => ∃ (rows : List (List Int)) (A3 : Option Addr) (c3 : Nat), v = .slice A3 rows.length c3 ∧ rows.length ≤ c3 ∧ Aside0 (KD.C wr A3 rows.length rows) ∧ Aside0 (isRow rows) ∧ 1 ≤ rows.length ∧ rows.length ≤ 1000000 ∧ Aside0 (climb rows = climb rows0) ∧ Aside0 (Below w1.heap.size w1 wr)) (fun v _ => slLen v)
  case atStart => exact ⟨rows0, A3, c3, rfl, hc3, HR3, ⟨HLD.out⟩, h01, h06, ⟨rfl⟩, HB2⟩
  case round =>
    clear HR3 HB2 HLD hc3 h01 h06
    obtain ⟨rows, A3, c3, rfl, hc3, HR3, HI, h1, h6, HC, HB⟩ := hrel
    by_cases hlt : 1 < rows.length
    · have hul := upL_len rows
      have hu2 : (upL rows).length < rows.length := by omega
      have hu1 : 1 ≤ (upL rows).length := by omega
      have HCU := Aside0.mk (climb_up (rows := rows) (by omega))
      have HIU := Aside0.mk (upL_row HI.out)
      clear hul
      go_wp2_with fail
      refine (up_calls A3 c3 rows _ HR3.out hc3 HI.out (by omega) (HTAB.out.below (below_step HB1.out HB.out))).mono ?_
      rintro e w3 ⟨v, rfl, ho, hb⟩
      obtain ⟨A4, c4, rfl, hc4, hr4⟩ := Kd.R_reads ho
      have HR4 := Aside0.mk hr4
      have HB3 := Aside0.mk (below_step HB.out hb)
      clear ho hb hr4
      generalize upL rows = rows2 at *
      go_wp2
      go_roundw
      case rel => exact ⟨rows2, A4, c4, rfl, hc4, HR4, HIU, hu1, by omega, ⟨by rw [← HCU.out]; exact HC.out⟩, HB3⟩
      case measure => exact hu2
    · have hl1 : rows.length = 1 := by omega
      obtain ⟨ad, rfl, _, _⟩ := row_ld HR3.out 0 (by omega)
      have HE := Aside0.mk (climb_end (rows := rows) (by omega))
      have HDG := Aside0.mk (isRow_getD HI.out 0 (by omega))
      have hx := row_load' HR3.out (Below.refl _ _) 0 (by omega) rfl
      rw [Nat.zero_mul, Addr.add_zero'] at hx
      have HX := Aside0.mk hx
      have HFR := Aside0.mk (show rootOf l = rootI l.length (rows.getD 0 []) by rw [HRO.out, ← HC.out, HE.out])
      generalize rows.getD 0 [] = D at HDG HX HFR
      have HSL := Aside0.mk (show (rootI l.length D).length = 32 from shaI_len _)
      clear hx hlt
      go_wp2_with (first | ((with_reducible refine gate_dst (N := 15) rfl ?_); refine wpList_load_at rfl (ty := 32) (x := .tmp 14) (p := .pointer (some ad)) (v := vd D) rfl rfl HX.out ?_))
      refine (root_calls l.length D _ (by omega) HDG.out.1 HDG.out.2 (HTAB.out.below (below_step HB1.out HB.out))).mono ?_
      rintro e w3 ⟨rfl, hb⟩
      have HD2 := Aside0.mk (heap_keep (heap_keep HD.out HB.out) hb)
      have HB3 := Aside0.mk (below_step (below_step HB1.out HB.out) hb)
      clear hb
      rw [← HFR.out]
      rw [← HFR.out] at HSL
      generalize hR : rootOf l = R at HSL ⊢
      have HRR := Aside0.mk hR
      clear hR
      go_wp2_with (first | (refine wpList_store_row rfl 32 (.tmp 2) (.tmp 16) rfl w.heap.size (cb R) rfl rfl 32 _ HD2.out (infoDg _ HSL.out) (by rw [cb_size, cb_size, HSL.out]; simp) (cb_one _) ?_))
      (try simp only [Exit.inBlock, Exit.then])
      exact dg_ret rfl rfl HSL.out (setRow_heap _ _ _ _ _ _ HD2.out) rfl ⟨by rw [HRR.out], below_setRow HB3.out (Nat.le_refl _) _⟩
end Go.Proofs.YtllcofllnjgkcaaDoor.Sha
