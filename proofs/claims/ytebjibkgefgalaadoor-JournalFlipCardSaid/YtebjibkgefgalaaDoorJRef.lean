/- What calls of Go functions of this seat come to, as the rows need it: under the conditions that each theorem names. -/
import Derived.Test.YtebjibkgefgalaaDoorJRead
import Derived.Test.YtebjibkgefgalaaDoorRefO
import Derived.Test.YtebjibkgefgalaaDoorRw
namespace Go.Proofs.YtebjibkgefgalaaDoor.Jr
open Go.RowKit Go.Proofs.YtebjibkgefgalaaDoorW.PrintWords Go.Proofs.YtebjibkgefgalaaDoorW.PrintLast Go.Proofs.YtebjibkgefgalaaDoorW.PrintMore
set_option linter.unusedVariables false
set_option linter.unusedSimpArgs false
open Go.Proofs.YtebjibkgefgalaaDoor.Hand (B formL rowL rform_calls rbytes_calls formL_len info5 bytesL bytesL_eq)
open Go.Proofs.YtebjibkgefgalaaDoor.Sha (shaI shaI_len vd cb cb_size cb_one infoDg dg_start Tab C_cb heap_new heap_keep cell_of)
open Go.Proofs.YtebjibkgefgalaaDoor.Ref (hk hsum_calls)
def okB (l : List Int) : Bool := decide (1 ≤ l.length) && decide (l.length ≤ 8000)
theorem okB_iff (l : List Int) : okB l = true ↔ okR l := by unfold okB okR; simp
abbrev KB : Kd (List Int) := Kd.slice 5 B
theorem rmay_calls (A : Option Addr) (c : Nat) (l : List Int) (w : World) (hl : l.length ≤ 9223372036854775807) (hc : l.length ≤ c) :
    Calls Tryd.prog 10 #[.slice A l.length c] w fun e w' => e = .returned (.bool (okB l)) ∧ w' = w := by
  by_cases h1 : 1 ≤ l.length
  · by_cases h8 : l.length ≤ 8000
    · have HV := Aside0.mk (show okB l = true from (okB_iff l).2 ⟨h1, h8⟩)
      have e1 : decide ((l.length : Int) ≥ 1) = true := decide_eq_true (by omega)
      have e2 : decide (1 ≤ l.length) = true := decide_eq_true h1
      have e5 : decide ((1 : Int) ≤ (l.length : Int)) = true := decide_eq_true (by omega)
      have e6 : decide (0 < l.length) = true := decide_eq_true h1
      have e3 : decide ((l.length : Int) ≤ 8000) = true := decide_eq_true (by omega)
      have e4 : decide (l.length ≤ 8000) = true := decide_eq_true h8
      clear h1 h8
      go_enter Tryd.func10, Tryd.ntmps10
      go_wp2
      go_ret
      exact ⟨by rw [HV.out]; rfl, rfl⟩
    · have HV := Aside0.mk (show okB l = false from Bool.eq_false_iff.2 (fun h => h8 ((okB_iff l).1 h).2))
      have e1 : decide ((l.length : Int) ≥ 1) = true := decide_eq_true (by omega)
      have e2 : decide (1 ≤ l.length) = true := decide_eq_true h1
      have e5 : decide ((1 : Int) ≤ (l.length : Int)) = true := decide_eq_true (by omega)
      have e6 : decide (0 < l.length) = true := decide_eq_true h1
      have e3 : decide ((l.length : Int) ≤ 8000) = false := decide_eq_false (by omega)
      have e4 : decide (l.length ≤ 8000) = false := decide_eq_false h8
      clear h1 h8
      go_enter Tryd.func10, Tryd.ntmps10
      go_wp2
      go_ret
      exact ⟨by rw [HV.out]; rfl, rfl⟩
  · have HV := Aside0.mk (show okB l = false from Bool.eq_false_iff.2 (fun h => h1 ((okB_iff l).1 h).1))
    have e1 : decide ((l.length : Int) ≥ 1) = false := decide_eq_false (by omega)
    have e2 : decide (1 ≤ l.length) = false := decide_eq_false h1
    have e5 : decide ((1 : Int) ≤ (l.length : Int)) = false := decide_eq_false (by omega)
    have e6 : decide (0 < l.length) = false := decide_eq_false h1
    clear h1
    go_enter Tryd.func10, Tryd.ntmps10
    go_wp2
    go_ret
    exact ⟨by rw [HV.out]; rfl, rfl⟩
set_option maxHeartbeats 1600000 in
set_option maxRecDepth 100000 in
theorem rform_calls' (gh : Nat) (A : Option Addr) (c : Nat) (l : List Int) (w : World) (hg : w.heap[gh]? = some (.cells hk 52 (0, 0))) (hr : B.C w A l.length l) (hc : l.length ≤ c) (hb : bys l) (hl : l.length ≤ 10000) :
    Calls Tryd.prog 11 #[.pointer (some ⟨gh, 0, none⟩), .slice A l.length c] w fun e w' => ∃ v, e = .returned v ∧ Kd.R B 5 w' w.heap.size (fun _ => True) v (jform l) ∧ Below w.heap.size w w' := by
  have HR := Aside0.mk hr
  have HY := Aside0.mk hb
  have HG := Aside0.mk hg
  have hwl : IntKind.u64.wrap (l.length : Int) = (l.length : Int) := by simp [IntKind.wrap, IntKind.bits, IntKind.signed]; omega
  have HFL := Aside0.mk (formL_len l.length (by omega))
  clear hr hb hg
  go_enter Tryd.func11, Tryd.ntmps11
  go_wp2_with fail
  refine (rform_calls l.length _ (by omega)).mono ?_
  rintro e w1 ⟨v1, rfl, ho, hb⟩
  have HO1 := Aside0.mk ho
  have HB1 := Aside0.mk hb
  have HR1 := Aside0.mk (Kd.C_below HR.out hb)
  clear ho hb hwl
  go_upto_region 2 with ((with_reducible refine gate_builtin (b := .append) (xs := #[.tmp 10, .tmp 11]) rfl ?_); at_builtin; refine Kd.R_append_rows B (w0 := w) w.heap.size rfl (.tmp 10) (.tmp 11) 22 5 (.int .u8 0) 1 rfl Tryd.underlying22 info5 rfl (by decide) (by omega) _ (formL l.length) l _ _ _ (fun _ => True) (fun _ => False) rfl rfl HO1.out HR1.out (fun _ _ h => h) (fun _ h => h.elim) (fun _ _ => trivial) HB1.out HB1.out.size ?aL ?_; (case aL => have := HFL.out; omega); intro v2 w2 ho hb2 hg hat; have HO2 := Aside0.mk (show Kd.R B 5 w2 w.heap.size (fun _ => True) v2 (rowL l) from ho); have HB2 := Aside0.mk hb2; clear ho hb2 hg hat)
  clear HO1 HB1 HR1
  have HSL := Aside0.mk (shaI_len l)
  have HJ := Aside0.mk (show rowL l ++ (shaI l).take 8 = jform l from rfl)
  have HRL := Aside0.mk (show (rowL l).length ≤ 10010 by have := (rowL_len l (by omega)).2; omega)
  go_wp2_with fail
  refine (hsum_calls gh A c l _ (heap_keep HG.out HB2.out) (Kd.C_below HR.out HB2.out) hc HY.out (by omega)).mono ?_
  rintro e w3 ⟨rfl, hb⟩
  have HB3 := Aside0.mk (below_step HB2.out hb)
  have HO3 := Aside0.mk (Kd.R_below HO2.out hb)
  clear hb HB2 HO2
  generalize shaI l = D at HSL HJ ⊢
  go_upto_region 3 with (first | (obtain ⟨w4, hw4, HB4, HD4, HZ4⟩ := dg_start w3; rw [hw4]; clear hw4; refine wpList_store_row rfl 41 (.tmp 6) (.tmp 15) rfl w3.heap.size (cb D) rfl rfl 41 _ HD4.out (infoDg _ HSL.out) (by rw [cb_size, cb_size, HSL.out]; simp) (cb_one _) ?_))
  obtain ⟨w5, hw5⟩ : ∃ w5, w4.setRow w3.heap.size (cb D) = w5 := ⟨_, rfl⟩
  rw [hw5]
  have HD5 := Aside0.mk (show w5.heap[w3.heap.size]? = some (.cells (cb D) 41 (0, 0)) by rw [← hw5]; exact setRow_heap _ _ _ _ _ _ HD4.out)
  have HB35 := Aside0.mk (show Below w3.heap.size w3 w5 by rw [← hw5]; exact below_setRow HB4.out (Nat.le_refl _) _)
  have HB5 := Aside0.mk (below_step HB3.out HB35.out)
  have HO5 := Aside0.mk (Kd.R_below HO3.out HB35.out)
  have HC5 := Aside0.mk (C_cb8 HD5.out HSL.out)
  clear HD4 HB4 HZ4 hw5 HB35 HO3 HB3 HD5
  generalize w3.heap.size = g at HC5 ⊢
  go_wp2_with ((with_reducible refine gate_builtin (b := .append) (xs := #[.tmp 16, .tmp 17]) rfl ?_); at_builtin; refine Kd.R_append_rows B (w0 := w) w.heap.size rfl (.tmp 16) (.tmp 17) 22 5 (.int .u8 0) 1 rfl Tryd.underlying22 info5 rfl (by decide) (by omega) _ (rowL l) (D.take 8) _ _ _ (fun _ => True) (fun _ => False) rfl rfl HO5.out HC5.out (fun _ _ h => h) (fun _ h => h.elim) (fun _ _ => trivial) HB5.out HB5.out.size ?aL ?_; (case aL => have := HRL.out; have h8 : (D.take 8).length ≤ 8 := (by rw [List.length_take]; omega); omega); intro v6 w6 ho hb2 hg hat; rw [HJ.out] at ho; have HO6 := Aside0.mk ho; have HB6 := Aside0.mk hb2; clear ho hb2 hg hat)
  go_ret
  exact ⟨_, rfl, HO6.out, HB6.out⟩
end Go.Proofs.YtebjibkgefgalaaDoor.Jr
