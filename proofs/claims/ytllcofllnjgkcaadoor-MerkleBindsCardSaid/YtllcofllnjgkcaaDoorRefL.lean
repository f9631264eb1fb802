/- What calls of Go functions of this seat come to, as the rows need it: under the conditions that each theorem names. -/
import Derived.Test.YtllcofllnjgkcaaDoorRefK
import Derived.Test.YtllcofllnjgkcaaDoorWRepsOne
namespace Go.Proofs.YtllcofllnjgkcaaDoor.Ref
open Go.RowKit Go.Proofs.YtllcofllnjgkcaaDoorW.PrintWords Go.Proofs.YtllcofllnjgkcaaDoorW.PrintLast Go.Proofs.YtllcofllnjgkcaaDoorW.PrintMore
set_option linter.unusedVariables false
set_option linter.unusedSimpArgs false
open Go.Proofs.YtllcofllnjgkcaaDoor.Sha
set_option maxHeartbeats 1600000 in
set_option maxRecDepth 100000 in
theorem leafB_calls (i : Nat) (A : Option Addr) (c : Nat) (l : List Int) (w : World) (hi : i < 9223372036854775808) (hr : B.C w A l.length l) (hc : l.length ≤ c) (hl : l.length < 10000000) :
    Calls Tryd.prog 41 #[.int .i64 i, .slice A l.length c] w fun e w' => ∃ v, e = .returned v ∧ Kd.R B 5 w' w.heap.size (fun _ => True) v (0 :: (be8 i ++ l)) ∧ Below w.heap.size w w' := by
  have HR := Aside0.mk hr
  have HLL := Aside0.mk hl
  clear hr
  go_enter Tryd.func41, Tryd.ntmps41
  go_wp2_with (first | ((with_reducible refine gate_dst (N := 5) rfl ?_); refine Kd.R_lit B (w0 := w) w.heap.size 5 ?hg (N := 5) ?hd (xs := [0]) (inner := [.int .u8 0]) (ok := fun _ => True) (okp := fun _ => True) ?hr ?hp (fun _ hk => hk) trivial (Below.refl _ _) (Nat.le_refl _) (by simp) ?_; (case hd => rfl); (case hg => rfl); (case hr => first | (go_simp; done) | (go_simp; rfl)); (case hp => exact Reps.one rfl (Reps.none _ _)); intro v1 w2 ho hb1 hg hnew; have HO := Aside0.mk ho; have HB := Aside0.mk hb1; clear ho hb1 hg hnew))
  refine (reight_calls i _ hi).mono ?_
  rintro e w3 ⟨v, rfl, h8, hb⟩
  have HB3 := Aside0.mk (below_step HB.out hb)
  replace HO := Aside0.mk (Kd.R_below HO.out hb)
  have HC8 : Aside0 (∀ A8 c8', v = .slice A8 (be8 i).length c8' → Rw w3 A8 (be8 i) _ _) := ⟨fun A8 c8' e => Rw.of (e ▸ h8)⟩
  obtain ⟨A8, c8', rfl, hc8, hr8⟩ := Kd.R_reads h8
  clear hr8 h8 hb HB
  go_wp2_with (first | ((with_reducible refine gate_builtin (b := .append) (xs := #[.tmp 5, .tmp 7]) rfl ?_); at_builtin; refine Kd.R_append_rows B (w0 := w) w.heap.size rfl (.tmp 5) (.tmp 7) 22 5 (.int .u8 0) 1 rfl Tryd.underlying22 info5 rfl (by decide) (by omega) _ ([0]) (be8 i) _ _ _ (fun _ => True) (fun _ => False) rfl rfl HO.out ((HC8.out _ _ rfl).C) (fun _ _ h => h) (fun _ h => h.elim) (fun _ _ => trivial) HB3.out HB3.out.size ?aL ?_; (case aL => simp [be8]); intro v2 w4 ho hb2 hg hat; have HO2 := Aside0.mk ho; have HB4 := Aside0.mk hb2; clear ho hb2 hg hat) | ((with_reducible refine gate_builtin (b := .append) (xs := #[.tmp 8, .tmp 9]) rfl ?_); at_builtin; refine Kd.R_append_rows B (w0 := w) w.heap.size rfl (.tmp 8) (.tmp 9) 22 5 (.int .u8 0) 1 rfl Tryd.underlying22 info5 rfl (by decide) (by omega) _ ([0] ++ be8 i) (l) _ _ _ (fun _ => True) (fun _ => False) rfl rfl HO2.out (Kd.C_below HR.out HB4.out) (fun _ _ h => h) (fun _ h => h.elim) (fun _ _ => trivial) HB4.out HB4.out.size ?aL ?_; (case aL => simp [be8]; have := HLL.out; omega); intro v3 w5 ho hb2 hg hat; have HO3 := Aside0.mk ho; have HB5 := Aside0.mk hb2; clear ho hb2 hg hat))
  go_ret
  exact ⟨_, rfl, HO3.out, HB5.out⟩
set_option maxHeartbeats 1600000 in
set_option maxRecDepth 100000 in
theorem rchunk_calls (A : Option Addr) (c : Nat) (l : List Int) (i : Nat) (w : World) (hr : B.C w A l.length l) (hc : l.length ≤ c) (hl : l.length < 10000000) (hi : i < countN l.length) :
    Calls Tryd.prog 17 #[.slice A l.length c, .int .i64 i] w fun e w' => ∃ v, e = .returned v ∧ Kd.R B 5 w' w.heap.size (fun _ => True) v (chunkL l i) ∧ Below w.heap.size w w' := by
  have HR := Aside0.mk hr
  have hin : 64 * i ≤ l.length := by have := count_lt hi; omega
  have HI := Aside0.mk hin
  obtain ⟨q, hq⟩ : ∃ q, q = 64 * i := ⟨_, rfl⟩
  obtain ⟨s, hs⟩ : ∃ s, s = min (l.length - 64 * i) 64 := ⟨_, rfl⟩
  obtain ⟨m, hm⟩ : ∃ m, m = q + s := ⟨_, rfl⟩
  have HS := Aside0.mk (show (fun w => Calls Tryd.prog 33 #[.int .i64 l.length, .int .i64 i] w fun e w' => e = .returned (.int .i64 (s : Int)) ∧ w' = w) = (fun w => Calls Tryd.prog 33 #[.int .i64 l.length, .int .i64 i] w fun e w' => e = .returned (.int .i64 ((min (l.length - 64 * i) 64 : Nat) : Int)) ∧ w' = w) by rw [← hs])
  have hml : m ≤ l.length := by omega
  obtain ⟨A2, c2, hcut, hcc, hc2⟩ := midB A c l q m (by omega) hml hc
  have HCL := Aside0.mk (show chunkL l i = (l.take m).drop q by unfold chunkL; rw [show min l.length ((i + 1) * 64) = m by omega, show i * 64 = q by omega])
  have HCC := Aside0.mk hcc
  have h1 : 64 * (i : Int) = (q : Int) := by omega
  have h2 : (q : Int) + (s : Int) = (m : Int) := by omega
  have hqm : q ≤ 10000000 := by omega
  have hmm : m ≤ 10000000 := by omega
  have hsm : s ≤ 64 := by omega
  have hil : i ≤ 10000000 := by omega
  have HML := Aside0.mk (show ((l.take m).drop q).length ≤ 10000000 by rw [List.length_drop, List.length_take]; omega)
  rw [HCL.out]
  clear hcc hm hs hq hin hi hr hml HCL
  generalize (l.take m).drop q = ch at *
  go_enter Tryd.func17, Tryd.ntmps17
  go_wp2_with (first | ((with_reducible refine gate_dst (N := 5) rfl ?_); refine Kd.R_lit B (w0 := w) w.heap.size 5 ?hg (N := 5) ?hd (xs := ([] : List Int)) (inner := []) (ok := fun _ => True) (okp := fun _ => True) ?hr ?hp (fun _ hk => hk) trivial (Below.refl _ _) (Nat.le_refl _) (by simp) ?_; (case hd => rfl); (case hg => rfl); (case hr => first | (go_simp; done) | (go_simp; rfl)); (case hp => exact Reps.none _ _); intro v1 w2 ho hb1 hg hnew; have HO := Aside0.mk ho; have HB := Aside0.mk hb1; clear ho hb1 hg hnew))
  refine (show Calls Tryd.prog 33 #[.int .i64 l.length, .int .i64 i] _ fun e w' => e = .returned (.int .i64 (s : Int)) ∧ w' = _ from by rw [congrFun HS.out _]; exact rsize_calls l.length i _ (by omega) HI.out).mono ?_
  rintro e w9 ⟨rfl, hw⟩
  replace hw := hw.symm
  subst hw
  go_wp2_with (first | ((with_reducible refine gate_builtin (b := .append) (xs := #[.tmp 5, .tmp 16]) rfl ?_); at_builtin; refine Kd.R_append_rows B (w0 := w) w.heap.size rfl (.tmp 5) (.tmp 16) 22 5 (.int .u8 0) 1 rfl Tryd.underlying22 info5 rfl (by decide) (by omega) _ ([]) (ch) _ _ _ (fun _ => True) (fun _ => False) rfl rfl HO.out (HCC.out _ (Kd.C_below HR.out HB.out)) (fun _ _ h => h) (fun _ h => h.elim) (fun _ _ => trivial) HB.out HB.out.size ?aL ?_; (case aL => have := HML.out; simp; omega); intro v2 w4 ho hb2 hg hat; rw [List.nil_append] at ho; have HO2 := Aside0.mk ho; have HB2 := Aside0.mk hb2; clear ho hb2 hg hat))
  go_ret
  exact ⟨_, rfl, HO2.out, HB2.out⟩
end Go.Proofs.YtllcofllnjgkcaaDoor.Ref
