/- What calls of Go functions of this seat come to, as the rows need it: under the conditions that each theorem names. -/
import Derived.Test.YtllcofllnjgkcaaDoorShaC
import Derived.Test.YtllcofllnjgkcaaDoorWRepsOne
import Derived.Test.YtllcofllnjgkcaaDoorWArr
namespace Go.Proofs.YtllcofllnjgkcaaDoor.Sha
open Go.RowKit Go.Proofs.YtllcofllnjgkcaaDoorW.PrintWords Go.Proofs.YtllcofllnjgkcaaDoorW.PrintLast Go.Proofs.YtllcofllnjgkcaaDoorW.PrintMore
set_option linter.unusedVariables false
set_option linter.unusedSimpArgs false
theorem info23 : (Tryd.prog.info? 22).map (fun i => (i.zero, i.size, i.bytes)) = some (some (.slice none 0 0), 1, 24) := by kernel_rfl
def rowD (xs : List (List Int)) (k : Nat) : List Int := xs.getD k []
def flen (xs : List (List Int)) (k : Nat) : Nat := (xs.take k).flatten.length
theorem row_at {w : World} {A : Option Addr} {n : Nat} {xs : List (List Int)} (h : Kd.C (Kd.slice 5 B) w A n xs) (k : Nat) (hk : k < n) : ∃ ad A0 c0, A = some ad ∧ w.cell? (ad.add k) = some (.slice A0 (rowD xs k).length c0) ∧ (rowD xs k).length ≤ c0 ∧ B.C w A0 (rowD xs k).length (rowD xs k) := by
  obtain ⟨ad, c, e, _, hK, hc0⟩ := Kd.C_get h ([] : List Int) (k : Int) (by omega) (by omega)
  have hc : ∀ j u, c[j]? = some u → w.cell? (ad.add (k * 1 + j)) = some u := hc0
  obtain ⟨A0, c0, rfl, l0, g0⟩ := hK
  simp only [Int.toNat_natCast] at l0 g0 hc
  exact ⟨ad, A0, c0, e, by have hq := hc 0 _ rfl; rwa [Nat.mul_one, Nat.add_zero] at hq, l0, g0⟩

theorem flen_succ (xs : List (List Int)) (k : Nat) (hk : k < xs.length) : flen xs (k + 1) = flen xs k + (rowD xs k).length := by
  unfold flen rowD
  rw [List.take_succ_eq_append_getElem hk, List.flatten_append, List.getD_eq_getElem?_getD, List.getElem?_eq_getElem hk]
  simp
theorem flen_all (xs : List (List Int)) : flen xs xs.length = xs.flatten.length := by unfold flen; rw [List.take_length]
theorem flen_le (xs : List (List Int)) (k : Nat) : flen xs k ≤ flen xs xs.length := by
  rw [flen_all]
  unfold flen
  conv => rhs; rw [← List.take_append_drop k xs, List.flatten_append, List.length_append]
  omega
theorem flat_take (xs : List (List Int)) (k : Nat) (hk : k < xs.length) : (xs.take (k + 1)).flatten = (xs.take k).flatten ++ rowD xs k := by
  unfold rowD
  rw [List.take_succ_eq_append_getElem hk, List.flatten_append, List.getD_eq_getElem?_getD, List.getElem?_eq_getElem hk]
  simp
theorem infoDg (D : List Int) (h : D.length = 32) : (Tryd.prog.info? 32).map (·.size) = some (cb D).size := by rw [cb_size, h]; exact infoD
/-- A fresh digest's block. -/
theorem dg_start (w : World) : ∃ w1, w.alloc (.cells #[.int .u8 0, .int .u8 0, .int .u8 0, .int .u8 0, .int .u8 0, .int .u8 0, .int .u8 0, .int .u8 0, .int .u8 0, .int .u8 0, .int .u8 0, .int .u8 0, .int .u8 0, .int .u8 0, .int .u8 0, .int .u8 0, .int .u8 0, .int .u8 0, .int .u8 0, .int .u8 0, .int .u8 0, .int .u8 0, .int .u8 0, .int .u8 0, .int .u8 0, .int .u8 0, .int .u8 0, .int .u8 0, .int .u8 0, .int .u8 0, .int .u8 0, .int .u8 0] 32) = w1 ∧ Aside0 (Below w.heap.size w w1) ∧ Aside0 (w1.heap[w.heap.size]? = some (.cells (cb (List.replicate 32 0)) 32 (0, 0))) ∧ Aside0 (w1.heap.size = w.heap.size + 1) :=
  ⟨_, rfl, ⟨(Below.refl w.heap.size w).alloc (Nat.le_refl _) _⟩, ⟨heap_new _ _⟩, ⟨by simp⟩⟩
section
variable {P : Program}
/-- A digest is told out of its block. -/
theorem dg_ret {fn : Func} {R : Ending → World → Prop} {a : Act} {w : World} {p : Tmp} {g : Nat} {D : List Int} (h : fn.results = #[.cell p 32]) (hp : a.tmps.getD p undef = .pointer (some ⟨g, 0, none⟩)) (hD : D.length = 32)
    (hg : w.heap[g]? = some (.cells (cb D) 32 (0, 0))) (hd : a.defers = []) (hR : R (.returned (vd D)) w) : bodyPost Tryd.prog fn R .ret a w :=
  bodyPost_ret (results_cell_row h _ _ g 32 (cb D) (0, 0) _ hp hg Tryd.underlying32 rfl (infoDg D hD)) hd hR
end
set_option maxHeartbeats 1600000 in
set_option maxRecDepth 100000 in
theorem Sum_calls (A : Option Addr) (c : Nat) (l : List Int) (w : World) (hr : B.C w A l.length l) (hc : l.length ≤ c) (hb : bytes l) (hT : Tab w) (h60 : l.length < 1152921504606846976) :
    Calls Tryd.prog 24 #[.slice A l.length c] w fun e w' => e = .returned (vd (shaI l)) ∧ Below w.heap.size w w' := by
  have HR := Aside0.mk hr
  have HY := Aside0.mk hb
  have HTAB := Aside0.mk hT
  have hl63 := hr.2.1
  clear hr hb hT
  go_enter Tryd.func24, Tryd.ntmps24
  go_upto_region 1 with (fail)
  obtain ⟨w1, hw1, HB1, HD, HZ1⟩ := dg_start w
  rw [hw1]
  clear hw1
  go_wp2_with fail
  refine (sum_calls A c l _ (Kd.C_below HR.out HB1.out) hc HY.out (HTAB.out.below HB1.out) h60).mono ?_
  rintro e w2 ⟨rfl, hb⟩
  have HD2 := Aside0.mk (heap_keep HD.out hb)
  have HB2 := Aside0.mk (below_step HB1.out hb)
  clear hb
  go_wp2_with (first | (refine wpList_store_row rfl 32 (.tmp 2) (.tmp 4) rfl w.heap.size (cb (shaI l)) rfl rfl 32 _ HD2.out (infoDg _ (shaI_len l)) (by rw [cb_size, cb_size, shaI_len]; simp) (cb_one _) ?_))
  (try simp only [Exit.inBlock, Exit.then])
  exact dg_ret rfl rfl (shaI_len l) (setRow_heap _ _ _ _ _ _ HD2.out) rfl ⟨rfl, below_setRow HB2.out (Nat.le_refl _) _⟩
set_option maxHeartbeats 1600000 in
set_option maxRecDepth 100000 in
theorem parts_calls (x : Int) (A0 : Option Addr) (c0 : Nat) (l0 : List (List Int)) (w : World) (hr0 : Kd.C (Kd.slice 5 B) w A0 l0.length l0) (hc0 : l0.length ≤ c0) (hx : 0 ≤ x ∧ x < 256) (hb : bytes l0.flatten) (hL : flen l0 l0.length < 100000000) (hT : Tab w) :
    Calls Tryd.prog 20 #[.int .u8 x, .slice A0 l0.length c0] w fun e w' => e = .returned (vd (shaI (x :: l0.flatten))) ∧ Below w.heap.size w w' := by
  have HR := Aside0.mk hr0
  have HY := Aside0.mk (show bytes (x :: l0.flatten) from fun y hy => by
    rcases List.mem_cons.1 hy with rfl | h
    · exact hx
    · exact hb y h)
  have HTAB := Aside0.mk hT
  have hlen : l0.length ≤ 9223372036854775807 := hr0.2.1
  clear hr0 hb hT hx
  have HSL := Aside0.mk (shaI_len (x :: l0.flatten))
  have HFL := Aside0.mk (show (x :: l0.flatten).length = flen l0 l0.length + 1 by rw [flen_all, List.length_cons])
  generalize hD : shaI (x :: l0.flatten) = D at HSL
  have HDD := Aside0.mk hD
  clear hD
  go_enter Tryd.func20, Tryd.ntmps20
  go_upto_region 1 with (fail)
  obtain ⟨w1, hw1, HB1, HD, HZ1⟩ := dg_start w
  rw [hw1]
  clear hw1
  go_wp2_with (first | ((with_reducible refine gate_dst (N := 9) rfl ?_); refine Kd.R_lit B (w0 := w1) w1.heap.size 5 ?hg (N := 9) ?hd (xs := [x]) (inner := [.int .u8 x]) (ok := fun _ => True) (okp := fun _ => True) ?hr ?hp (fun _ hk => hk) trivial (Below.refl _ _) (Nat.le_refl _) (by simp) ?_; (case hd => rfl); (case hg => rfl); (case hr => first | (go_simp; done) | (go_simp; rfl)); (case hp => exact Reps.one rfl (Reps.none _ _)); intro v1 w2 ho hb1 hg hnew; have HO := Aside0.mk ho; have HB2 := Aside0.mk hb1; clear ho hb1 hg hnew))
  go_loopw [5, 12] (fun v i wr => ∃ k : Nat, k ≤ l0.length ∧ i = .int .i64 (k : Int) ∧ Aside0 (Kd.R B 5 wr w1.heap.size (fun _ => True) v (x :: (l0.take k).flatten)) ∧ Aside0 (Below w1.heap.size w1 wr)) (fun _ i _ => l0.length - (intOf i).toNat)
  case atStart => exact ⟨0, Nat.zero_le _, rfl, HO, HB2⟩
  case round =>
    clear HO HB2
    obtain ⟨k, hk, rfl, HO, HB⟩ := hrel
    by_cases hlt : k < l0.length
    · obtain ⟨ad, A1, c1, rfl, hx0, hc1, hr1⟩ := row_at (Kd.C_below HR.out (below_step HB1.out HB.out)) k hlt
      have hq : flen l0 k + (rowD l0 k).length ≤ flen l0 l0.length := by rw [← flen_succ l0 k hlt]; exact flen_le l0 (k + 1)
      have HF := Aside0.mk (show x :: (l0.take k).flatten ++ rowD l0 k = x :: (l0.take (k + 1)).flatten by rw [flat_take l0 k hlt]; rfl)
      have HR1 := Aside0.mk hr1
      have hm : (x :: (l0.take k).flatten).length = flen l0 k + 1 := by simp [flen]
      have hm1 : flen l0 k + (rowD l0 k).length < 100000000 := by omega
      have HM := Aside0.mk hm
      have hn63 : (rowD l0 k).length ≤ 9223372036854775807 := by omega
      clear hr1 hq hm
      generalize x :: (l0.take k).flatten = t at HO HF HM
      go_wp2_with (first | ((with_reducible refine gate_builtin (b := .append) (xs := #[.tmp 16, .tmp 17]) rfl ?_); at_builtin; refine Kd.R_append_rows B (w0 := w1) w1.heap.size rfl (.tmp 16) (.tmp 17) 22 5 (.int .u8 0) 1 rfl Tryd.underlying22 info5 rfl (by decide) (by omega) _ (t) (rowD l0 k) _ _ _ (fun _ => True) (fun _ => False) rfl rfl HO.out (HR1.out) (fun _ _ h => h) (fun _ h => h.elim) (fun _ _ => trivial) HB.out HB.out.size ?aL ?_; (case aL => rw [HM.out]; omega); intro v2 w6 ho hb2 hg hat; rw [HF.out] at ho; have HO2 := Aside0.mk ho; have HB2 := Aside0.mk hb2; clear ho hb2 hg hat))
      go_roundw
      case rel => exact ⟨k + 1, by omega, by go_num, HO2, HB2⟩
      case measure => simp [intOf]; omega
    · obtain rfl : k = l0.length := by omega
      rw [List.take_length] at HO
      obtain ⟨A5, c5, rfl, hc5, hr5⟩ := Kd.R_reads HO.out
      have HR5 := Aside0.mk hr5
      have hfl := HFL.out
      have hl9 : (x :: l0.flatten).length < 1152921504606846976 := by omega
      clear hr5 hlt hk HO hfl
      generalize x :: l0.flatten = t at *
      go_wp2_with fail
      refine (sum_calls A5 c5 t _ HR5.out hc5 HY.out (HTAB.out.below (below_step HB1.out HB.out)) hl9).mono ?_
      rintro e w5 ⟨rfl, hb⟩
      have HD2 := Aside0.mk (heap_keep (heap_keep HD.out HB.out) hb)
      have HB3 := Aside0.mk (below_step (below_step HB1.out HB.out) hb)
      clear hb
      rw [HDD.out]
      go_wp2_with (first | (refine wpList_store_row rfl 32 (.tmp 4) (.tmp 21) rfl w.heap.size (cb D) rfl rfl 32 _ HD2.out (infoDg _ HSL.out) (by rw [cb_size, cb_size, HSL.out]; simp) (cb_one _) ?_))
      (try simp only [Exit.inBlock, Exit.then])
      exact dg_ret rfl rfl HSL.out (setRow_heap _ _ _ _ _ _ HD2.out) rfl ⟨rfl, below_setRow HB3.out (Nat.le_refl _) _⟩
end Go.Proofs.YtllcofllnjgkcaaDoor.Sha
