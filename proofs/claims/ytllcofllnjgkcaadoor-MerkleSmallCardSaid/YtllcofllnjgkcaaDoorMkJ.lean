/- What calls of Go functions of this seat come to, as the rows need it: under the conditions that each theorem names. -/
import Derived.Test.YtllcofllnjgkcaaDoorMkI
namespace Go.Proofs.YtllcofllnjgkcaaDoor.Sha
open Go.RowKit Go.Proofs.YtllcofllnjgkcaaDoorW.PrintWords Go.Proofs.YtllcofllnjgkcaaDoorW.PrintLast Go.Proofs.YtllcofllnjgkcaaDoorW.PrintMore
set_option linter.unusedVariables false
set_option linter.unusedSimpArgs false
def sml_T13 : Bool × List (List Nat × List Nat) := (true, [([], []), ([], []), ([0, 1], [0, 1]), ([2], [2]), ([3, 3, 0, 1, 2, 3], [3])])
def sml_B13 : List Nat := [0, 0, 3, 7, 15]
theorem sml_tab13 : rtab .any (opsOf Tryd.f5 13) = sml_T13 := by kernel_rfl
theorem sml_bits13 : waitsOk sml_T13.2 sml_B13 = true := by kernel_rfl
def sml_T15 : Bool × List (List Nat × List Nat) := (true, [([], []), ([0], [0]), ([], []), ([2], [2]), ([3], [3]), ([4], [4]), ([], []), ([5, 6], [5, 6]), ([7, 1], [7]), ([1, 8], [1, 8]), ([9, 8], [9]), ([10], [10]), ([11, 10], [10, 11]), ([12, 10, 10], [10, 12]), ([10], [10]), ([14, 10], [10, 14]), ([13, 15, 10], [10, 13, 15]), ([10, 16], [10, 16]), ([17, 13], [17]), ([18, 18], [18]), ([18, 19], [18, 19]), ([20, 19, 0, 1, 2, 3, 4, 5, 6, 7, 8, 9, 10, 11, 12, 13, 14, 15, 16, 17, 18, 19, 20], [20])])
def sml_B15 : List Nat := [0, 1, 0, 4, 12, 28, 0, 124, 255, 511, 1023, 2047, 4095, 8191, 2047, 18431, 65535, 131071, 262143, 524287, 1048575, 2097151]
theorem sml_tab15 : rtab .any (opsOf Tryd.f5 15) = sml_T15 := by kernel_rfl
theorem sml_bits15 : waitsOk sml_T15.2 sml_B15 = true := by kernel_rfl
theorem topF_succ (rows : List (List Int)) (j : Nat) : topF rows (j + 1) = shaI (1 :: (topF rows j ++ rows.getD (j + 1) [])) :=
  (rfl : topF rows (j + 1) = pairI (topF rows j) (rows.getD (j + 1) [])).trans rfl
theorem topF_D {rows : List (List Int)} (h : isRow rows) (j : Nat) (hj : j < rows.length) : isD (topF rows j) := by
  cases j with
  | zero => exact isRow_getD h 0 hj
  | succ j => rw [topF_succ]; exact sha_D _
theorem smC {W : World} {g1 g2 g6 n : Nat} {T : List Int} (h2 : W.heap[g2]? = some (.cells #[.slice (some ⟨g1, 0, none⟩) 8 8, .slice (some ⟨g6, 0, none⟩) 32 32] 22 (0, 0))) (h1 : W.heap[g1]? = some (.cells (cb (be8 n)) 5 (0, 0))) (h6 : W.heap[g6]? = some (.cells (cb T) 32 (0, 0))) (hT : T.length = 32) :
    Kd.C (Kd.slice 5 B) W (some ⟨g2, 0, none⟩) 2 [be8 n, T] :=
  two_rows (A := some ⟨g1, 0, none⟩) (B' := some ⟨g6, 0, none⟩) (ca := 8) (cb' := 32) (by rw [hT]; exact h2) (C_cb h1 (by simp [be8])) (Nat.le_refl 8) (C_cb h6 (by omega)) (by omega)
theorem cb_at (k : Nat) (h : k < 256) : cb (be8 k) = #[.int .u8 0, .int .u8 0, .int .u8 0, .int .u8 0, .int .u8 0, .int .u8 0, .int .u8 0, .int .u8 (k : Int)] := by
  rw [be8_small k h]
  rfl
set_option maxHeartbeats 1600000 in
set_option maxRecDepth 100000 in
theorem small_calls (A : Option Addr) (c : Nat) (l : List Int) (w : World) (hr : B.C w A l.length l) (hc : l.length ≤ c) (hb : bytes l) (hT : Tab w) :
    Calls Tryd.prog 5 #[.slice A l.length c] w fun e w' => e = .returned (.bool true) ∧ Below w.heap.size w w' := by
  have HR := Aside0.mk hr
  have HY := Aside0.mk hb
  have HTAB := Aside0.mk hT
  have hl63 : l.length ≤ 9223372036854775807 := hr.2.1
  clear hr hb hT
  by_cases hbig : 192 < l.length
  · have e1 : decide ((l.length : Int) > 192) = true := decide_eq_true (by omega)
    clear hbig
    go_enter Tryd.func5, Tryd.ntmps5
    go_wp2_with fail
    refine (known_calls _ HTAB.out).mono ?_
    rintro e w1 ⟨rfl, hb⟩
    go_wp2
    go_ret
    exact ⟨rfl, hb⟩
  have e1 : decide ((l.length : Int) > 192) = false := decide_eq_false (by omega)
  have hl5 : l.length ≤ 192 := by omega
  have hN3 : countN l.length ≤ 3 := by unfold countN; omega
  have HNI := Aside0.mk (show ∀ k, k < countN l.length → k * 64 ≤ l.length ∧ (64 * k < l.length ∨ k = 0) from fun k hk => ⟨count_lt hk, by unfold countN at hk; omega⟩)
  have HNE := Aside0.mk (show l.length ≤ 64 * countN l.length ∧ countN l.length ≠ 0 from by unfold countN; omega)
  have HLL := Aside0.mk (leavesL_len l)
  have HLV := Aside0.mk (show leavesL l = leavesP l (countN l.length) from rfl)
  generalize hNN : countN l.length = N at hN3 HNI HNE HLL HLV
  have HNN := Aside0.mk hNN
  clear hbig hNN
  go_enter Tryd.func5, Tryd.ntmps5
  go_wp2
  go_loopw [3, 4] (fun v i wr => ∃ k q : Nat, k ≤ N ∧ q = 64 * k ∧ i = .int .i64 (q : Int) ∧ Aside0 (Kd.R KD 32 wr w.heap.size (fun _ => True) v (leavesP l k)) ∧ Aside0 (Below w.heap.size w wr)) (fun _ i _ => 256 - (intOf i).toNat)
  case atStart => exact ⟨0, 0, Nat.zero_le _, rfl, rfl, ⟨Kd.R_nil _ _ _ _ _⟩, ⟨Below.refl _ _⟩⟩
  case round =>
    obtain ⟨k, q, hk, hq, rfl, HO, HB⟩ := hrel
    by_cases hlt : k < N
    · obtain ⟨hk64, hko⟩ := HNI.out k hlt
      have HS := Aside0.mk (leavesP_succ l k)
      have HLP := Aside0.mk (leavesP_len l k)
      have hq3 : q ≤ 128 := by omega
      have hql : q ≤ l.length := by omega
      obtain ⟨m, hm⟩ : ∃ m, m = min l.length ((k + 1) * 64) := ⟨_, rfl⟩
      obtain ⟨A2, c2, hcut, hcc, hc2⟩ := midB A c l q m (by omega) (by omega) hc
      have HCC := Aside0.mk (hcc w HR.out)
      have HQ := Aside0.mk (show chunkL l k = (l.take m).drop q by rw [hm, hq, Nat.mul_comm 64 k]; rfl)
      rw [← HQ.out] at hcut hc2 HCC
      have HCL := Aside0.mk (show (chunkL l k).length ≤ 64 by rw [chunk_len (by rw [HNN.out]; exact hlt)]; omega)
      have HCB := Aside0.mk (chunk_bytes HY.out k)
      have hqk : (q : Int) / 64 = (k : Int) := by omega
      have hk3 : k ≤ 255 := by omega
      have HAT := Aside0.mk (cb_at k (by omega))
      have HDG := Aside0.mk (shaI_len (0 :: (be8 k ++ chunkL l k)))
      have HM := Aside0.mk (show (m : Int) = min ((q : Int) + 64) (l.length : Int) by omega)
      have HKQ := Aside0.mk (show 64 * (k + 1) = q + 64 by omega)
      generalize chunkL l k = ch at *
      clear HQ hcc hm hk64
      by_cases hz : q < l.length
      · have e2 : decide ((q : Int) < (l.length : Int)) = true := decide_eq_true (by omega)
        clear hko hq
        by_cases hmm : (q : Int) + 64 ≤ (l.length : Int)
        · rw [HM.out, Int.min_eq_left (by omega)] at hcut
          go_wp2_with fail
          have hB2 := (HB.out.alloc HB.out.size (.cells #[.int .u8 0, .int .u8 0, .int .u8 0, .int .u8 0, .int .u8 0, .int .u8 0, .int .u8 0, .int .u8 (k : Int)] 5))
          have hB3 := hB2.alloc hB2.size (.cells #[.slice (some ⟨wr.heap.size, 0, none⟩) 8 8, .slice A2 ch.length c2] 22)
          refine (parts_calls 0 _ 2 [be8 k, ch] _ (two_rows (g := wr.heap.size + 1) (A := some ⟨wr.heap.size, 0, none⟩) (B' := A2) (ca := 8) (cb' := c2) (a := be8 k) (heap_new' _ _ _ (by simp)) (Kd.C_alloc (C_cb (by rw [HAT.out]; exact heap_new _ _) (by simp [be8])) _) (Nat.le_refl 8) (Kd.C_alloc (Kd.C_alloc (Kd.C_below HCC.out HB.out) _) _) hc2) (Nat.le_refl 2) (by omega) (by rw [flat2]; exact bytes_app (be8_bytes k) HCB.out) (by rw [flen2]; have := HCL.out; simp [be8]; omega) (HTAB.out.below hB3)).mono ?_
          rintro e w3 ⟨rfl, hb⟩
          rw [flat2]
          have HB3 := Aside0.mk (below_step hB3 hb)
          replace HO := Aside0.mk (Kd.R_below (Kd.R_alloc (Kd.R_alloc HO.out _) _) hb)
          replace HS := Aside0.mk (show leavesP l k ++ [shaI (0 :: (be8 k ++ ch))] = leavesP l (k + 1) from HS.out)
          clear hb hB2 hB3
          generalize shaI (0 :: (be8 k ++ ch)) = D at HS HDG ⊢
          go_wp2_with (first | ((with_reducible refine gate_dst (N := 39) rfl ?_); refine wpList_lit rfl (.tmp 38) rfl HDG.out rfl ?_) | ((with_reducible refine gate_builtin (b := .append) (xs := #[.tmp 27, .tmp 39]) rfl ?_); at_builtin; refine Kd.R_append KD (w0 := w) w.heap.size rfl (.tmp 27) (.tmp 39) 34 32 (.agg #[.int .u8 0, .int .u8 0, .int .u8 0, .int .u8 0, .int .u8 0, .int .u8 0, .int .u8 0, .int .u8 0, .int .u8 0, .int .u8 0, .int .u8 0, .int .u8 0, .int .u8 0, .int .u8 0, .int .u8 0, .int .u8 0, .int .u8 0, .int .u8 0, .int .u8 0, .int .u8 0, .int .u8 0, .int .u8 0, .int .u8 0, .int .u8 0, .int .u8 0, .int .u8 0, .int .u8 0, .int .u8 0, .int .u8 0, .int .u8 0, .int .u8 0, .int .u8 0]) 32 rfl Tryd.underlying34 infoDG rfl (by decide) (by omega) _ (leavesP l k) D (D.map (Value.int .u8)) (fun _ => True) (fun _ => False) rfl rfl (KD_of HDG.out) (fun _ h => h.elim) (fun _ _ => trivial) HO.out HB3.out HB3.out.size ?aL ?_; (case aL => rw [HLP.out]; omega); intro v2 w6 ho hb2 _ _; rw [HS.out] at ho; have HO2 := Aside0.mk ho; have HB4 := Aside0.mk hb2; clear ho hb2))
          go_roundw
          case rel => exact ⟨k + 1, q + 64, by omega, HKQ.out.symm, by go_num, HO2, HB4⟩
          case measure => simp [intOf]; omega
        · rw [HM.out, Int.min_eq_right (by omega)] at hcut
          have hmm2 : (l.length : Int) < (q : Int) + 64 := by omega
          clear hmm
          go_wp2_with fail
          all_goals
            have hB2 := (HB.out.alloc HB.out.size (.cells #[.int .u8 0, .int .u8 0, .int .u8 0, .int .u8 0, .int .u8 0, .int .u8 0, .int .u8 0, .int .u8 (k : Int)] 5))
            have hB3 := hB2.alloc hB2.size (.cells #[.slice (some ⟨wr.heap.size, 0, none⟩) 8 8, .slice A2 ch.length c2] 22)
            refine (parts_calls 0 _ 2 [be8 k, ch] _ (two_rows (g := wr.heap.size + 1) (A := some ⟨wr.heap.size, 0, none⟩) (B' := A2) (ca := 8) (cb' := c2) (a := be8 k) (heap_new' _ _ _ (by simp)) (Kd.C_alloc (C_cb (by rw [HAT.out]; exact heap_new _ _) (by simp [be8])) _) (Nat.le_refl 8) (Kd.C_alloc (Kd.C_alloc (Kd.C_below HCC.out HB.out) _) _) hc2) (Nat.le_refl 2) (by omega) (by rw [flat2]; exact bytes_app (be8_bytes k) HCB.out) (by rw [flen2]; have := HCL.out; simp [be8]; omega) (HTAB.out.below hB3)).mono ?_
            rintro e w3 ⟨rfl, hb⟩
            rw [flat2]
            have HB3 := Aside0.mk (below_step hB3 hb)
            replace HO := Aside0.mk (Kd.R_below (Kd.R_alloc (Kd.R_alloc HO.out _) _) hb)
            replace HS := Aside0.mk (show leavesP l k ++ [shaI (0 :: (be8 k ++ ch))] = leavesP l (k + 1) from HS.out)
            clear hb hB2 hB3
            generalize shaI (0 :: (be8 k ++ ch)) = D at HS HDG ⊢
            go_wp2_with (first | ((with_reducible refine gate_dst (N := 39) rfl ?_); refine wpList_lit rfl (.tmp 38) rfl HDG.out rfl ?_) | ((with_reducible refine gate_builtin (b := .append) (xs := #[.tmp 27, .tmp 39]) rfl ?_); at_builtin; refine Kd.R_append KD (w0 := w) w.heap.size rfl (.tmp 27) (.tmp 39) 34 32 (.agg #[.int .u8 0, .int .u8 0, .int .u8 0, .int .u8 0, .int .u8 0, .int .u8 0, .int .u8 0, .int .u8 0, .int .u8 0, .int .u8 0, .int .u8 0, .int .u8 0, .int .u8 0, .int .u8 0, .int .u8 0, .int .u8 0, .int .u8 0, .int .u8 0, .int .u8 0, .int .u8 0, .int .u8 0, .int .u8 0, .int .u8 0, .int .u8 0, .int .u8 0, .int .u8 0, .int .u8 0, .int .u8 0, .int .u8 0, .int .u8 0, .int .u8 0, .int .u8 0]) 32 rfl Tryd.underlying34 infoDG rfl (by decide) (by omega) _ (leavesP l k) D (D.map (Value.int .u8)) (fun _ => True) (fun _ => False) rfl rfl (KD_of HDG.out) (fun _ h => h.elim) (fun _ _ => trivial) HO.out HB3.out HB3.out.size ?aL ?_; (case aL => rw [HLP.out]; omega); intro v2 w6 ho hb2 _ _; rw [HS.out] at ho; have HO2 := Aside0.mk ho; have HB4 := Aside0.mk hb2; clear ho hb2))
            go_roundw
            case rel => exact ⟨k + 1, q + 64, by omega, HKQ.out.symm, by go_num, HO2, HB4⟩
            case measure => simp [intOf]; omega
      · have hq0 : q = 0 := by omega
        have hq00 : (q == 0) = true := by rw [hq0]; rfl
        have hq2 : decide (q < l.length) = false := decide_eq_false hz
        rw [HM.out, Int.min_eq_right (by omega)] at hcut
        have hmm2 : (l.length : Int) < (q : Int) + 64 := by omega
        have HQ0 := Aside0.mk hq0
        clear hko hq hq0
        go_wp2_with fail
        have hB2 := (HB.out.alloc HB.out.size (.cells #[.int .u8 0, .int .u8 0, .int .u8 0, .int .u8 0, .int .u8 0, .int .u8 0, .int .u8 0, .int .u8 (k : Int)] 5))
        have hB3 := hB2.alloc hB2.size (.cells #[.slice (some ⟨wr.heap.size, 0, none⟩) 8 8, .slice A2 ch.length c2] 22)
        refine (parts_calls 0 _ 2 [be8 k, ch] _ (two_rows (g := wr.heap.size + 1) (A := some ⟨wr.heap.size, 0, none⟩) (B' := A2) (ca := 8) (cb' := c2) (a := be8 k) (heap_new' _ _ _ (by simp)) (Kd.C_alloc (C_cb (by rw [HAT.out]; exact heap_new _ _) (by simp [be8])) _) (Nat.le_refl 8) (Kd.C_alloc (Kd.C_alloc (Kd.C_below HCC.out HB.out) _) _) hc2) (Nat.le_refl 2) (by omega) (by rw [flat2]; exact bytes_app (be8_bytes k) HCB.out) (by rw [flen2]; have := HCL.out; simp [be8]; omega) (HTAB.out.below hB3)).mono ?_
        rintro e w3 ⟨rfl, hb⟩
        rw [flat2]
        have HB3 := Aside0.mk (below_step hB3 hb)
        replace HO := Aside0.mk (Kd.R_below (Kd.R_alloc (Kd.R_alloc HO.out _) _) hb)
        replace HS := Aside0.mk (show leavesP l k ++ [shaI (0 :: (be8 k ++ ch))] = leavesP l (k + 1) from HS.out)
        clear hb hB2 hB3
        generalize shaI (0 :: (be8 k ++ ch)) = D at HS HDG ⊢
        go_wp2_with (first | ((with_reducible refine gate_dst (N := 39) rfl ?_); refine wpList_lit rfl (.tmp 38) rfl HDG.out rfl ?_) | ((with_reducible refine gate_builtin (b := .append) (xs := #[.tmp 27, .tmp 39]) rfl ?_); at_builtin; refine Kd.R_append KD (w0 := w) w.heap.size rfl (.tmp 27) (.tmp 39) 34 32 (.agg #[.int .u8 0, .int .u8 0, .int .u8 0, .int .u8 0, .int .u8 0, .int .u8 0, .int .u8 0, .int .u8 0, .int .u8 0, .int .u8 0, .int .u8 0, .int .u8 0, .int .u8 0, .int .u8 0, .int .u8 0, .int .u8 0, .int .u8 0, .int .u8 0, .int .u8 0, .int .u8 0, .int .u8 0, .int .u8 0, .int .u8 0, .int .u8 0, .int .u8 0, .int .u8 0, .int .u8 0, .int .u8 0, .int .u8 0, .int .u8 0, .int .u8 0, .int .u8 0]) 32 rfl Tryd.underlying34 infoDG rfl (by decide) (by omega) _ (leavesP l k) D (D.map (Value.int .u8)) (fun _ => True) (fun _ => False) rfl rfl (KD_of HDG.out) (fun _ h => h.elim) (fun _ _ => trivial) HO.out HB3.out HB3.out.size ?aL ?_; (case aL => rw [HLP.out]; omega); intro v2 w6 ho hb2 _ _; rw [HS.out] at ho; have HO2 := Aside0.mk ho; have HB4 := Aside0.mk hb2; clear ho hb2))
        go_roundw
        case rel => exact ⟨k + 1, q + 64, by omega, HKQ.out.symm, by go_num, HO2, HB4⟩
        case measure => simp [intOf]; omega
    · obtain rfl : k = N := by omega
      have hN1 : 1 ≤ k := by have := HNE.out; omega
      have hqn : l.length ≤ q := by have := HNE.out; omega
      have hq0 : q ≠ 0 := by have := HNE.out; omega
      have hq00 : (q == 0) = false := by rw [beq_eq_false_iff_ne]; exact hq0
      have hq1 : ¬ q < l.length := by omega
      have hq2 : decide (q < l.length) = false := decide_eq_false hq1
      have e2 : decide ((q : Int) < (l.length : Int)) = false := decide_eq_false (by omega)
      have e3 : ((q : Int) == 0) = false := by rw [beq_eq_false_iff_ne]; omega
      clear hq
      rw [← HLV.out] at HO
      have HLD := Aside0.mk (leaves_D l)
      have HRT := Aside0.mk (show rootOf l = rootI l.length (topF (leavesL l) (k - 1)) by unfold rootOf; rw [climb_topF (by rw [HLL.out]; omega) (by rw [HLL.out]; omega), HLL.out])
      obtain ⟨A3, c3, rfl, hc3, hr3⟩ := Kd.R_reads HO.out
      have HR3 := Aside0.mk hr3
      clear hr3 HO HLV hlt hk
      generalize leavesL l = rows at *
      obtain ⟨ad, rfl, _, _⟩ := row_ld HR3.out 0 (by rw [HLL.out]; omega)
      have hx := row_load' HR3.out (Below.refl _ _) 0 (by rw [HLL.out]; omega) rfl
      rw [Nat.zero_mul, Addr.add_zero'] at hx
      have HX := Aside0.mk hx
      clear hx
      have hrl := Aside0.mk (show 0 < rows.length by rw [HLL.out]; omega)
      have hpos : 0 < rows.length := hrl.out
      obtain ⟨A6, c6, hcut, hcc, hc6⟩ := cutD (some ad) c3 rows 1 (by omega) hc3
      replace hcut : ∀ W : World, (Instr.slice 34 (.slice (some ad) rows.length c3) (some (.int .i64 1)) none none).run Tryd.prog W = .ok (.slice A6 (rows.drop 1).length c6) W := hcut
      have HCC := Aside0.mk (hcc _ HR3.out)
      have HDL := Aside0.mk (show (rows.drop 1).length = k - 1 by rw [List.length_drop, HLL.out])
      have HDI := Aside0.mk (show ∀ j, (rows.drop 1).getD j [] = rows.getD (j + 1) [] from fun j => by simp [List.getD_eq_getElem?_getD, Nat.add_comm])
      have hT0 : rows.getD 0 [] = topF rows 0 := rfl
      have HT0 := Aside0.mk (show (topF rows 0).length = 32 from (isRow_getD HLD.out 0 hpos).1)
      rw [hT0] at HX
      generalize rows.drop 1 = rows1 at *
      have hd1 : rows1.length ≤ 2 := by have := HDL.out; omega
      clear hcc hT0
      go_wp2_with (first | ((with_reducible refine gate_dst (N := 43) rfl ?_); refine wpList_load_at rfl (ty := 32) (x := .tmp 42) (p := .pointer (some ad)) (v := vd (topF rows 0)) rfl rfl HX.out ?_) | (refine wpList_store_row rfl 32 (.tmp 6) (.tmp 43) rfl wr.heap.size (cb (topF rows 0)) rfl rfl 32 _ (heap_new _ _) (infoDg _ HT0.out) (by rw [cb_size, HT0.out]; rfl) (cb_one _) ?_))
      have HB6 := Aside0.mk (Below.refl wr.heap.size wr)
      obtain ⟨w7, hw7, HG6, HB7⟩ : ∃ w7, (wr.alloc (.cells #[.int .u8 0, .int .u8 0, .int .u8 0, .int .u8 0, .int .u8 0, .int .u8 0, .int .u8 0, .int .u8 0, .int .u8 0, .int .u8 0, .int .u8 0, .int .u8 0, .int .u8 0, .int .u8 0, .int .u8 0, .int .u8 0, .int .u8 0, .int .u8 0, .int .u8 0, .int .u8 0, .int .u8 0, .int .u8 0, .int .u8 0, .int .u8 0, .int .u8 0, .int .u8 0, .int .u8 0, .int .u8 0, .int .u8 0, .int .u8 0, .int .u8 0, .int .u8 0] 32)).setRow wr.heap.size (cb (topF rows 0)) = w7 ∧ Aside0 (w7.heap[wr.heap.size]? = some (.cells (cb (topF rows 0)) 32 (0, 0))) ∧ Aside0 (Below wr.heap.size wr w7) :=
        ⟨_, rfl, ⟨setRow_heap _ _ _ _ _ _ (heap_new _ _)⟩, ⟨below_setRow ((Below.refl wr.heap.size wr).alloc (Nat.le_refl _) _) (Nat.le_refl _) _⟩⟩
      rw [hw7]
      clear hw7 HB6 hcut hc3 hc6
      obtain ⟨w6, hw6⟩ : ∃ w6, w6 = wr := ⟨_, rfl⟩
      rw [← hw6] at HB HR3 HX HCC HG6 HB7 ⊢
      clear hw6
      have HTD := Aside0.mk (show ∀ j, j < k → isD (topF rows j) from fun j hj => topF_D HLD.out j (by rw [HLL.out]; exact hj))
      go_loopw [47] (fun i wz => ∃ j : Nat, j ≤ k - 1 ∧ i = .int .i64 (j : Int) ∧ Aside0 (wz.heap[w6.heap.size]? = some (.cells (cb (topF rows j)) 32 (0, 0))) ∧ Aside0 (Below w6.heap.size w6 wz)) (fun i _ => 5 - (intOf i).toNat)
      case atStart => exact ⟨0, Nat.zero_le _, rfl, HG6, HB7⟩
      case round =>
        clear HG6 HB7
        obtain ⟨j, hj, rfl, HG, HZ⟩ := hrel
        by_cases hlt : j < k - 1
        · have hjl : j < rows1.length := by rw [HDL.out]; exact hlt
          obtain ⟨ad6, rfl, _, _⟩ := row_ld HCC.out j hjl
          have HXJ := Aside0.mk (row_load' HCC.out HZ.out j hjl (HDI.out j))
          have HDJ := Aside0.mk (isRow_getD HLD.out (j + 1) (by rw [HLL.out]; omega))
          have HTJ := Aside0.mk (HTD.out j (by omega))
          have HTN := Aside0.mk (topF_succ rows j)
          generalize rows.getD (j + 1) [] = d at HXJ HDJ HTN
          generalize topF rows j = t at HG HTJ HTN
          have hj5 : j ≤ 3 := by omega
          go_upto_region 13 with (first | ((with_reducible refine gate_dst (N := 50) rfl ?_); refine wpList_load_at rfl (ty := 32) (x := .tmp 49) (p := .pointer (some (ad6.add (j * 32)))) (v := vd d) rfl rfl HXJ.out ?_) | (refine wpList_store_row rfl 32 (.tmp 8) (.tmp 50) rfl wr.heap.size (cb d) rfl rfl 32 _ (heap_new _ _) (infoDg _ HDJ.out.1) (by rw [cb_size, HDJ.out.1]; rfl) (cb_one _) ?_))
          obtain ⟨W, hW, HC, HB2, HT2, HD1⟩ : ∃ W, (((wr.alloc (.cells #[.int .u8 0, .int .u8 0, .int .u8 0, .int .u8 0, .int .u8 0, .int .u8 0, .int .u8 0, .int .u8 0, .int .u8 0, .int .u8 0, .int .u8 0, .int .u8 0, .int .u8 0, .int .u8 0, .int .u8 0, .int .u8 0, .int .u8 0, .int .u8 0, .int .u8 0, .int .u8 0, .int .u8 0, .int .u8 0, .int .u8 0, .int .u8 0, .int .u8 0, .int .u8 0, .int .u8 0, .int .u8 0, .int .u8 0, .int .u8 0, .int .u8 0, .int .u8 0] 32)).setRow wr.heap.size (cb d)).alloc (.cells #[.slice (some ⟨w6.heap.size, 0, none⟩) 32 32, .slice (some ⟨wr.heap.size, 0, none⟩) 32 32] 22)).drew = W ∧ Aside0 (Kd.C (Kd.slice 5 B) W (some ⟨wr.heap.size + 1, 0, none⟩) 2 [t, d]) ∧ Aside0 (Below w6.heap.size w6 W) ∧ Aside0 (Tab W) ∧ Aside0 (W.heap[w6.heap.size]? = some (.cells (cb t) 32 (0, 0))) := by
            have hz := HZ.out.size
            have ha : (wr.alloc (.cells #[.int .u8 0, .int .u8 0, .int .u8 0, .int .u8 0, .int .u8 0, .int .u8 0, .int .u8 0, .int .u8 0, .int .u8 0, .int .u8 0, .int .u8 0, .int .u8 0, .int .u8 0, .int .u8 0, .int .u8 0, .int .u8 0, .int .u8 0, .int .u8 0, .int .u8 0, .int .u8 0, .int .u8 0, .int .u8 0, .int .u8 0, .int .u8 0, .int .u8 0, .int .u8 0, .int .u8 0, .int .u8 0, .int .u8 0, .int .u8 0, .int .u8 0, .int .u8 0] 32)).heap.size = wr.heap.size + 1 := by simp
            have hg6 : w6.heap.size < wr.heap.size := (Array.getElem?_eq_some_iff.1 HG.out).1
            have hb1 : Below w6.heap.size w6 ((wr.alloc (.cells #[.int .u8 0, .int .u8 0, .int .u8 0, .int .u8 0, .int .u8 0, .int .u8 0, .int .u8 0, .int .u8 0, .int .u8 0, .int .u8 0, .int .u8 0, .int .u8 0, .int .u8 0, .int .u8 0, .int .u8 0, .int .u8 0, .int .u8 0, .int .u8 0, .int .u8 0, .int .u8 0, .int .u8 0, .int .u8 0, .int .u8 0, .int .u8 0, .int .u8 0, .int .u8 0, .int .u8 0, .int .u8 0, .int .u8 0, .int .u8 0, .int .u8 0, .int .u8 0] 32)).setRow wr.heap.size (cb d)) := below_setRow (HZ.out.alloc hz _) (by omega) _
            have hs1 : ((wr.alloc (.cells #[.int .u8 0, .int .u8 0, .int .u8 0, .int .u8 0, .int .u8 0, .int .u8 0, .int .u8 0, .int .u8 0, .int .u8 0, .int .u8 0, .int .u8 0, .int .u8 0, .int .u8 0, .int .u8 0, .int .u8 0, .int .u8 0, .int .u8 0, .int .u8 0, .int .u8 0, .int .u8 0, .int .u8 0, .int .u8 0, .int .u8 0, .int .u8 0, .int .u8 0, .int .u8 0, .int .u8 0, .int .u8 0, .int .u8 0, .int .u8 0, .int .u8 0, .int .u8 0] 32)).setRow wr.heap.size (cb d)).heap.size = wr.heap.size + 1 := by rw [size_setRow]; exact ha
            have hb2 := hb1.alloc hb1.size (.cells #[.slice (some ⟨w6.heap.size, 0, none⟩) 32 32, .slice (some ⟨wr.heap.size, 0, none⟩) 32 32] 22)
            have hd8 : ((wr.alloc (.cells #[.int .u8 0, .int .u8 0, .int .u8 0, .int .u8 0, .int .u8 0, .int .u8 0, .int .u8 0, .int .u8 0, .int .u8 0, .int .u8 0, .int .u8 0, .int .u8 0, .int .u8 0, .int .u8 0, .int .u8 0, .int .u8 0, .int .u8 0, .int .u8 0, .int .u8 0, .int .u8 0, .int .u8 0, .int .u8 0, .int .u8 0, .int .u8 0, .int .u8 0, .int .u8 0, .int .u8 0, .int .u8 0, .int .u8 0, .int .u8 0, .int .u8 0, .int .u8 0] 32)).setRow wr.heap.size (cb d)).heap[wr.heap.size]? = some (.cells (cb d) 32 (0, 0)) := setRow_heap _ _ _ _ _ _ (heap_new _ _)
            have hd6 : ((wr.alloc (.cells #[.int .u8 0, .int .u8 0, .int .u8 0, .int .u8 0, .int .u8 0, .int .u8 0, .int .u8 0, .int .u8 0, .int .u8 0, .int .u8 0, .int .u8 0, .int .u8 0, .int .u8 0, .int .u8 0, .int .u8 0, .int .u8 0, .int .u8 0, .int .u8 0, .int .u8 0, .int .u8 0, .int .u8 0, .int .u8 0, .int .u8 0, .int .u8 0, .int .u8 0, .int .u8 0, .int .u8 0, .int .u8 0, .int .u8 0, .int .u8 0, .int .u8 0, .int .u8 0] 32)).setRow wr.heap.size (cb d)).heap[w6.heap.size]? = some (.cells (cb t) 32 (0, 0)) := by
              rw [setRow_other _ _ _ _ (by omega), Below.heap_alloc _ _ _ hg6]
              exact HG.out
            have hl1 := HTJ.out.1
            have hl2 := HDJ.out.1
            refine ⟨_, rfl, ⟨?_⟩, ⟨below_drew1 hb2⟩, ⟨HTAB.out.below (below_drew1 (below_step HB.out hb2))⟩, ⟨?_⟩⟩
            · refine Kd.C_drew (two_rows (g := wr.heap.size + 1) (A := some ⟨w6.heap.size, 0, none⟩) (B' := some ⟨wr.heap.size, 0, none⟩) (ca := 32) (cb' := 32) (by rw [hl1, hl2]; exact heap_new' _ _ _ hs1.symm) (Kd.C_alloc (C_cb hd6 (by omega)) _) (by omega) (Kd.C_alloc (C_cb hd8 (by omega)) _) (by omega))
            · show (((wr.alloc (.cells #[.int .u8 0, .int .u8 0, .int .u8 0, .int .u8 0, .int .u8 0, .int .u8 0, .int .u8 0, .int .u8 0, .int .u8 0, .int .u8 0, .int .u8 0, .int .u8 0, .int .u8 0, .int .u8 0, .int .u8 0, .int .u8 0, .int .u8 0, .int .u8 0, .int .u8 0, .int .u8 0, .int .u8 0, .int .u8 0, .int .u8 0, .int .u8 0, .int .u8 0, .int .u8 0, .int .u8 0, .int .u8 0, .int .u8 0, .int .u8 0, .int .u8 0, .int .u8 0] 32)).setRow wr.heap.size (cb d)).alloc _).heap[w6.heap.size]? = _
              rw [Below.heap_alloc _ _ _ (by omega)]
              exact hd6
          have HSL := Aside0.mk (shaI_len (1 :: (t ++ d)))
          generalize hDN : shaI (1 :: (t ++ d)) = tn at HTN HSL
          have HDN := Aside0.mk hDN
          clear hDN
          simp only [Act.put]
          refine start_ (n := 5) (S := fun w' => True) (ds := []) #[false, false, false, false, false] (by kernel_rfl) rfl rfl trivial (fun hHeld => ?_)
          refine with_tabW sml_tab13 sml_bits13 (fun HT_ HW_ => ?_)
          refine pure_ (i := 0) (N := some 51) (v := ?_) (a' := ?_) #[true, false, false, false, false] rfl rfl (any_of HT_.out (by kernel_rfl)) (fun _ _ _ h => h) (Or.inl ⟨by rfl, ?_⟩) ?_ ?_
          rotate_left
          · intro w'
            go_simp
            with_reducible rfl
          rotate_left
          · simp only [Act.put, List.setIfInBounds_toArray, List.set_cons_zero, List.set_cons_succ, i64_w, i32_w]
            rfl
          refine pure_ (i := 1) (N := some 52) (v := ?_) (a' := ?_) #[true, true, false, false, false] rfl rfl (any_of HT_.out (by kernel_rfl)) (fun _ _ _ h => h) (Or.inl ⟨by rfl, ?_⟩) ?_ ?_
          rotate_left
          · intro w'
            go_simp
            with_reducible rfl
          rotate_left
          · simp only [Act.put, List.setIfInBounds_toArray, List.set_cons_zero, List.set_cons_succ, i64_w, i32_w]
            rfl
          refine one_ (i := 2) (N := some 53) #[true, true, true, false, false] rfl rfl (one_of HT_.out (by kernel_rfl)) (by decide) (fun K hK => ?_)
          go_simp
          refine hK.out _ _ trivial (fun hHeld => ?_)
          clear hK K
          refine norm_ (a' := ?_) ?_ ?_
          rotate_left
          · first
            | (show Act.put _ (some 53) _ = _; simp only [Act.put, List.setIfInBounds_toArray, List.set_cons_zero, List.set_cons_succ, i64_w, i32_w]; rfl)
            | rfl
          refine one_ (i := 3) (N := some 54) #[true, true, true, true, false] rfl rfl (one_of HT_.out (by kernel_rfl)) (by decide) (fun K hK => ?_)
          refine goes_ Tryd.func20 (by kernel_rfl) rfl #[.int .u8 1, .slice (some ⟨wr.heap.size + 1, 0, none⟩) 2 2] (by rfl) rfl rfl (by (try simp only [List.map_toArray, List.map_cons, List.map_nil]); first | done | rfl) ?_
          refine (parts_calls 1 _ 2 [t, d] _ HC.out (Nat.le_refl 2) (by omega) (by rw [flat2]; exact bytes_app HTJ.out.2 HDJ.out.2) (by rw [flen2, HTJ.out.1, HDJ.out.1]; omega) HT2.out).mono ?_
          rintro e w3 ⟨rfl, hb⟩
          refine ⟨_, rfl, ?_⟩
          rw [flat2, HDN.out]
          have HD2 := Aside0.mk (heap_keep HD1.out hb)
          have HB3 := Aside0.mk (below_step HB2.out hb)
          clear hb
          refine hK.out _ _ trivial (fun hHeld => ?_)
          clear hK K
          refine norm_ (a' := ?_) ?_ ?_
          rotate_left
          · first
            | (show Act.put _ (some 54) _ = _; simp only [Act.put, List.setIfInBounds_toArray, List.set_cons_zero, List.set_cons_succ, i64_w, i32_w]; rfl)
            | rfl
          refine one_ (i := 4) (N := none) #[true, true, true, true, true] rfl rfl (one_of HT_.out (by kernel_rfl)) (by decide) (fun K hK => ?_)
          refine storeRow_step (by rfl) 32 (.tmp 6) (.tmp 54) rfl w6.heap.size (cb tn) rfl rfl 32 _ HD2.out (infoDg _ HSL.out) (by rw [cb_size, cb_size, HSL.out, HTJ.out.1]) (cb_one _) ?_
          refine hK.out _ _ trivial (fun hHeld => ?_)
          clear hK K
          refine norm_ (a' := ?_) ?_ ?_
          rotate_left
          · first
            | (show Act.put _ none _ = _; simp only [Act.put, List.setIfInBounds_toArray, List.set_cons_zero, List.set_cons_succ, i64_w, i32_w]; rfl)
            | rfl
          refine done_ (done_of HT_.out (by kernel_rfl)) ?_
          clear hHeld HT_ HW_ hW
          go_wp2
          go_roundw
          case rel => exact ⟨j + 1, by omega, by go_num, ⟨by rw [HTN.out]; exact setRow_heap _ _ _ _ _ _ HD2.out⟩, ⟨below_setRow HB3.out (Nat.le_refl _) _⟩⟩
          case measure => simp [intOf]; omega
        · obtain rfl : j = k - 1 := by omega
          have HTJ := Aside0.mk (HTD.out (k - 1) (by omega))
          have HAT := Aside0.mk (cb_at l.length (by omega))
          have HWU := Aside0.mk (show IntKind.u8.wrap (l.length : Int) = (l.length : Int) by rw [IntKind.wrap_u8]; omega)
          have HRS := Aside0.mk (show shaI (2 :: (be8 l.length ++ topF rows (k - 1))) = rootOf l by rw [HRT.out]; rfl)
          clear HRT
          generalize hRt : rootOf l = Rt at HRS
          have HRT := Aside0.mk hRt
          have hRl : Rt.length = 32 := by rw [← HRS.out]; exact shaI_len _
          generalize topF rows (k - 1) = t at HG HTJ HRS
          have heq : ∀ w : World, (Op.equalIn 10000 32 (vd Rt) (vd Rt)).run Tryd.prog w = .ok true w := fun w => by rw [eqD hRl hRl w]; simp
          have hjr : ¬ (k - 1 < rows1.length) := by rw [HDL.out]; omega
          have hl192 : l.length ≤ 192 := hl5
          clear hRt hRl hlt hj HTD HDI
          go_upto_region 15 with (fail)
          refine start_ (n := 22) (S := fun w' => True) (ds := []) #[false, false, false, false, false, false, false, false, false, false, false, false, false, false, false, false, false, false, false, false, false, false] (by kernel_rfl) rfl rfl trivial (fun hHeld => ?_)
          refine with_tabW sml_tab15 sml_bits15 (fun HT_ HW_ => ?_)
          generalize hwq : wr.drew = wq
          have HGQ := Aside0.mk (show wq.heap[w6.heap.size]? = some (.cells (cb t) 32 (0, 0)) by rw [← hwq]; exact HG.out)
          have HZQ := Aside0.mk (show Below w6.heap.size w6 wq by rw [← hwq]; exact below_drew1 HZ.out)
          clear hwq
          refine pure_ (i := 0) (N := some 56) (v := ?_) (a' := ?_) #[true, false, false, false, false, false, false, false, false, false, false, false, false, false, false, false, false, false, false, false, false, false] rfl rfl (any_of HT_.out (by kernel_rfl)) (fun _ _ _ h => h) (Or.inl ⟨by rfl, ?_⟩) ?_ ?_
          rotate_left
          · intro w'
            go_simp
            with_reducible rfl
          rotate_left
          · simp only [Act.put, List.setIfInBounds_toArray, List.set_cons_zero, List.set_cons_succ, i64_w, i32_w]
            rfl
          refine pure_ (i := 2) (N := some 58) (v := ?_) (a' := ?_) #[true, false, true, false, false, false, false, false, false, false, false, false, false, false, false, false, false, false, false, false, false, false] rfl rfl (any_of HT_.out (by kernel_rfl)) (fun _ _ _ h => h) (Or.inl ⟨by rfl, ?_⟩) ?_ ?_
          rotate_left
          · intro w'
            go_simp
            with_reducible rfl
          rotate_left
          · simp only [Act.put, List.setIfInBounds_toArray, List.set_cons_zero, List.set_cons_succ, i64_w, i32_w]
            rfl
          refine pure_ (i := 3) (N := some 59) (v := ?_) (a' := ?_) #[true, false, true, true, false, false, false, false, false, false, false, false, false, false, false, false, false, false, false, false, false, false] rfl rfl (any_of HT_.out (by kernel_rfl)) (fun _ _ _ h => h) (Or.inl ⟨by rfl, ?_⟩) ?_ ?_
          rotate_left
          · intro w'
            go_simp
            with_reducible rfl
          rotate_left
          · simp only [Act.put, List.setIfInBounds_toArray, List.set_cons_zero, List.set_cons_succ, i64_w, i32_w]
            rfl
          refine pure_ (i := 4) (N := some 60) (v := ?_) (a' := ?_) #[true, false, true, true, true, false, false, false, false, false, false, false, false, false, false, false, false, false, false, false, false, false] rfl rfl (any_of HT_.out (by kernel_rfl)) (fun _ _ _ h => h) (Or.inl ⟨by rfl, ?_⟩) ?_ ?_
          rotate_left
          · intro w'
            go_simp
            rw [HWU.out]
          rotate_left
          · simp only [Act.put, List.setIfInBounds_toArray, List.set_cons_zero, List.set_cons_succ, i64_w, i32_w]
            rfl
          refine pure_ (i := 6) (N := some 62) (v := ?_) (a' := ?_) #[true, false, true, true, true, false, true, false, false, false, false, false, false, false, false, false, false, false, false, false, false, false] rfl rfl (any_of HT_.out (by kernel_rfl)) (fun _ _ _ h => h) (Or.inl ⟨by rfl, ?_⟩) ?_ ?_
          rotate_left
          · intro w'
            go_simp
            with_reducible rfl
          rotate_left
          · simp only [Act.put, List.setIfInBounds_toArray, List.set_cons_zero, List.set_cons_succ, i64_w, i32_w]
            rfl
          refine join_ (σ := Nat × Nat) 14 #[true, true, true, true, true, true, true, true, false, false, false, false, false, false, false, false, false, false, false, false, false, false] (fun s => [(57, vd Rt), (61, .slice (some ⟨s.1, 0, none⟩) 8 8), (63, .slice (some ⟨s.2, 0, none⟩) 2 2)]) (fun s w' => Aside0 (Kd.C (Kd.slice 5 B) w' (some ⟨s.2, 0, none⟩) 2 [be8 l.length, t]) ∧ Aside0 (Below w6.heap.size w6 w')) ?_ ?_
          rotate_left
          · intro hJ
            refine two_ (i := 1) (j := 5) (Ni := some 57) (Nj := some 61) #[true, true, true, true, true, false, true, false, false, false, false, false, false, false, false, false, false, false, false, false, false, false] #[true, false, true, true, true, true, true, false, false, false, false, false, false, false, false, false, false, false, false, false, false, false] rfl rfl rfl rfl (two_of HT_.out (by kernel_rfl)) (by decide) (by decide) (fun K hK => ?_) (fun K hK => ?_)
            · skip
              have hbX := HZQ.out
              refine goes_ Tryd.func14 (by kernel_rfl) rfl #[.slice A l.length c] (by rfl) rfl rfl (by (try simp only [List.map_toArray, List.map_cons, List.map_nil]); first | done | rfl) ?_
              refine (Root_calls A c l _ (Kd.C_below HR.out (below_step HB.out hbX)) hc HY.out (by omega) (HTAB.out.below (below_step HB.out hbX))).mono ?_
              rintro e W1 ⟨rfl, hb⟩
              refine ⟨_, rfl, ?_⟩
              rw [HRT.out]
              refine hK.out _ _ trivial (fun _ => ?_)
              clear hK K
              refine norm_ (a' := ?_) ?_ ?_
              rotate_left
              · first
                | (show Act.put _ (some 57) _ = _; simp only [Act.put, List.setIfInBounds_toArray, List.set_cons_zero, List.set_cons_succ, i64_w, i32_w]; rfl)
                | rfl
              have hb6 := HGQ.out
              have hZ1 := below_step HZQ.out hb
              refine one_ (i := 5) (N := some 61) #[true, true, true, true, true, true, true, false, false, false, false, false, false, false, false, false, false, false, false, false, false, false] rfl rfl (one_of HT_.out (by kernel_rfl)) (by decide) (fun K hK => ?_)
              go_simp
              refine hK.out _ _ trivial (fun _ => ?_)
              clear hK K
              refine norm_ (a' := ?_) ?_ ?_
              rotate_left
              · first
                | (show Act.put _ (some 61) _ = _; simp only [Act.put, List.setIfInBounds_toArray, List.set_cons_zero, List.set_cons_succ, i64_w, i32_w]; rfl)
                | rfl
              refine one_ (i := 7) (N := some 63) #[true, true, true, true, true, true, true, true, false, false, false, false, false, false, false, false, false, false, false, false, false, false] rfl rfl (one_of HT_.out (by kernel_rfl)) (by decide) (fun K hK => ?_)
              go_simp
              have hZ3 := (hZ1.alloc hZ1.size (.cells #[.int .u8 0, .int .u8 0, .int .u8 0, .int .u8 0, .int .u8 0, .int .u8 0, .int .u8 0, .int .u8 (l.length : Int)] 5)).alloc (by simp; have := hZ1.size; omega) (.cells #[.slice (some ⟨W1.heap.size, 0, none⟩) 8 8, .slice (some ⟨w6.heap.size, 0, none⟩) 32 32] 22)
              refine hK.out _ _ trivial (fun _ => ?_)
              clear hK K
              refine norm_ ?_ (hJ (W1.heap.size, W1.heap.size + 1) _ ⟨⟨smC (heap_new' _ _ _ (by simp)) (by rw [Below.heap_alloc _ _ _ (by simp), HAT.out]; exact heap_new _ _) (by rw [Below.heap_alloc _ _ _ (by have := (Array.getElem?_eq_some_iff.1 (heap_keep hb6 hb)).1; simp; omega), Below.heap_alloc _ _ _ (Array.getElem?_eq_some_iff.1 (heap_keep hb6 hb)).1]; exact heap_keep hb6 hb) HTJ.out.1⟩, ⟨hZ3⟩⟩)
              first
                | (simp only [putAll]; simp only [Act.put, List.setIfInBounds_toArray, List.set_cons_zero, List.set_cons_succ, i64_w, i32_w]; done)
                | (simp only [putAll]; simp only [Act.put, List.setIfInBounds_toArray, List.set_cons_zero, List.set_cons_succ, i64_w, i32_w]; rfl)
                | rfl
            · skip
              go_simp
              refine hK.out _ _ trivial (fun _ => ?_)
              clear hK K
              refine norm_ (a' := ?_) ?_ ?_
              rotate_left
              · first
                | (show Act.put _ (some 61) _ = _; simp only [Act.put, List.setIfInBounds_toArray, List.set_cons_zero, List.set_cons_succ, i64_w, i32_w]; rfl)
                | rfl
              have hbX := HZQ.out.alloc HZQ.out.size (.cells #[.int .u8 0, .int .u8 0, .int .u8 0, .int .u8 0, .int .u8 0, .int .u8 0, .int .u8 0, .int .u8 (l.length : Int)] 5)
              have hg1 : (wq.alloc (.cells #[.int .u8 0, .int .u8 0, .int .u8 0, .int .u8 0, .int .u8 0, .int .u8 0, .int .u8 0, .int .u8 (l.length : Int)] 5)).heap[wq.heap.size]? = some (.cells (cb (be8 l.length)) 5 (0, 0)) := by rw [HAT.out]; exact heap_new _ _
              have hg6 : (wq.alloc (.cells #[.int .u8 0, .int .u8 0, .int .u8 0, .int .u8 0, .int .u8 0, .int .u8 0, .int .u8 0, .int .u8 (l.length : Int)] 5)).heap[w6.heap.size]? = some (.cells (cb t) 32 (0, 0)) := by rw [Below.heap_alloc _ _ _ (Array.getElem?_eq_some_iff.1 HGQ.out).1]; exact HGQ.out
              refine two_ (i := 1) (j := 7) (Ni := some 57) (Nj := some 63) #[true, true, true, true, true, true, true, false, false, false, false, false, false, false, false, false, false, false, false, false, false, false] #[true, false, true, true, true, true, true, true, false, false, false, false, false, false, false, false, false, false, false, false, false, false] rfl rfl rfl rfl (two_of HT_.out (by kernel_rfl)) (by decide) (by decide) (fun K hK => ?_) (fun K hK => ?_)
              · skip
                refine goes_ Tryd.func14 (by kernel_rfl) rfl #[.slice A l.length c] (by rfl) rfl rfl (by (try simp only [List.map_toArray, List.map_cons, List.map_nil]); first | done | rfl) ?_
                refine (Root_calls A c l _ (Kd.C_below HR.out (below_step HB.out hbX)) hc HY.out (by omega) (HTAB.out.below (below_step HB.out hbX))).mono ?_
                rintro e W1 ⟨rfl, hb⟩
                refine ⟨_, rfl, ?_⟩
                rw [HRT.out]
                refine hK.out _ _ trivial (fun _ => ?_)
                clear hK K
                refine norm_ (a' := ?_) ?_ ?_
                rotate_left
                · first
                  | (show Act.put _ (some 57) _ = _; simp only [Act.put, List.setIfInBounds_toArray, List.set_cons_zero, List.set_cons_succ, i64_w, i32_w]; rfl)
                  | rfl
                have hZ1 := below_step hbX hb
                refine one_ (i := 7) (N := some 63) #[true, true, true, true, true, true, true, true, false, false, false, false, false, false, false, false, false, false, false, false, false, false] rfl rfl (one_of HT_.out (by kernel_rfl)) (by decide) (fun K hK => ?_)
                go_simp
                have hZ3 := hZ1.alloc hZ1.size (.cells #[.slice (some ⟨wq.heap.size, 0, none⟩) 8 8, .slice (some ⟨w6.heap.size, 0, none⟩) 32 32] 22)
                refine hK.out _ _ trivial (fun _ => ?_)
                clear hK K
                refine norm_ ?_ (hJ (wq.heap.size, W1.heap.size) _ ⟨⟨smC (heap_new _ _) (by rw [Below.heap_alloc _ _ _ (Array.getElem?_eq_some_iff.1 (heap_keep hg1 hb)).1]; exact heap_keep hg1 hb) (by rw [Below.heap_alloc _ _ _ (Array.getElem?_eq_some_iff.1 (heap_keep hg6 hb)).1]; exact heap_keep hg6 hb) HTJ.out.1⟩, ⟨hZ3⟩⟩)
                first
                  | (simp only [putAll]; simp only [Act.put, List.setIfInBounds_toArray, List.set_cons_zero, List.set_cons_succ, i64_w, i32_w]; done)
                  | (simp only [putAll]; simp only [Act.put, List.setIfInBounds_toArray, List.set_cons_zero, List.set_cons_succ, i64_w, i32_w]; rfl)
                  | rfl
              · skip
                go_simp
                refine hK.out _ _ trivial (fun _ => ?_)
                clear hK K
                refine norm_ (a' := ?_) ?_ ?_
                rotate_left
                · first
                  | (show Act.put _ (some 63) _ = _; simp only [Act.put, List.setIfInBounds_toArray, List.set_cons_zero, List.set_cons_succ, i64_w, i32_w]; rfl)
                  | rfl
                replace hbX := hbX.alloc hbX.size (.cells #[.slice (some ⟨wq.heap.size, 0, none⟩) 8 8, .slice (some ⟨w6.heap.size, 0, none⟩) 32 32] 22)
                refine one_ (i := 1) (N := some 57) #[true, true, true, true, true, true, true, true, false, false, false, false, false, false, false, false, false, false, false, false, false, false] rfl rfl (one_of HT_.out (by kernel_rfl)) (by decide) (fun K hK => ?_)
                refine goes_ Tryd.func14 (by kernel_rfl) rfl #[.slice A l.length c] (by rfl) rfl rfl (by (try simp only [List.map_toArray, List.map_cons, List.map_nil]); first | done | rfl) ?_
                refine (Root_calls A c l _ (Kd.C_below HR.out (below_step HB.out hbX)) hc HY.out (by omega) (HTAB.out.below (below_step HB.out hbX))).mono ?_
                rintro e W1 ⟨rfl, hb⟩
                refine ⟨_, rfl, ?_⟩
                rw [HRT.out]
                have hZ1 := below_step hbX hb
                refine hK.out _ _ trivial (fun _ => ?_)
                clear hK K
                refine norm_ ?_ (hJ (wq.heap.size, wq.heap.size + 1) _ ⟨⟨smC (heap_keep (heap_new' _ _ _ (by simp)) hb) (heap_keep (by rw [Below.heap_alloc _ _ _ (Array.getElem?_eq_some_iff.1 hg1).1]; exact hg1) hb) (heap_keep (by rw [Below.heap_alloc _ _ _ (Array.getElem?_eq_some_iff.1 hg6).1]; exact hg6) hb) HTJ.out.1⟩, ⟨hZ1⟩⟩)
                first
                  | (simp only [putAll]; simp only [Act.put, List.setIfInBounds_toArray, List.set_cons_zero, List.set_cons_succ, i64_w, i32_w]; done)
                  | (simp only [putAll]; simp only [Act.put, List.setIfInBounds_toArray, List.set_cons_zero, List.set_cons_succ, i64_w, i32_w]; rfl)
                  | rfl
          rintro ⟨g1, g2⟩ w9 ⟨HC9, HB9⟩
          refine norm_ (a' := ?_) ?_ ?_
          rotate_left
          · simp only [putAll]
            simp only [Act.put, List.setIfInBounds_toArray, List.set_cons_zero, List.set_cons_succ, i64_w, i32_w]
            rfl
          refine one_ (i := 8) (N := some 64) #[true, true, true, true, true, true, true, true, true, false, false, false, false, false, false, false, false, false, false, false, false, false] rfl rfl (one_of HT_.out (by kernel_rfl)) (by decide) (fun K hK => ?_)
          refine goes_ Tryd.func20 (by kernel_rfl) rfl #[.int .u8 2, .slice (some ⟨g2, 0, none⟩) 2 2] (by rfl) rfl rfl (by (try simp only [List.map_toArray, List.map_cons, List.map_nil]); first | done | rfl) ?_
          refine (parts_calls 2 _ 2 [be8 l.length, t] _ HC9.out (Nat.le_refl 2) (by omega) (by rw [flat2]; exact bytes_app (be8_bytes _) HTJ.out.2) (by rw [flen2, HTJ.out.1]; simp [be8]) (HTAB.out.below (below_step HB.out HB9.out))).mono ?_
          rintro e w10 ⟨rfl, hb⟩
          refine ⟨_, rfl, ?_⟩
          rw [flat2, HRS.out]
          have HB10 := Aside0.mk (below_step (below_step HB.out HB9.out) hb)
          clear hb
          refine hK.out _ _ trivial (fun hHeld => ?_)
          clear hK K
          refine norm_ (a' := ?_) ?_ ?_
          rotate_left
          · first
            | (show Act.put _ (some 64) _ = _; simp only [Act.put, List.setIfInBounds_toArray, List.set_cons_zero, List.set_cons_succ, i64_w, i32_w]; rfl)
            | rfl
          refine pure_ (i := 9) (N := some 65) (v := ?_) (a' := ?_) #[true, true, true, true, true, true, true, true, true, true, false, false, false, false, false, false, false, false, false, false, false, false] rfl rfl (any_of HT_.out (by kernel_rfl)) (fun _ _ _ h => h) (Or.inl ⟨by rfl, ?_⟩) ?_ ?_
          rotate_left
          · intro w'
            go_simp
            with_reducible rfl
          rotate_left
          · simp only [Act.put, List.setIfInBounds_toArray, List.set_cons_zero, List.set_cons_succ, i64_w, i32_w]
            rfl
          refine pure_ (i := 10) (N := some 66) (v := ?_) (a' := ?_) #[true, true, true, true, true, true, true, true, true, true, true, false, false, false, false, false, false, false, false, false, false, false] rfl rfl (any_of HT_.out (by kernel_rfl)) (fun _ _ _ h => h) (Or.inl ⟨by rfl, ?_⟩) ?_ ?_
          rotate_left
          · intro w'
            go_simp
            with_reducible rfl
          rotate_left
          · simp only [Act.put, List.setIfInBounds_toArray, List.set_cons_zero, List.set_cons_succ, i64_w, i32_w]
            rfl
          refine pure_ (i := 11) (N := some 67) (v := ?_) (a' := ?_) #[true, true, true, true, true, true, true, true, true, true, true, true, false, false, false, false, false, false, false, false, false, false] rfl rfl (any_of HT_.out (by kernel_rfl)) (fun _ _ _ h => h) (Or.inl ⟨by rfl, ?_⟩) ?_ ?_
          rotate_left
          · intro w'
            go_simp
            with_reducible rfl
          rotate_left
          · simp only [Act.put, List.setIfInBounds_toArray, List.set_cons_zero, List.set_cons_succ, i64_w, i32_w]
            rfl
          refine pure_ (i := 12) (N := some 68) (v := ?_) (a' := ?_) #[true, true, true, true, true, true, true, true, true, true, true, true, true, false, false, false, false, false, false, false, false, false] rfl rfl (any_of HT_.out (by kernel_rfl)) (fun _ _ _ h => h) (Or.inl ⟨by rfl, ?_⟩) ?_ ?_
          rotate_left
          · intro w'
            go_simp
            with_reducible rfl
          rotate_left
          · simp only [Act.put, List.setIfInBounds_toArray, List.set_cons_zero, List.set_cons_succ, i64_w, i32_w]
            rfl
          refine pure_ (i := 14) (N := some 70) (v := ?_) (a' := ?_) #[true, true, true, true, true, true, true, true, true, true, true, true, true, false, true, false, false, false, false, false, false, false] rfl rfl (any_of HT_.out (by kernel_rfl)) (fun _ _ _ h => h) (Or.inl ⟨by rfl, ?_⟩) ?_ ?_
          rotate_left
          · intro w'
            go_simp
            with_reducible rfl
          rotate_left
          · simp only [Act.put, List.setIfInBounds_toArray, List.set_cons_zero, List.set_cons_succ, i64_w, i32_w]
            rfl
          refine pure_ (i := 15) (N := some 71) (v := ?_) (a' := ?_) #[true, true, true, true, true, true, true, true, true, true, true, true, true, false, true, true, false, false, false, false, false, false] rfl rfl (any_of HT_.out (by kernel_rfl)) (fun _ _ _ h => h) (Or.inl ⟨by rfl, ?_⟩) ?_ ?_
          rotate_left
          · intro w'
            have hll := HLL.out
            go_simp
            with_reducible rfl
          rotate_left
          · simp only [Act.put, List.setIfInBounds_toArray, List.set_cons_zero, List.set_cons_succ, i64_w, i32_w]
            rfl
          refine one_ (i := 13) (N := some 69) #[true, true, true, true, true, true, true, true, true, true, true, true, true, true, true, true, false, false, false, false, false, false] rfl rfl (one_of HT_.out (by kernel_rfl)) (by decide) (fun K hK => ?_)
          refine goes_ Tryd.func10 (by kernel_rfl) rfl #[.int .i64 (l.length : Int)] (by rfl) rfl rfl (by (try simp only [List.map_toArray, List.map_cons, List.map_nil]); first | done | rfl) ?_
          refine (count_calls l.length _ (by omega)).mono ?_
          rintro e w11 ⟨rfl, rfl⟩
          refine ⟨_, rfl, ?_⟩
          rw [HNN.out]
          refine hK.out _ _ trivial (fun hHeld => ?_)
          clear hK K
          refine norm_ (a' := ?_) ?_ ?_
          rotate_left
          · first
            | (show Act.put _ (some 69) _ = _; simp only [Act.put, List.setIfInBounds_toArray, List.set_cons_zero, List.set_cons_succ, i64_w, i32_w]; rfl)
            | rfl
          refine pure_ (i := 16) (N := some 72) (v := ?_) (a' := ?_) #[true, true, true, true, true, true, true, true, true, true, true, true, true, true, true, true, true, false, false, false, false, false] rfl rfl (any_of HT_.out (by kernel_rfl)) (fun _ _ _ h => h) (Or.inl ⟨by rfl, ?_⟩) ?_ ?_
          rotate_left
          · intro w'
            go_simp
            with_reducible rfl
          rotate_left
          · simp only [Act.put, List.setIfInBounds_toArray, List.set_cons_zero, List.set_cons_succ, i64_w, i32_w]
            rfl
          refine pure_ (i := 17) (N := some 73) (v := ?_) (a' := ?_) #[true, true, true, true, true, true, true, true, true, true, true, true, true, true, true, true, true, true, false, false, false, false] rfl rfl (any_of HT_.out (by kernel_rfl)) (fun _ _ _ h => h) (Or.inl ⟨by rfl, ?_⟩) ?_ ?_
          rotate_left
          · intro w'
            go_simp
            with_reducible rfl
          rotate_left
          · simp only [Act.put, List.setIfInBounds_toArray, List.set_cons_zero, List.set_cons_succ, i64_w, i32_w]
            rfl
          refine pure_ (i := 18) (N := some 74) (v := ?_) (a' := ?_) #[true, true, true, true, true, true, true, true, true, true, true, true, true, true, true, true, true, true, true, false, false, false] rfl rfl (any_of HT_.out (by kernel_rfl)) (fun _ _ _ h => h) (Or.inl ⟨by rfl, ?_⟩) ?_ ?_
          rotate_left
          · intro w'
            go_simp
            with_reducible rfl
          rotate_left
          · simp only [Act.put, List.setIfInBounds_toArray, List.set_cons_zero, List.set_cons_succ, i64_w, i32_w]
            rfl
          refine one_ (i := 19) (N := some 75) #[true, true, true, true, true, true, true, true, true, true, true, true, true, true, true, true, true, true, true, true, false, false] rfl rfl (one_of HT_.out (by kernel_rfl)) (by decide) (fun K hK => ?_)
          refine goes_ Tryd.func9 (by kernel_rfl) rfl #[] (by rfl) rfl rfl (by (try simp only [List.map_toArray, List.map_cons, List.map_nil]); first | done | rfl) ?_
          refine (known_calls _ (HTAB.out.below HB10.out)).mono ?_
          rintro e w12 ⟨rfl, hb⟩
          refine ⟨_, rfl, ?_⟩
          have HB12 := Aside0.mk (below_step HB10.out hb)
          clear hb
          refine hK.out _ _ trivial (fun hHeld => ?_)
          clear hK K
          refine norm_ (a' := ?_) ?_ ?_
          rotate_left
          · first
            | (show Act.put _ (some 75) _ = _; simp only [Act.put, List.setIfInBounds_toArray, List.set_cons_zero, List.set_cons_succ, i64_w, i32_w]; rfl)
            | rfl
          refine pure_ (i := 20) (N := some 76) (v := ?_) (a' := ?_) #[true, true, true, true, true, true, true, true, true, true, true, true, true, true, true, true, true, true, true, true, true, false] rfl rfl (any_of HT_.out (by kernel_rfl)) (fun _ _ _ h => h) (Or.inl ⟨by rfl, ?_⟩) ?_ ?_
          rotate_left
          · intro w'
            go_simp
            with_reducible rfl
          rotate_left
          · simp only [Act.put, List.setIfInBounds_toArray, List.set_cons_zero, List.set_cons_succ, i64_w, i32_w]
            rfl
          refine pure_ (i := 21) (N := some 2) (v := ?_) (a' := ?_) #[true, true, true, true, true, true, true, true, true, true, true, true, true, true, true, true, true, true, true, true, true, true] rfl rfl (any_of HT_.out (by kernel_rfl)) (fun _ _ _ h => h) (Or.inl ⟨by rfl, ?_⟩) ?_ ?_
          rotate_left
          · intro w'
            go_simp
            with_reducible rfl
          rotate_left
          · simp only [Act.put, List.setIfInBounds_toArray, List.set_cons_zero, List.set_cons_succ, i64_w, i32_w]
            rfl
          refine done_ (done_of HT_.out (by kernel_rfl)) ?_
          clear hHeld HT_ HW_
          go_wp2
          go_ret
          exact ⟨rfl, HB12.out⟩
theorem small_walk (a0 : Option Addr) (c0 : Nat) (x0 : List Int) (w : World) (hT : Tab w) (C0 : B.C w a0 x0.length x0) (l0 : x0.length ≤ c0) (k0 : ∀ x ∈ x0, (Lit.int .u8 x).wf = true) :
    Calls Tryd.prog 5 #[.slice a0 x0.length c0] w fun e w' => e = .returned (.bool true) ∧ Below w.heap.size w w' :=
  small_calls a0 c0 x0 w C0 l0 (bytes_wf k0) hT
end Go.Proofs.YtllcofllnjgkcaaDoor.Sha
