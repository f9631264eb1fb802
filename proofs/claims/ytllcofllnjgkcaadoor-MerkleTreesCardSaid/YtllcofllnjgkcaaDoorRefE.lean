/- What calls of Go functions of this seat come to, as the rows need it: under the conditions that each theorem names. -/
import Derived.Test.YtllcofllnjgkcaaDoorRefD
namespace Go.Proofs.YtllcofllnjgkcaaDoor.Ref
open Go.RowKit Go.Proofs.YtllcofllnjgkcaaDoorW.PrintWords Go.Proofs.YtllcofllnjgkcaaDoorW.PrintLast Go.Proofs.YtllcofllnjgkcaaDoorW.PrintMore
set_option linter.unusedVariables false
set_option linter.unusedSimpArgs false
open Go.Proofs.YtllcofllnjgkcaaDoor.Sha
/-- A power, as it is worked out. -/
def yF (q : Nat) : Nat → Nat
  | 0 => q
  | k + 1 => yF q k * q % 65536 ^ 10
def stepF (p pw x bit : Nat) : Nat := if yF (x + bit) (pw - 1) ≤ p * 65536 ^ (2 * pw) then x + bit else x
def rootF (p pw : Nat) : Nat → Nat → Nat → Nat
  | 0, x, _ => x
  | f + 1, x, bit => rootF p pw f (stepF p pw x bit) (bit / 2)
theorem rootF_zero (p pw f x : Nat) : rootF p pw f x 0 = x := by
  induction f with
  | zero => rfl
  | succ f ih =>
    show rootF p pw f (stepF p pw x 0) (0 / 2) = x
    have h : stepF p pw x 0 = x := by unfold stepF; split <;> simp
    rw [h]
    exact ih
def mostL (p pw : Nat) : List Nat := z10.set (2 * pw) p
theorem mostL_num (p pw : Nat) (h : pw ≤ 4) : num (mostL p pw) = p * 65536 ^ (2 * pw) := by
  have := num_set z10 (2 * pw) p (by show 2 * pw < 10; omega)
  have h0 : num z10 = 0 := rfl
  have h1 : z10.getD (2 * pw) 0 = 0 := by
    unfold z10
    rw [List.getD_eq_getElem?_getD, List.getElem?_replicate]
    split <;> rfl
  rw [h0, h1] at this
  unfold mostL
  omega
theorem yF_lt (q k : Nat) (h : q < 65536 ^ 10) : yF q k < 65536 ^ 10 := by
  cases k with
  | zero => exact h
  | succ k => exact Nat.mod_lt _ (by decide)
set_option maxHeartbeats 1600000 in
set_option maxRecDepth 100000 in
theorem root_calls (p pw : Nat) (w : World) (hp : p < 65536) (hw2 : 2 ≤ pw) (hw3 : pw ≤ 3) :
    Calls Tryd.prog 39 #[.int .i64 p, .int .i64 pw] w fun e w' => e = .returned (.int .u32 ((rootF p pw 38 0 137438953472 % 4294967296 : Nat) : Int)) ∧ Below w.heap.size w w' := by
  obtain ⟨t, ht⟩ : ∃ t, t = 2 * pw := ⟨_, rfl⟩
  have ht10 : (t : Int) < 10 := by omega
  have hti : 2 * (pw : Int) = (t : Int) := by omega
  have HML := Aside0.mk (show (mostL p pw).length = 10 by simp [mostL, z10])
  have HMS := Aside0.mk (show small (mostL p pw) from small_set (by intro x hx; obtain ⟨_, rfl⟩ := List.mem_replicate.1 hx; omega) _ _ hp)
  have HMN := Aside0.mk (mostL_num p pw (by omega))
  have HMT := Aside0.mk (show z10.set t p = mostL p pw by rw [ht]; rfl)
  clear ht
  go_enter Tryd.func39, Tryd.ntmps39
  go_upto_region 2 with (fail)
  obtain ⟨w1, hw1, HZ, HB1, hz1⟩ : ∃ w1, w.alloc (.cells #[.int .u64 0, .int .u64 0, .int .u64 0, .int .u64 0, .int .u64 0, .int .u64 0, .int .u64 0, .int .u64 0, .int .u64 0, .int .u64 0] 77) = w1 ∧ Aside0 (w1.heap[w.heap.size]? = some (.cells (c10 z10) 77 (0, 0))) ∧ Aside0 (Below w.heap.size w w1) ∧ w1.heap.size = w.heap.size + 1 :=
    ⟨_, rfl, ⟨Sha.heap_new _ _⟩, ⟨(Below.refl w.heap.size w).alloc (Nat.le_refl _) _⟩, by simp⟩
  rw [hw1]
  clear hw1
  have hx := (cell_of HZ.out).2 (c10_get (l := z10) (j := t) (by show t < 10; omega))
  have hf : w1.frozen? ⟨w.heap.size, t, none⟩ = false := by simp [World.frozen?, HZ.out]
  generalize z10.getD t 0 = zd at hx
  go_wp2
  have HM := Aside0.mk (blk_set HZ.out t (.int .u64 (p : Int)))
  rw [c10_set, HMT.out] at HM
  replace HB1 := Aside0.mk (HB1.out.setCell (p := ⟨w.heap.size, t, none⟩) (Nat.le_refl _) (.int .u64 (p : Int)))
  clear hx hf HZ HMT hz1
  generalize w1.setCell ⟨w.heap.size, t, none⟩ (.int .u64 (p : Int)) = w0 at HM HB1 ⊢
  generalize mostL p pw = ml at *
  generalize hTG : rootF p pw 38 0 137438953472 = TG
  have HTG := Aside0.mk hTG
  clear hTG
  go_loopw [6, 7] (fun vx vb wr => ∃ f x bit : Nat, vx = .int .u64 (x : Int) ∧ vb = .int .u64 (bit : Int) ∧ x + 2 * bit ≤ 274877906944 ∧ Aside0 (bit < 2 ^ f) ∧ Aside0 (rootF p pw f x bit = TG) ∧ Aside0 (wr.heap[w.heap.size]? = some (.cells (c10 ml) 77 (0, 0))) ∧ Aside0 (Below w.heap.size w wr)) (fun _ vb _ => (intOf vb).toNat)
  case atStart => exact ⟨38, 0, 137438953472, rfl, rfl, by omega, ⟨by decide⟩, ⟨HTG.out⟩, HM, HB1⟩
  case round =>
    clear HM HB1
    obtain ⟨f, x, bit, rfl, rfl, hxb, HF, HT, HM, HB⟩ := hrel
    by_cases hlt : 0 < bit
    · obtain ⟨q, hq⟩ : ∃ q, q = x + bit := ⟨_, rfl⟩
      have hqi : (x : Int) + (bit : Int) = (q : Int) := by omega
      have hq38 : q ≤ 274877906944 := by omega
      have HQ := Aside0.mk hq
      clear hq
      have HI8 := Aside0.mk (info10 (dg q 4) (dg_len q 4))
      have HL8 := Aside0.mk (dg_len q 4)
      have HS8 := Aside0.mk (dg_small q 4)
      have HN8 := Aside0.mk (dg_num q (by omega))
      go_wp2_with fail
      refine (digits_calls q _ (by omega)).mono ?_
      rintro e w2 ⟨rfl, hb⟩
      have HB2 := Aside0.mk (below_step HB.out hb)
      replace HM := Aside0.mk (heap_keep HM.out hb)
      clear hb
      generalize dg q 4 = D at *
      go_wp2_with (first | (refine wpList_store_row rfl 77 (.tmp 8) (.tmp 23) rfl w2.heap.size (c10 D) rfl rfl 77 _ (Sha.heap_new _ _) HI8.out (by rw [c10_size, HL8.out]; rfl) (c10_one _) ?_) | (refine wpList_load_row rfl 77 (.tmp 8) rfl w2.heap.size rfl 77 (c10 D) (0, 0) _ (setRow_heap _ _ _ _ _ _ (Sha.heap_new _ _)) Tryd.underlying77 rfl HI8.out ?_) | (refine wpList_store_row rfl 77 (.tmp 9) (.tmp 24) rfl (w2.heap.size + 1) (c10 D) rfl rfl 77 _ (Sha.heap_new' _ _ _ (by simp)) HI8.out (by rw [c10_size, HL8.out]; rfl) (c10_one _) ?_))
      obtain ⟨w4, hw4, H8, H9, HM4, HB4⟩ : ∃ w4, (((w2.alloc (.cells #[.int .u64 0, .int .u64 0, .int .u64 0, .int .u64 0, .int .u64 0, .int .u64 0, .int .u64 0, .int .u64 0, .int .u64 0, .int .u64 0] 77)).setRow w2.heap.size (c10 D)).alloc (.cells #[.int .u64 0, .int .u64 0, .int .u64 0, .int .u64 0, .int .u64 0, .int .u64 0, .int .u64 0, .int .u64 0, .int .u64 0, .int .u64 0] 77)).setRow (w2.heap.size + 1) (c10 D) = w4 ∧ Aside0 (w4.heap[w2.heap.size]? = some (.cells (c10 D) 77 (0, 0))) ∧ Aside0 (w4.heap[w2.heap.size + 1]? = some (.cells (c10 D) 77 (0, 0))) ∧ Aside0 (w4.heap[w.heap.size]? = some (.cells (c10 ml) 77 (0, 0))) ∧ Aside0 (Below w.heap.size w w4) := by
        have hg : w.heap.size < w2.heap.size := (Array.getElem?_eq_some_iff.1 HM.out).1
        have hz := HB2.out.size
        have hs : ((w2.alloc (.cells #[.int .u64 0, .int .u64 0, .int .u64 0, .int .u64 0, .int .u64 0, .int .u64 0, .int .u64 0, .int .u64 0, .int .u64 0, .int .u64 0] 77)).setRow w2.heap.size (c10 D)).heap.size = w2.heap.size + 1 := by rw [size_setRow]; simp
        have hb1 : Below w.heap.size w ((w2.alloc (.cells #[.int .u64 0, .int .u64 0, .int .u64 0, .int .u64 0, .int .u64 0, .int .u64 0, .int .u64 0, .int .u64 0, .int .u64 0, .int .u64 0] 77)).setRow w2.heap.size (c10 D)) := below_setRow (HB2.out.alloc hz _) hz _
        refine ⟨_, rfl, ⟨?_⟩, ⟨?_⟩, ⟨?_⟩, ⟨?_⟩⟩
        · rw [setRow_other _ _ _ _ (by omega), Below.heap_alloc _ _ _ (by omega)]
          exact setRow_heap _ _ _ _ _ _ (Sha.heap_new _ _)
        · exact setRow_heap _ _ _ _ _ _ (Sha.heap_new' _ _ _ hs.symm)
        · rw [setRow_other _ _ _ _ (by omega), Below.heap_alloc _ _ _ (by omega), setRow_other _ _ _ _ (by omega), Below.heap_alloc _ _ _ hg]
          exact HM.out
        · exact below_setRow (hb1.alloc hb1.size _) (by omega) _
      rw [hw4]
      clear hw4
      have hg2 := Aside0.mk (show w.heap.size < w2.heap.size from (Array.getElem?_eq_some_iff.1 HM.out).1)
      generalize w2.heap.size = g8 at *
      clear HM HB HB2
      go_loopw [10] (fun v wz => ∃ (k : Nat) (y : List Nat), 1 ≤ k ∧ k ≤ pw ∧ v = .int .i64 (k : Int) ∧ Aside0 (y.length = 10) ∧ Aside0 (small y) ∧ Aside0 (num y = yF q (k - 1)) ∧ Aside0 (wz.heap[g8 + 1]? = some (.cells (c10 y) 77 (0, 0))) ∧ Aside0 (wz.heap[g8]? = some (.cells (c10 D) 77 (0, 0))) ∧ Aside0 (wz.heap[w.heap.size]? = some (.cells (c10 ml) 77 (0, 0))) ∧ Aside0 (Below w.heap.size w wz)) (fun v _ => 4 - (intOf v).toNat)
      case atStart => exact ⟨1, D, by omega, by omega, rfl, HL8, HS8, HN8, H9, H8, HM4, HB4⟩
      case round =>
        clear H9 H8 HM4 HB4
        obtain ⟨k, y, hk1, hkp, rfl, HYL, HYS, HYN, H9, H8, HM, HB⟩ := hrel
        have HIY := Aside0.mk (info10 y HYL.out)
        by_cases hlt2 : k < pw
        · have hk3 : k ≤ 3 := by omega
          go_wp2_with (first | ((with_reducible refine gate_dst (N := 30) rfl ?_); refine wpList_load_row rfl 77 (.tmp 9) rfl (g8 + 1) rfl 77 (c10 y) (0, 0) _ H9.out Tryd.underlying77 rfl HIY.out ?_) | ((with_reducible refine gate_dst (N := 31) rfl ?_); refine wpList_load_row rfl 77 (.tmp 8) rfl g8 rfl 77 (c10 D) (0, 0) _ H8.out Tryd.underlying77 rfl HI8.out ?_))
          refine (times_calls y D _ HYL.out HL8.out HYS.out HS8.out).mono ?_
          rintro e w5 ⟨out, rfl, hol, hos, hon, hb⟩
          have HOL := Aside0.mk hol
          have HOS := Aside0.mk hos
          have HON := Aside0.mk (show num out = yF q (k + 1 - 1) by
            rw [hon, HYN.out, HN8.out, show k + 1 - 1 = (k - 1) + 1 by omega]
            rfl)
          have HIO := Aside0.mk (info10 out hol)
          replace HB := Aside0.mk (below_step HB.out hb)
          replace H9 := Aside0.mk (heap_keep H9.out hb)
          replace H8 := Aside0.mk (heap_keep H8.out hb)
          replace HM := Aside0.mk (heap_keep HM.out hb)
          clear hol hos hon hb
          go_wp2_with (first | (refine wpList_store_row rfl 77 (.tmp 9) (.tmp 32) rfl (g8 + 1) (c10 out) rfl rfl 77 _ H9.out HIO.out (by rw [c10_size, c10_size, HOL.out, HYL.out]) (c10_one _) ?_))
          go_roundw
          case rel => exact ⟨k + 1, out, by omega, by omega, by go_num, HOL, HOS, HON, ⟨setRow_heap _ _ _ _ _ _ H9.out⟩, ⟨(setRow_other _ _ _ _ (by omega)).trans H8.out⟩, ⟨(setRow_other _ _ _ _ (by have := hg2.out; omega)).trans HM.out⟩, ⟨below_setRow HB.out (by have := hg2.out; omega) _⟩⟩
          case measure => simp [intOf]; omega
        · obtain rfl : k = pw := by omega
          have HIM := Aside0.mk (info10 ml HML.out)
          have HDEC := Aside0.mk (show decide (num ml < num y) = decide (p * 65536 ^ (2 * k) < yF q (k - 1)) by rw [HMN.out, HYN.out])
          go_wp2_with (first | ((with_reducible refine gate_dst (N := 33) rfl ?_); refine wpList_load_row rfl 77 (.tmp 9) rfl (g8 + 1) rfl 77 (c10 y) (0, 0) _ H9.out Tryd.underlying77 rfl HIY.out ?_) | ((with_reducible refine gate_dst (N := 34) rfl ?_); refine wpList_load_row rfl 77 (.tmp 5) rfl w.heap.size rfl 77 (c10 ml) (0, 0) _ HM.out Tryd.underlying77 rfl HIM.out ?_))
          refine (above_calls y ml _ HYL.out HML.out HYS.out HMS.out).mono ?_
          rintro e w5 ⟨rfl, hb⟩
          rw [HDEC.out]
          replace HB := Aside0.mk (below_step HB.out hb)
          replace HM := Aside0.mk (heap_keep HM.out hb)
          clear hb H9 H8 hlt2 hkp
          obtain ⟨f', rfl⟩ : ∃ f', f = f' + 1 := ⟨f - 1, by rcases f with _ | f; (have := HF.out; simp at this; omega); rfl⟩
          have HF2 := Aside0.mk (show bit / 2 < 2 ^ f' by have := HF.out; rw [Nat.pow_succ] at this; omega)
          by_cases hab : p * 65536 ^ (2 * k) < yF q (k - 1)
          · rw [decide_eq_true hab]
            have HT2 := Aside0.mk (show rootF p k f' x (bit / 2) = TG by
              have h : stepF p k x bit = x := by unfold stepF; rw [← HQ.out, if_neg (by omega)]
              rw [← HT.out]
              show _ = rootF p k f' (stepF p k x bit) (bit / 2)
              rw [h])
            clear hab HDEC
            go_wp2
            go_roundw
            case rel => exact ⟨f', x, bit / 2, rfl, by go_num, by omega, HF2, HT2, HM, HB⟩
            case measure => simp [intOf]; omega
          · rw [decide_eq_false hab]
            have HT2 := Aside0.mk (show rootF p k f' q (bit / 2) = TG by
              have h : stepF p k x bit = q := by unfold stepF; rw [← HQ.out, if_pos (by omega)]
              rw [← HT.out]
              show _ = rootF p k f' (stepF p k x bit) (bit / 2)
              rw [h])
            have hq2 : q + 2 * (bit / 2) ≤ 274877906944 := by have := HQ.out; omega
            clear hab HDEC
            go_wp2
            go_roundw
            case rel => exact ⟨f', q, bit / 2, by go_num, by go_num, hq2, HF2, HT2, HM, HB⟩
            case measure => simp [intOf]; omega
    · obtain rfl : bit = 0 := by omega
      rw [rootF_zero] at HT
      have hx38 : x ≤ 274877906944 := by omega
      clear hlt HF
      go_wp2
      go_ret
      exact ⟨congrArg Ending.returned (ival (by rw [HTG.out, ← HT.out]; omega)), HB.out⟩
end Go.Proofs.YtllcofllnjgkcaaDoor.Ref
