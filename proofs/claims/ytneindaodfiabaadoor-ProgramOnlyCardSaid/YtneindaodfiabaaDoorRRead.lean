/- What calls of Go functions of this seat come to, as the rows need it: under the conditions that each theorem names. -/
import Derived.Test.YtneindaodfiabaaDoorRReadA
import Derived.Test.YtneindaodfiabaaDoorRMay
namespace Go.Proofs.YtneindaodfiabaaDoor.Prog6
open Go.RowKit Go.Proofs.YtneindaodfiabaaDoorW.PrintWords Go.Proofs.YtneindaodfiabaaDoorW.PrintLast Go.Proofs.YtneindaodfiabaaDoorW.PrintMore
set_option linter.unusedVariables false
set_option linter.unusedSimpArgs false
open Go.Proofs.YtneindaodfiabaaDoor.Hand (uintL uint_calls bytesL bytes_calls uintL_ok uintL_err U3 bytesL_eq ruint_calls rbytes_calls)
theorem nil_post {l : List Int} {w w' : World} (h : readP l = none) (hb : Below w.heap.size w w') : ReadPost l w (.returned (.tuple #[.slice none 0 0, .int .i64 5])) w' :=
  ⟨_, _, rfl, fun _ => ⟨rfl, rfl⟩, (fun p hp => (by rw [h] at hp; cases hp)), hb⟩
theorem heap_newb {w w' : World} {b : Nat} {o : Obj} (h : w.heap[b]? = some o) (hb : Below w.heap.size w w') : w'.heap[b]? = some o := heap_keep h hb
def rrd_T32 : Bool × List (List Nat × List Nat) := (true, [([], []), ([0], [0]), ([], []), ([2], [2]), ([], []), ([4], [4]), ([], []), ([6], [6]), ([7], [7]), ([], []), ([9], [9]), ([10], [10]), ([0, 1], []), ([12, 1, 0, 1], [1, 12]), ([0, 1, 2, 3, 12, 13], []), ([14, 3, 13, 0, 1, 2, 3, 12, 13], [3, 14]), ([0, 1, 2, 3, 4, 5, 12, 13, 14, 15], []), ([16, 5, 15, 0, 1, 2, 3, 4, 5, 12, 13, 14, 15], [5, 16]), ([0, 1, 2, 3, 4, 5, 6, 7, 8, 12, 13, 14, 15, 16, 17], []), ([18, 8, 17, 0, 1, 2, 3, 4, 5, 6, 7, 8, 12, 13, 14, 15, 16, 17], [8, 18]), ([0, 1, 2, 3, 4, 5, 6, 7, 8, 9, 10, 11, 12, 13, 14, 15, 16, 17, 18, 19], []), ([20, 11, 19, 0, 1, 2, 3, 4, 5, 6, 7, 8, 9, 10, 11, 12, 13, 14, 15, 16, 17, 18, 19], [11, 20])])
def rrd_B32 : List Nat := [0, 1, 0, 4, 0, 16, 0, 64, 192, 0, 512, 1536, 3, 4099, 12303, 28687, 61503, 127039, 258559, 520703, 1048575, 2097151]
theorem rrd_tab32 : rtab .any (opsOf Tryd.f11 32) = rrd_T32 := by kernel_rfl
theorem rrd_bits32 : waitsOk rrd_T32.2 rrd_B32 = true := by kernel_rfl
set_option maxHeartbeats 3200000 in
set_option maxRecDepth 100000 in
theorem rread_calls (A : Option Addr) (c : Nat) (l : List Int) (w : World) (hr : RBy.C w A l.length l) (hc : l.length ≤ c) (hb : rbytes l) (hl : l.length < 140737488355300) :
    Calls Tryd.prog 11 #[.slice A l.length c] w (ReadPost l w) := by
  have HR := Aside0.mk hr
  have HY := Aside0.mk hb
  have HLL := Aside0.mk hl
  have hl63 : l.length ≤ 9223372036854775807 := hr.2.1
  clear hr hb hl
  go_enter Tryd.func11, Tryd.ntmps11
  go_wp2_with fail
  refine (ruint_calls A c l 0 _ HR.out hc HY.out HLL.out).mono ?_
  rintro e w2 ⟨rfl, hww⟩
  replace hww := hww.symm
  subst hww
  have HOK := Aside0.mk (uintL_ok l 0 HY.out)
  have HNK := Aside0.mk (numR_ok l 0 30)
  have HNB := Aside0.mk (numR_bad l 0 30)
  obtain ⟨v0, a0, e0, h0⟩ : ∃ v0 a0 e0, uintL l 0 = (v0, a0, e0) := ⟨_, _, _, rfl⟩
  rw [h0] at HOK HNK HNB ⊢
  clear h0
  by_cases he : e0 = 0
  case neg =>
    have HN := Aside0.mk (readP_bad l 0 (Nat.zero_le _) (HNB.out (.inl he)))
    have h1 : (e0 != 0) = true := by simpa using he
    have h2 : (e0 == 0) = false := by simpa using he
    clear he
    go_wp2
    go_ret2
    exact nil_post HN.out (Below.refl _ _)
  subst he
  by_cases h30 : v0 > 30
  · have HN := Aside0.mk (readP_bad l 0 (Nat.zero_le _) (HNB.out (.inr h30)))
    have h1 : decide (v0 > 30) = true := decide_eq_true h30
    have h2 : decide (30 < v0) = true := decide_eq_true h30
    clear h30
    go_wp2
    go_ret2
    exact nil_post HN.out (Below.refl _ _)
  have HNR := Aside0.mk (HNK.out rfl (by omega))
  replace HOK := Aside0.mk (HOK.out rfl).1
  obtain ⟨N, rfl⟩ := Int.eq_ofNat_of_zero_le (show 0 ≤ v0 from HOK.out)
  have hN30 : N ≤ 30 := by omega
  have h1 : decide ((N : Int) > 30) = false := decide_eq_false (by omega)
  have h2 : decide (30 < N) = false := decide_eq_false (by omega)
  have h3 : decide (N > 30) = false := decide_eq_false (by omega)
  have HBAD := Aside0.mk (show ∀ k, k < N → (insR l (insK l (a0, false) k).2).2.2 = true → readP l = none from fun k hk h => readP_insbad l k (by rw [HNR.out]; exact hk) (by rw [HNR.out]; exact h))
  have HRP := Aside0.mk (show readP l = if (insK l (a0, false) N).2.2 = true ∨ (insK l (a0, false) N).2.1 ≠ l.length ∨ mayP (insK l (a0, false) N).1 = false then none else some (insK l (a0, false) N).1 by
    unfold readP; rw [HNR.out]; rfl)
  clear HOK HNK HNB HNR h30
  go_wp2
  go_loopw [5, 7, 8] (fun v5 v7 v8 wr => ∃ (k : Nat) (at_ : Int), k ≤ N ∧ v8 = .int .u64 (k : Int) ∧ v5 = .int .i64 at_ ∧ Aside0 ((insK l (a0, false) k).2 = (at_, false)) ∧ Aside0 (Kd.R KP 26 wr w.heap.size (fun _ => True) v7 (insK l (a0, false) k).1) ∧ Aside0 (Below w.heap.size w wr)) (fun _ _ i _ => N - (intOf i).toNat)
  case atStart => exact ⟨0, a0, Nat.zero_le _, rfl, rfl, ⟨rfl⟩, ⟨Kd.R_nil _ _ _ _ _⟩, ⟨Below.refl _ _⟩⟩
  case round =>
    obtain ⟨k, at_, hk, rfl, rfl, HS, HO, HB⟩ := hrel
    obtain ⟨wo, hwo⟩ : ∃ wo, wo = wr := ⟨_, rfl⟩
    subst hwo
    clear h1 h2 h3
    have hkN9 : (k : Int) + 1 ≤ 31 := by omega
    by_cases hlt : k < N
    · have e1 : decide ((k : Int) < (N : Int)) = true := decide_eq_true (by omega)
      have e1b : decide (k < N) = true := decide_eq_true hlt
      have HKS := Aside0.mk (show insK l (a0, false) (k + 1) = ((insK l (a0, false) k).1 ++ [(insR l (at_, false)).1], (insR l (at_, false)).2) by show (_ ++ [(insR l (insK l (a0, false) k).2).1], (insR l (insK l (a0, false) k).2).2) = _; rw [HS.out])
      have HKL := Aside0.mk (show (insK l (a0, false) k).1.length = k from insK_len l (a0, false) k)
      have HBD := Aside0.mk (show (insR l (at_, false)).2.2 = true → readP l = none from fun h => HBAD.out k hlt (by rw [HS.out]; exact h))
      generalize (insK l (a0, false) k).1 = p at HO HKS HKL
      clear HBAD HRP HS
      go_wp2_with fail
      obtain ⟨w3, hw3⟩ : ∃ w3, wo.alloc (.cells (cI (0, ⟨#[]⟩, ⟨#[]⟩, ⟨#[]⟩, 0, 0)) 26) = w3 := ⟨_, rfl⟩
      rw [hw3]
      have HB3 := Aside0.mk (show Below wo.heap.size wo w3 by rw [← hw3]; exact (Below.refl _ wo).alloc (Nat.le_refl _) _)
      have HX3 := Aside0.mk (show w3.heap[wo.heap.size]? = some (.cells (cI (0, ⟨#[]⟩, ⟨#[]⟩, ⟨#[]⟩, 0, 0)) 26 (0, 0)) by rw [← hw3]; exact heap_new _ _)
      clear hw3
      obtain ⟨q, hq⟩ : ∃ q, q = wo.heap.size := ⟨_, rfl⟩
      have HQ := Aside0.mk hq
      rw [← hq] at HX3 ⊢
      clear hq
      refine (ruint_calls A c l at_ _ (Kd.C_below HR.out (below_step HB.out HB3.out)) hc HY.out HLL.out).mono ?_
      rintro e w4 ⟨rfl, hww⟩
      replace hww := hww.symm
      subst hww
      have HOK := Aside0.mk (uintL_ok l at_ HY.out)
      have HNK := Aside0.mk (numR_ok l at_ 11)
      have HNB := Aside0.mk (numR_bad l at_ 11)
      obtain ⟨op, a1, e0, h0⟩ : ∃ v0 a0 e0, uintL l at_ = (v0, a0, e0) := ⟨_, _, _, rfl⟩
      rw [h0] at HOK HNK HNB ⊢
      clear h0 e1 e1b
      by_cases he : e0 = 0
      case neg =>
        have HN := Aside0.mk (HBD.out (insR_bad1 l _ (HNB.out (.inl he))))
        have h1 : (e0 != 0) = true := by simpa using he
        have h2 : (e0 == 0) = false := by simpa using he
        clear he
        go_wp2
        go_ret2
        exact nil_post HN.out (below_step HB.out HB3.out)
      subst he
      by_cases h11 : op > 11
      · have HN := Aside0.mk (HBD.out (insR_bad1 l _ (HNB.out (.inr h11))))
        have h1 : decide (op > 11) = true := decide_eq_true h11
        have h2 : decide (11 < op) = true := decide_eq_true h11
        clear h11
        go_wp2
        go_ret2
        exact nil_post HN.out (below_step HB.out HB3.out)
      have HNR := Aside0.mk (HNK.out rfl (by omega))
      replace HOK := Aside0.mk (HOK.out rfl).1
      have h1 : decide (op > 11) = false := decide_eq_false h11
      have h2 : decide (11 < op) = false := decide_eq_false h11
      have hop : IntKind.u8.wrap op = op := by rw [IntKind.wrap_u8]; have := HOK.out; omega
      have hx0 := (cell_of HX3.out (j := 0)).2 rfl
      have hf0 : w3.frozen? ⟨q, 0, none⟩ = false := by simp [World.frozen?, HX3.out]
      clear HOK HNK HNB h11
      go_wp2_with fail
      obtain ⟨w4, hw4⟩ : ∃ w4, w3.setCell ⟨q, 0, none⟩ (.int .u8 op) = w4 := ⟨_, rfl⟩
      have HQR := Aside0.mk (show wo.heap.size ≤ q from Nat.le_of_eq HQ.out.symm)
      have HB4 := Aside0.mk (show Below wo.heap.size wo w4 by rw [← hw4]; exact HB3.out.setCell (p := ⟨q, 0, none⟩) HQR.out _)
      have HX4 := Aside0.mk (show w4.heap[q]? = some (.cells (cI (op, ⟨#[]⟩, ⟨#[]⟩, ⟨#[]⟩, 0, 0)) 26 (0, 0)) by rw [← hw4]; exact blk_set HX3.out 0 (.int .u8 op))
      (try rw [hw4])
      have HB45 := Aside0.mk ((Below.refl w4.heap.size w4).alloc (Nat.le_refl _) (.cells (tcs l (a1, false) 0) 49))
      have HT5 := Aside0.mk (show (w4.alloc (.cells (tcs l (a1, false) 0) 49)).heap[w4.heap.size]? = some (.cells (tcs l (a1, false) 0) 49 (0, 0)) from heap_new _ _)
      have HQT := Aside0.mk (show q < w4.heap.size from (Array.getElem?_eq_some_iff.1 HX4.out).1)
      have HX5 := Aside0.mk (heap_keep HX4.out HB45.out)
      have HB5 := Aside0.mk (below_step HB4.out HB45.out)
      have HNUM := Aside0.mk (show (numR l (at_, false) 11).1 = op ∧ (numR l (at_, false) 11).2 = (a1, false) by rw [HNR.out]; exact ⟨rfl, rfl⟩)
      change Code.wp _ _ _ _ (w4.alloc (.cells (tcs l (a1, false) 0) 49))
      generalize w4.alloc (.cells (tcs l (a1, false) 0) 49) = w5 at HT5 HX5 HB5 HB45 ⊢
      have hsz : w4.heap.size = w3.heap.size := by rw [← hw4]; simp
      rw [hsz] at HT5 HQT
      clear hsz HB45 HX4 HB4 HX3 HB3 hx0 hf0 hop hw4 HNR h1 h2
      generalize w3.heap.size = t at HT5 HQT ⊢
      go_loopw [5, 14] (fun v5 v14 w6 => ∃ (j : Nat) (a' : Int), j ≤ 3 ∧ v14 = .int .i64 (j : Int) ∧ v5 = .int .i64 a' ∧ Aside0 (tst l (a1, false) j = (a', false)) ∧ Aside0 (w6.heap[t]? = some (.cells (tcs l (a1, false) j) 49 (0, 0))) ∧ Aside0 (w6.heap[q]? = some (.cells (cI (op, ⟨#[]⟩, ⟨#[]⟩, ⟨#[]⟩, 0, 0)) 26 (0, 0))) ∧ Aside0 (Below wo.heap.size wo w6)) (fun _ i _ => 3 - (intOf i).toNat)
      case atStart => exact ⟨0, a1, by omega, rfl, rfl, ⟨rfl⟩, HT5, HX5, HB5⟩
      case round =>
        clear HT5 HX5 HB5
        obtain ⟨j, a', hj, rfl, rfl, HTS, HT, HX, HBW⟩ := hrel
        have hj9 : (j : Int) + 1 ≤ 4 := by omega
        have HQR2 := HQR
        by_cases hj3 : j < 3
        · have ej : decide ((j : Int) < 3) = true := decide_eq_true (by omega)
          have ejb : decide (j < 3) = true := decide_eq_true hj3
          have hji : (j : Int) < 3 := by omega
          go_wp2_with fail
          refine (rbytes_calls A c l a' 40 _ (Kd.C_below HR.out (below_step HB.out HBW.out)) hc HY.out HLL.out (by omega)).mono ?_
          rintro e w7 ⟨v, rfl, ho, hb⟩
          have HO7 := Aside0.mk ho
          have HT7 := Aside0.mk (heap_keep HT.out hb)
          have HX7 := Aside0.mk (heap_keep HX.out hb)
          have HBR := Aside0.mk (below_step HB.out HBW.out)
          have HB7 := Aside0.mk (below_step HBW.out hb)
          have HTK := Aside0.mk (textR_ok l a')
          have HTB := Aside0.mk (textR_bad l a')
          obtain ⟨ys, x, e0, h0⟩ : ∃ ys x e0, bytesL l a' 40 = (ys, x, e0) := ⟨_, _, _, rfl⟩
          rw [h0] at HTK HTB HO7 ⊢
          replace HO7 := Aside0.mk (show Kd.R RBy 5 w7 wr.heap.size (fun _ => True) v ys from HO7.out)
          clear ho hb h0 HT HX HBW
          by_cases he : e0 = 0
          case neg =>
            have HN := Aside0.mk (HBD.out (insR_bad2 l (at_, false) (j + 1) (by omega) (by rw [HNUM.out.2]; show (textR l (tst l (a1, false) j)).2.2 = true; rw [HTS.out]; exact HTB.out he)))
            have h1 : (e0 != 0) = true := by simpa using he
            have h2 : (e0 == 0) = false := by simpa using he
            clear he
            go_wp2
            go_ret2
            exact nil_post HN.out (below_step HB.out HB7.out)
          subst he
          obtain ⟨A8, c8, rfl, hc8, hr8⟩ := Kd.R_reads HO7.out
          have h8 : (convert 29 9 (.slice A8 ys.length c8)).run Tryd.prog w7 = .ok (.string (strOfNums ys)) w7 := Kd.C_string Tryd.underlying29 Tryd.underlying5 Tryd.underlying9 hr8
          have HTX := Aside0.mk (show tx l (a1, false) j = strOfNums ys ∧ tst l (a1, false) (j + 1) = (x, false) by
            have h := HTK.out rfl
            refine ⟨?_, ?_⟩
            · unfold tx; rw [HTS.out, h]
            · show (textR l (tst l (a1, false) j)).2 = _; rw [HTS.out, h])
          obtain ⟨uo, huo⟩ : ∃ uo, (tcs l (a1, false) j)[j]? = some uo := ⟨_, Array.getElem?_eq_getElem (by rw [tcs_size]; exact hj3)⟩
          have hcj := (cell_of HT7.out (j := j)).2 huo
          have hfj : w7.frozen? ⟨t, j, none⟩ = false := by simp [World.frozen?, HT7.out]
          have HT8 := Aside0.mk (show (w7.setCell ⟨t, j, none⟩ (.string (strOfNums ys))).heap[t]? = some (.cells (tcs l (a1, false) (j + 1)) 49 (0, 0)) by
            have h := blk_set HT7.out j (.string (strOfNums ys))
            rw [← HTX.out.1, tcs_set l _ j hj3] at h
            rw [← HTX.out.1]
            exact h)
          have HTW := Aside0.mk (show wo.heap.size ≤ t by have := HQR.out; have := HQT.out; omega)
          have HX8 := Aside0.mk (show (w7.setCell ⟨t, j, none⟩ (.string (strOfNums ys))).heap[q]? = some (.cells (cI (op, ⟨#[]⟩, ⟨#[]⟩, ⟨#[]⟩, 0, 0)) 26 (0, 0)) from (Below.heap_setCell w7 ⟨t, j, none⟩ _ q (by have := HQT.out; show q ≠ t; omega)).trans HX7.out)
          have HB8 := Aside0.mk (HB7.out.setCell (p := ⟨t, j, none⟩) HTW.out (.string (strOfNums ys)))
          clear hr8 HO7 HTK HTB huo
          go_wp2
          go_roundw
          case rel => exact ⟨j + 1, x, by omega, by go_num, rfl, ⟨HTX.out.2⟩, HT8, HX8, HB8⟩
          case measure => simp [intOf]; omega
        · obtain rfl : j = 3 := by omega
          clear hj hj3 hj9
          go_wp2_with fail
          have HN0 := Aside0.mk (show (wr.alloc (.cells (ncs l (a', false) 0) 52)).heap[wr.heap.size]? = some (.cells (ncs l (a', false) 0) 52 (0, 0)) from heap_new _ _)
          have hal := (Below.refl wr.heap.size wr).alloc (Nat.le_refl _) (.cells (ncs l (a', false) 0) 52)
          have HT0 := Aside0.mk (heap_keep HT.out hal)
          have HX0 := Aside0.mk (heap_keep HX.out hal)
          have HBN := Aside0.mk (below_step HBW.out hal)
          have HTM := Aside0.mk (show t < wr.heap.size ∧ wo.heap.size ≤ wr.heap.size from ⟨(Array.getElem?_eq_some_iff.1 HT.out).1, HBW.out.size⟩)
          clear hal
          change Code.wp _ _ _ _ (wr.alloc (.cells (ncs l (a', false) 0) 52))
          generalize wr.alloc (.cells (ncs l (a', false) 0) 52) = wn at HN0 HT0 HX0 HBN ⊢
          clear HT HX HBW
          generalize wr.heap.size = mb at HN0 HTM ⊢
          go_loopw [5, 19] (fun v5 v19 w6 => ∃ (j : Nat) (b' : Int), j ≤ 2 ∧ v19 = .int .i64 (j : Int) ∧ v5 = .int .i64 b' ∧ Aside0 (nst l (a', false) j = (b', false)) ∧ Aside0 (w6.heap[mb]? = some (.cells (ncs l (a', false) j) 52 (0, 0))) ∧ Aside0 (w6.heap[t]? = some (.cells (tcs l (a1, false) 3) 49 (0, 0))) ∧ Aside0 (w6.heap[q]? = some (.cells (cI (op, ⟨#[]⟩, ⟨#[]⟩, ⟨#[]⟩, 0, 0)) 26 (0, 0))) ∧ Aside0 (Below wo.heap.size wo w6)) (fun _ i _ => 2 - (intOf i).toNat)
          case atStart => exact ⟨0, a', by omega, rfl, rfl, ⟨rfl⟩, HN0, HT0, HX0, HBN⟩
          case round =>
            clear HN0 HT0 HX0 HBN
            obtain ⟨j, b', hj, rfl, rfl, HNS, HN, HT, HX, HBW⟩ := hrel
            have hj9 : (j : Int) + 1 ≤ 4 := by omega
            by_cases hj2 : j < 2
            · have ej : decide ((j : Int) < 2) = true := decide_eq_true (by omega)
              have ejb : decide (j < 2) = true := decide_eq_true hj2
              have hji : (j : Int) < 2 := by omega
              go_wp2_with fail
              refine (ruint_calls A c l b' _ (Kd.C_below HR.out (below_step HB.out HBW.out)) hc HY.out HLL.out).mono ?_
              rintro e w7 ⟨rfl, hww⟩
              replace hww := hww.symm
              subst hww
              have HTK := Aside0.mk (numR_ok l b' 2000)
              have HTB := Aside0.mk (numR_bad l b' 2000)
              obtain ⟨v, x, e0, h0⟩ : ∃ v x e0, uintL l b' = (v, x, e0) := ⟨_, _, _, rfl⟩
              rw [h0] at HTK HTB ⊢
              clear h0 ej ejb
              have HNN := Aside0.mk (fun (h : (numR l (b', false) 2000).2.2 = true) => HBD.out (insR_bad3 l (at_, false) (j + 1) (by omega) (by rw [HNUM.out.2, HTS.out]; show (numR l (nst l (a', false) j) 2000).2.2 = true; rw [HNS.out]; exact h)))
              by_cases he : e0 = 0
              case neg =>
                have HN_ := Aside0.mk (HNN.out (HTB.out (.inl he)))
                have h1 : (e0 != 0) = true := by simpa using he
                have h2 : (e0 == 0) = false := by simpa using he
                clear he
                go_wp2
                go_ret2
                exact nil_post HN_.out (below_step HB.out HBW.out)
              subst he
              by_cases hv : v > 2000
              · have HN_ := Aside0.mk (HNN.out (HTB.out (.inr hv)))
                have h1 : decide (v > 2000) = true := decide_eq_true hv
                have h2 : decide (2000 < v) = true := decide_eq_true hv
                clear hv
                go_wp2
                go_ret2
                exact nil_post HN_.out (below_step HB.out HBW.out)
              have h1 : decide (v > 2000) = false := decide_eq_false hv
              have h2 : decide (2000 < v) = false := decide_eq_false hv
              have HTX := Aside0.mk (show nx l (a', false) j = v ∧ nst l (a', false) (j + 1) = (x, false) by
                have h := HTK.out rfl (by omega)
                refine ⟨?_, ?_⟩
                · unfold nx; rw [HNS.out, h]
                · show (numR l (nst l (a', false) j) 2000).2 = _; rw [HNS.out, h])
              obtain ⟨uo, huo⟩ : ∃ uo, (ncs l (a', false) j)[j]? = some uo := ⟨_, Array.getElem?_eq_getElem (by rw [ncs_size]; exact hj2)⟩
              have hcj := (cell_of HN.out (j := j)).2 huo
              have hfj : wr.frozen? ⟨mb, j, none⟩ = false := by simp [World.frozen?, HN.out]
              have HN8 := Aside0.mk (show (wr.setCell ⟨mb, j, none⟩ (.int .u64 v)).heap[mb]? = some (.cells (ncs l (a', false) (j + 1)) 52 (0, 0)) by
                have h := blk_set HN.out j (.int .u64 v)
                rw [← HTX.out.1, ncs_set l _ j hj2] at h
                rw [← HTX.out.1]
                exact h)
              have HT8 := Aside0.mk (show (wr.setCell ⟨mb, j, none⟩ (.int .u64 v)).heap[t]? = some (.cells (tcs l (a1, false) 3) 49 (0, 0)) from (Below.heap_setCell wr ⟨mb, j, none⟩ _ t (by have := HTM.out.1; show t ≠ mb; omega)).trans HT.out)
              have HX8 := Aside0.mk (show (wr.setCell ⟨mb, j, none⟩ (.int .u64 v)).heap[q]? = some (.cells (cI (op, ⟨#[]⟩, ⟨#[]⟩, ⟨#[]⟩, 0, 0)) 26 (0, 0)) from (Below.heap_setCell wr ⟨mb, j, none⟩ _ q (by have := HTM.out.1; have := HQT.out; show q ≠ mb; omega)).trans HX.out)
              have HB8 := Aside0.mk (HBW.out.setCell (p := ⟨mb, j, none⟩) HTM.out.2 (.int .u64 v))
              clear HN HT HX HBW HTK HTB HNN huo hv
              go_wp2
              refine ⟨?_, ?measure⟩; (iterate 28 (apply Exists.intro)); refine ⟨?rel, rfl⟩
              case rel => exact ⟨j + 1, x, by omega, by go_num, rfl, ⟨HTX.out.2⟩, HN8, HT8, HX8, HB8⟩
              case measure => simp [intOf]; omega
            · obtain rfl : j = 2 := by omega
              clear hj hj2 hj9
              have HINS := Aside0.mk (show insR l (at_, false) = ((op, tx l (a1, false) 0, tx l (a1, false) 1, tx l (a1, false) 2, nx l (a', false) 0, nx l (a', false) 1), (b', false)) by rw [insR_eq, HNUM.out.1, HNUM.out.2, HTS.out, HNS.out])
              have HRN := Aside0.mk (show (0 ≤ nx l (a', false) 0 ∧ nx l (a', false) 0 ≤ 2000) ∧ (0 ≤ nx l (a', false) 1 ∧ nx l (a', false) 1 ≤ 2000) from ⟨numR_rng l _ 2000 HY.out (by omega), numR_rng l _ 2000 HY.out (by omega)⟩)
              replace HT := Aside0.mk (show wr.heap[t]? = some (.cells #[.string (tx l (a1, false) 0), .string (tx l (a1, false) 1), .string (tx l (a1, false) 2)] 49 (0, 0)) from HT.out)
              replace HN := Aside0.mk (show wr.heap[mb]? = some (.cells #[.int .u64 (nx l (a', false) 0), .int .u64 (nx l (a', false) 1)] 52 (0, 0)) from HN.out)
              generalize tx l (a1, false) 0 = tA at HINS HT
              generalize tx l (a1, false) 1 = tB at HINS HT
              generalize tx l (a1, false) 2 = tC at HINS HT
              generalize nx l (a', false) 0 = nN at HINS HN HRN
              generalize nx l (a', false) 1 = nM at HINS HN HRN
              clear HTS HNS HNUM HBD
              go_upto_region 32 with (fail)
              have HNE := Aside0.mk (show t ≠ q ∧ mb ≠ q by have := HQT.out; have := HTM.out.1; omega)
              have HXa := Aside0.mk (heap_keep HX.out (below_drew1 (Below.refl _ _)))
              have hS0 : Ch q wr wr.drew := Ch.of_below (below_drew1 (Below.refl _ _))
              have hwN : IntKind.i64.wrap nN = nN := by have := HRN.out.1; exact IntWalk.i64_in _ (by omega)
              have hwM : IntKind.i64.wrap nM = nM := by have := HRN.out.2; exact IntWalk.i64_in _ (by omega)
              refine start_ (n := 22) (S := fun w' => Ch q wr w') (ds := []) #[false, false, false, false, false, false, false, false, false, false, false, false, false, false, false, false, false, false, false, false, false, false] (by kernel_rfl) rfl rfl (by exact hS0) (fun hHeld => ?_)
              refine with_tabW rrd_tab32 rrd_bits32 (fun HT_ HW_ => ?_)
              generalize wr.drew = W0 at hHeld HXa ⊢
              refine pure_ (i := 0) (N := some 96) (v := ?_) (a' := ?_) #[true, false, false, false, false, false, false, false, false, false, false, false, false, false, false, false, false, false, false, false, false, false] rfl rfl (any_of HT_.out (by kernel_rfl)) (fun _ _ _ h => h) (Or.inl ⟨by rfl, ?_⟩) ?_ ?_
              rotate_left
              · intro w'
                go_simp
                with_reducible rfl
              rotate_left
              · simp only [Act.put, List.setIfInBounds_toArray, List.set_cons_zero, List.set_cons_succ, i64_w, i32_w]
                rfl
              refine pure_ (i := 2) (N := some 98) (v := ?_) (a' := ?_) #[true, false, true, false, false, false, false, false, false, false, false, false, false, false, false, false, false, false, false, false, false, false] rfl rfl (any_of HT_.out (by kernel_rfl)) (fun _ _ _ h => h) (Or.inl ⟨by rfl, ?_⟩) ?_ ?_
              rotate_left
              · intro w'
                go_simp
                with_reducible rfl
              rotate_left
              · simp only [Act.put, List.setIfInBounds_toArray, List.set_cons_zero, List.set_cons_succ, i64_w, i32_w]
                rfl
              refine pure_ (i := 4) (N := some 100) (v := ?_) (a' := ?_) #[true, false, true, false, true, false, false, false, false, false, false, false, false, false, false, false, false, false, false, false, false, false] rfl rfl (any_of HT_.out (by kernel_rfl)) (fun _ _ _ h => h) (Or.inl ⟨by rfl, ?_⟩) ?_ ?_
              rotate_left
              · intro w'
                go_simp
                with_reducible rfl
              rotate_left
              · simp only [Act.put, List.setIfInBounds_toArray, List.set_cons_zero, List.set_cons_succ, i64_w, i32_w]
                rfl
              refine pure_ (i := 6) (N := some 102) (v := ?_) (a' := ?_) #[true, false, true, false, true, false, true, false, false, false, false, false, false, false, false, false, false, false, false, false, false, false] rfl rfl (any_of HT_.out (by kernel_rfl)) (fun _ _ _ h => h) (Or.inl ⟨by rfl, ?_⟩) ?_ ?_
              rotate_left
              · intro w'
                go_simp
                with_reducible rfl
              rotate_left
              · simp only [Act.put, List.setIfInBounds_toArray, List.set_cons_zero, List.set_cons_succ, i64_w, i32_w]
                rfl
              refine pure_ (i := 9) (N := some 105) (v := ?_) (a' := ?_) #[true, false, true, false, true, false, true, false, false, true, false, false, false, false, false, false, false, false, false, false, false, false] rfl rfl (any_of HT_.out (by kernel_rfl)) (fun _ _ _ h => h) (Or.inl ⟨by rfl, ?_⟩) ?_ ?_
              rotate_left
              · intro w'
                go_simp
                with_reducible rfl
              rotate_left
              · simp only [Act.put, List.setIfInBounds_toArray, List.set_cons_zero, List.set_cons_succ, i64_w, i32_w]
                rfl
              refine take_ (i := 1) (N := some 97) (v := ?_) (a' := ?_) #[true, true, true, false, true, false, true, false, false, true, false, false, false, false, false, false, false, false, false, false, false, false] rfl rfl (take_ofW HT_.out HW_.out (by kernel_rfl)) (fun _ _ _ h => h) (Or.inl ⟨by rfl, ?_⟩) hHeld ?_ ?_
              rotate_left
              · intro w' hSt
                have hx0 := (cell_of (ch_keep HT.out hSt HNE.out.1) (j := 0)).2 rfl
                have hx1 := (cell_of (ch_keep HT.out hSt HNE.out.1) (j := 1)).2 rfl
                have hx2 := (cell_of (ch_keep HT.out hSt HNE.out.1) (j := 2)).2 rfl
                go_simp
                with_reducible rfl
              rotate_left
              · simp only [Act.put, List.setIfInBounds_toArray, List.set_cons_zero, List.set_cons_succ, i64_w, i32_w]
                rfl
              refine take_ (i := 3) (N := some 99) (v := ?_) (a' := ?_) #[true, true, true, true, true, false, true, false, false, true, false, false, false, false, false, false, false, false, false, false, false, false] rfl rfl (take_ofW HT_.out HW_.out (by kernel_rfl)) (fun _ _ _ h => h) (Or.inl ⟨by rfl, ?_⟩) hHeld ?_ ?_
              rotate_left
              · intro w' hSt
                have hx0 := (cell_of (ch_keep HT.out hSt HNE.out.1) (j := 0)).2 rfl
                have hx1 := (cell_of (ch_keep HT.out hSt HNE.out.1) (j := 1)).2 rfl
                have hx2 := (cell_of (ch_keep HT.out hSt HNE.out.1) (j := 2)).2 rfl
                go_simp
                with_reducible rfl
              rotate_left
              · simp only [Act.put, List.setIfInBounds_toArray, List.set_cons_zero, List.set_cons_succ, i64_w, i32_w]
                rfl
              refine take_ (i := 5) (N := some 101) (v := ?_) (a' := ?_) #[true, true, true, true, true, true, true, false, false, true, false, false, false, false, false, false, false, false, false, false, false, false] rfl rfl (take_ofW HT_.out HW_.out (by kernel_rfl)) (fun _ _ _ h => h) (Or.inl ⟨by rfl, ?_⟩) hHeld ?_ ?_
              rotate_left
              · intro w' hSt
                have hx0 := (cell_of (ch_keep HT.out hSt HNE.out.1) (j := 0)).2 rfl
                have hx1 := (cell_of (ch_keep HT.out hSt HNE.out.1) (j := 1)).2 rfl
                have hx2 := (cell_of (ch_keep HT.out hSt HNE.out.1) (j := 2)).2 rfl
                go_simp
                with_reducible rfl
              rotate_left
              · simp only [Act.put, List.setIfInBounds_toArray, List.set_cons_zero, List.set_cons_succ, i64_w, i32_w]
                rfl
              refine take_ (i := 7) (N := some 103) (v := ?_) (a' := ?_) #[true, true, true, true, true, true, true, true, false, true, false, false, false, false, false, false, false, false, false, false, false, false] rfl rfl (take_ofW HT_.out HW_.out (by kernel_rfl)) (fun _ _ _ h => h) (Or.inl ⟨by rfl, ?_⟩) hHeld ?_ ?_
              rotate_left
              · intro w' hSt
                have hx0 := (cell_of (ch_keep HN.out hSt HNE.out.2) (j := 0)).2 rfl
                have hx1 := (cell_of (ch_keep HN.out hSt HNE.out.2) (j := 1)).2 rfl
                go_simp
                with_reducible rfl
              rotate_left
              · simp only [Act.put, List.setIfInBounds_toArray, List.set_cons_zero, List.set_cons_succ, i64_w, i32_w]
                rfl
              refine take_ (i := 10) (N := some 106) (v := ?_) (a' := ?_) #[true, true, true, true, true, true, true, true, false, true, true, false, false, false, false, false, false, false, false, false, false, false] rfl rfl (take_ofW HT_.out HW_.out (by kernel_rfl)) (fun _ _ _ h => h) (Or.inl ⟨by rfl, ?_⟩) hHeld ?_ ?_
              rotate_left
              · intro w' hSt
                have hx0 := (cell_of (ch_keep HN.out hSt HNE.out.2) (j := 0)).2 rfl
                have hx1 := (cell_of (ch_keep HN.out hSt HNE.out.2) (j := 1)).2 rfl
                go_simp
                with_reducible rfl
              rotate_left
              · simp only [Act.put, List.setIfInBounds_toArray, List.set_cons_zero, List.set_cons_succ, i64_w, i32_w]
                rfl
              refine pure_ (i := 8) (N := some 104) (v := ?_) (a' := ?_) #[true, true, true, true, true, true, true, true, true, true, true, false, false, false, false, false, false, false, false, false, false, false] rfl rfl (any_of HT_.out (by kernel_rfl)) (fun _ _ _ h => h) (Or.inl ⟨by rfl, ?_⟩) ?_ ?_
              rotate_left
              · intro w'
                go_simp
                with_reducible rfl
              rotate_left
              · simp only [Act.put, List.setIfInBounds_toArray, List.set_cons_zero, List.set_cons_succ, i64_w, i32_w]
                rfl
              refine pure_ (i := 11) (N := some 107) (v := ?_) (a' := ?_) #[true, true, true, true, true, true, true, true, true, true, true, true, false, false, false, false, false, false, false, false, false, false] rfl rfl (any_of HT_.out (by kernel_rfl)) (fun _ _ _ h => h) (Or.inl ⟨by rfl, ?_⟩) ?_ ?_
              rotate_left
              · intro w'
                go_simp
                with_reducible rfl
              rotate_left
              · simp only [Act.put, List.setIfInBounds_toArray, List.set_cons_zero, List.set_cons_succ, i64_w, i32_w]
                rfl
              refine pure_ (i := 12) (N := some 108) (v := ?_) (a' := ?_) #[true, true, true, true, true, true, true, true, true, true, true, true, true, false, false, false, false, false, false, false, false, false] rfl rfl (any_of HT_.out (by kernel_rfl)) (fun _ _ _ h => h) (Or.inl ⟨by rfl, ?_⟩) ?_ ?_
              rotate_left
              · intro w'
                go_simp
                with_reducible rfl
              rotate_left
              · simp only [Act.put, List.setIfInBounds_toArray, List.set_cons_zero, List.set_cons_succ, i64_w, i32_w]
                rfl
              refine one_ (i := 13) (N := none) #[true, true, true, true, true, true, true, true, true, true, true, true, true, true, false, false, false, false, false, false, false, false] rfl rfl (one_of HT_.out (by kernel_rfl)) (by decide) (fun K hK => ?_)
              have y0 := (cell_of HXa.out (j := 1)).2 rfl
              have z0 : W0.frozen? ⟨q, 1, none⟩ = false := by simp [World.frozen?, HXa.out]
              refine skip_ (w1 := ?_) (by rfl) rfl ?_ ?_
              rotate_left
              · go_simp
                rfl
              clear y0 z0
              have hS1 := hHeld.trans (Ch.set q 1 _ (.string tA))
              replace HXa := Aside0.mk (blk_set HXa.out 1 (.string tA))
              generalize W0.setCell ⟨q, 1, none⟩ (.string tA) = W1 at hS1 HXa ⊢
              refine hK.out _ _ (by exact hS1) (fun hHeld => ?_)
              clear hK K
              refine pure_ (i := 14) (N := some 109) (v := ?_) (a' := ?_) #[true, true, true, true, true, true, true, true, true, true, true, true, true, true, true, false, false, false, false, false, false, false] rfl rfl (any_of HT_.out (by kernel_rfl)) (fun _ _ _ h => h) (Or.inl ⟨by rfl, ?_⟩) ?_ ?_
              rotate_left
              · intro w'
                go_simp
                with_reducible rfl
              rotate_left
              · simp only [Act.put, List.setIfInBounds_toArray, List.set_cons_zero, List.set_cons_succ, i64_w, i32_w]
                rfl
              refine one_ (i := 15) (N := none) #[true, true, true, true, true, true, true, true, true, true, true, true, true, true, true, true, false, false, false, false, false, false] rfl rfl (one_of HT_.out (by kernel_rfl)) (by decide) (fun K hK => ?_)
              have y0 := (cell_of HXa.out (j := 2)).2 rfl
              have z0 : W1.frozen? ⟨q, 2, none⟩ = false := by simp [World.frozen?, HXa.out]
              refine skip_ (w1 := ?_) (by rfl) rfl ?_ ?_
              rotate_left
              · go_simp
                rfl
              clear y0 z0
              have hS1 := hHeld.trans (Ch.set q 2 _ (.string tB))
              replace HXa := Aside0.mk (blk_set HXa.out 2 (.string tB))
              generalize W1.setCell ⟨q, 2, none⟩ (.string tB) = W2 at hS1 HXa ⊢
              refine hK.out _ _ (by exact hS1) (fun hHeld => ?_)
              clear hK K
              refine pure_ (i := 16) (N := some 110) (v := ?_) (a' := ?_) #[true, true, true, true, true, true, true, true, true, true, true, true, true, true, true, true, true, false, false, false, false, false] rfl rfl (any_of HT_.out (by kernel_rfl)) (fun _ _ _ h => h) (Or.inl ⟨by rfl, ?_⟩) ?_ ?_
              rotate_left
              · intro w'
                go_simp
                with_reducible rfl
              rotate_left
              · simp only [Act.put, List.setIfInBounds_toArray, List.set_cons_zero, List.set_cons_succ, i64_w, i32_w]
                rfl
              refine one_ (i := 17) (N := none) #[true, true, true, true, true, true, true, true, true, true, true, true, true, true, true, true, true, true, false, false, false, false] rfl rfl (one_of HT_.out (by kernel_rfl)) (by decide) (fun K hK => ?_)
              have y0 := (cell_of HXa.out (j := 3)).2 rfl
              have z0 : W2.frozen? ⟨q, 3, none⟩ = false := by simp [World.frozen?, HXa.out]
              refine skip_ (w1 := ?_) (by rfl) rfl ?_ ?_
              rotate_left
              · go_simp
                rfl
              clear y0 z0
              have hS1 := hHeld.trans (Ch.set q 3 _ (.string tC))
              replace HXa := Aside0.mk (blk_set HXa.out 3 (.string tC))
              generalize W2.setCell ⟨q, 3, none⟩ (.string tC) = W3 at hS1 HXa ⊢
              refine hK.out _ _ (by exact hS1) (fun hHeld => ?_)
              clear hK K
              refine pure_ (i := 18) (N := some 111) (v := ?_) (a' := ?_) #[true, true, true, true, true, true, true, true, true, true, true, true, true, true, true, true, true, true, true, false, false, false] rfl rfl (any_of HT_.out (by kernel_rfl)) (fun _ _ _ h => h) (Or.inl ⟨by rfl, ?_⟩) ?_ ?_
              rotate_left
              · intro w'
                go_simp
                with_reducible rfl
              rotate_left
              · simp only [Act.put, List.setIfInBounds_toArray, List.set_cons_zero, List.set_cons_succ, i64_w, i32_w]
                rfl
              refine one_ (i := 19) (N := none) #[true, true, true, true, true, true, true, true, true, true, true, true, true, true, true, true, true, true, true, true, false, false] rfl rfl (one_of HT_.out (by kernel_rfl)) (by decide) (fun K hK => ?_)
              have y0 := (cell_of HXa.out (j := 4)).2 rfl
              have z0 : W3.frozen? ⟨q, 4, none⟩ = false := by simp [World.frozen?, HXa.out]
              refine skip_ (w1 := ?_) (by rfl) rfl ?_ ?_
              rotate_left
              · go_simp
                rfl
              clear y0 z0
              have hS1 := hHeld.trans (Ch.set q 4 _ (.int .i64 nN))
              replace HXa := Aside0.mk (blk_set HXa.out 4 (.int .i64 nN))
              generalize W3.setCell ⟨q, 4, none⟩ (.int .i64 nN) = W4 at hS1 HXa ⊢
              refine hK.out _ _ (by exact hS1) (fun hHeld => ?_)
              clear hK K
              refine pure_ (i := 20) (N := some 112) (v := ?_) (a' := ?_) #[true, true, true, true, true, true, true, true, true, true, true, true, true, true, true, true, true, true, true, true, true, false] rfl rfl (any_of HT_.out (by kernel_rfl)) (fun _ _ _ h => h) (Or.inl ⟨by rfl, ?_⟩) ?_ ?_
              rotate_left
              · intro w'
                go_simp
                with_reducible rfl
              rotate_left
              · simp only [Act.put, List.setIfInBounds_toArray, List.set_cons_zero, List.set_cons_succ, i64_w, i32_w]
                rfl
              refine one_ (i := 21) (N := none) #[true, true, true, true, true, true, true, true, true, true, true, true, true, true, true, true, true, true, true, true, true, true] rfl rfl (one_of HT_.out (by kernel_rfl)) (by decide) (fun K hK => ?_)
              have y0 := (cell_of HXa.out (j := 5)).2 rfl
              have z0 : W4.frozen? ⟨q, 5, none⟩ = false := by simp [World.frozen?, HXa.out]
              refine skip_ (w1 := ?_) (by rfl) rfl ?_ ?_
              rotate_left
              · go_simp
                rfl
              clear y0 z0
              have hS1 := hHeld.trans (Ch.set q 5 _ (.int .i64 nM))
              replace HXa := Aside0.mk (blk_set HXa.out 5 (.int .i64 nM))
              generalize W4.setCell ⟨q, 5, none⟩ (.int .i64 nM) = W5 at hS1 HXa ⊢
              refine hK.out _ _ (by exact hS1) (fun hHeld => ?_)
              clear hK K
              refine done_ (done_of HT_.out (by kernel_rfl)) ?_
              have HX11 := Aside0.mk (show W5.heap[q]? = some (.cells (cI (op, tA, tB, tC, nN, nM)) 26 (0, 0)) from HXa.out)
              have HBx := Aside0.mk (HBW.out.trans (hHeld.below HQR.out (Array.getElem?_eq_some_iff.1 HX.out).1))
              have HB11 := Aside0.mk (below_step HB.out HBx.out)
              have HO11 := Aside0.mk (Kd.R_below HO.out HBx.out)
              have HKS2 := Aside0.mk (show insK l (a0, false) (k + 1) = (p ++ [(op, tA, tB, tC, nN, nM)], (b', false)) by rw [HKS.out, HINS.out])
              clear HKS HINS hHeld HT_ HW_ HXa hS0 HX HBW HN HT HB HO HBx HNE hwN hwM
              (try simp only [Act.put])
              go_upto_region 33 with (fail)
              go_wp2_with (first | (refine wpList_load_row rfl 26 (.tmp 9) rfl q rfl 26 (cI (op, tA, tB, tC, nN, nM)) (0, 0) _ HX11.out Tryd.underlying26 rfl infoI6 ?_) | ((with_reducible refine gate_builtin (b := .append) (xs := #[.tmp 113, .tmp 115]) rfl ?_); at_builtin; refine Kd.R_append KP (w0 := w) w.heap.size rfl (.tmp 113) (.tmp 115) 22 26 (.agg #[.int .u8 0, .string ⟨#[]⟩, .string ⟨#[]⟩, .string ⟨#[]⟩, .int .i64 0, .int .i64 0]) 72 rfl Tryd.underlying22 infoP rfl (by decide) (by omega) _ p (op, tA, tB, tC, nN, nM) [.int .u8 op, .string tA, .string tB, .string tC, .int .i64 nN, .int .i64 nM] (fun _ => True) (fun _ => False) rfl rfl (KP_M _ _ _ (op, tA, tB, tC, nN, nM)) (fun _ h => h.elim) (fun _ _ => trivial) HO11.out HB11.out HB11.out.size ?aL ?_; (case aL => have := HKL.out; omega); intro v2 w12 ho hb2 hg hat; have HO12 := Aside0.mk ho; have HB12 := Aside0.mk hb2; clear ho hb2 hg hat))
              refine ⟨⟨k + 1, b', by omega, by go_num, rfl, ⟨by rw [HKS2.out]⟩, ⟨by rw [HKS2.out]; exact HO12.out⟩, HB12⟩, ?_⟩
              simp [intOf]; omega
    · obtain rfl : k = N := by omega
      have HSZ := Aside0.mk (insK_sz l (a0, false) HLL.out k)
      have HKL := Aside0.mk (show (insK l (a0, false) k).1.length = k from insK_len l (a0, false) k)
      rw [HS.out] at HRP
      generalize (insK l (a0, false) k).1 = p at HO HKL HSZ HRP
      obtain ⟨A5, c5, rfl, hc5, hr5⟩ := Kd.R_reads HO.out
      have HR5 := Aside0.mk hr5
      clear HS HBAD hr5 hlt hk
      by_cases hat : at_ = (l.length : Int)
      · have h1 : (at_ != (l.length : Int)) = false := by rw [bne_eq_false_iff_eq]; exact hat
        have h1b : (at_ == (l.length : Int)) = true := by rw [beq_iff_eq]; exact hat
        have HAT := Aside0.mk hat
        clear hat
        go_wp2_with fail
        refine (rmay_calls A5 c5 p _ HR5.out hc5 HSZ.out).mono ?_
        rintro e w3 ⟨rfl, hb⟩
        have HBB := Aside0.mk hb
        clear hb h1 h1b
        cases hm : mayP p with
        | false =>
          have HE := Aside0.mk (show readP l = none by rw [HRP.out, if_pos (.inr (.inr hm))])
          clear hm
          go_wp2
          go_ret2
          exact nil_post HE.out (below_step HB.out HBB.out)
        | true =>
          have HE := Aside0.mk (show readP l = some p by
            rw [HRP.out, if_neg]
            rintro (h | h | h)
            · cases h
            · exact h HAT.out
            · rw [hm] at h; cases h)
          clear hm
          go_wp2
          go_ret2
          exact ⟨_, _, rfl, fun h => (by rw [HE.out] at h; cases h), fun p' hp => (by rw [HE.out] at hp; cases hp; exact ⟨rfl, Kd.R_below HO.out HBB.out⟩), below_step HB.out HBB.out⟩
      · have HE := Aside0.mk (show readP l = none by rw [HRP.out, if_pos (.inr (.inl hat))])
        have h1 : (at_ != (l.length : Int)) = true := by rw [bne_iff_ne]; exact hat
        have h1b : (at_ == (l.length : Int)) = false := by rw [beq_eq_false_iff_ne]; exact hat
        clear hat
        go_wp2
        go_ret2
        exact nil_post HE.out HB.out
end Go.Proofs.YtneindaodfiabaaDoor.Prog6
