/- What calls of Go functions of this seat come to, as the rows need it: under the conditions that each theorem names. -/
import Derived.Test.YtlojemnmdakfiaaDoorHLawActionKeys2
import Derived.Test.YtlojemnmdakfiaaDoorProg
import Derived.Below
import Derived.Deep.Draws
import Derived.Deep.AppendLies
import Derived.Maps.AppendAt
import Derived.OwnWalk
import Derived.Laws.BytesArg
import Derived.Laws.MakeOwn
import Derived.Laws.OwnMore
import Derived.Deep.OwnRows
import Derived.Tactics
import Derived.Lib.ConvBytes
import Derived.Laws.Slices
import Derived.WalkKit
import Derived.KernelRfl
import Derived.RowKit3
import Derived.Deep.LoopGhost
import Derived.Deep.QuietTactic
import Derived.BigQuiet
import Derived.WideLaws
import Derived.Deep.DeepCutAuto
import Derived.Deep.CutBlock
import Derived.Deep.RegionHeld3
import Derived.Laws.Rows
import Derived.Lib.AppendStr
import Derived.ArgAppend
import Derived.Laws.IdiomCopy
import Derived.OrdersHeld
import Derived.Laws.BitsLemmas
import Derived.RowKit
import Derived.Outline
import Derived.Laws.BitsAllLaws
import Derived.Deep.RegionWith
import Derived.OneCell
section
namespace Go.Proofs.YtlojemnmdakfiaaDoor.Prog6
open Go.RowKit Go.Proofs.YtlojemnmdakfiaaDoorW.PrintWords Go.Proofs.YtlojemnmdakfiaaDoorW.PrintLast Go.Proofs.YtlojemnmdakfiaaDoorW.PrintMore
set_option linter.unusedVariables false
set_option linter.unusedSimpArgs false
open Go.Proofs.YtlojemnmdakfiaaDoor.Hand (formL rowL appendUint_calls appendBytes_calls formL_len)
def pby_T13 : Bool × List (List Nat × List Nat) := (true, [([], []), ([], []), ([1], [1]), ([2], [2]), ([0, 3], [0, 3]), ([], []), ([5], [5]), ([6], [6]), ([4, 7, 4], [4, 7]), ([8, 8, 0, 1, 2, 3, 4, 5, 6, 7, 8], [0, 8])])
def pby_B13 : List Nat := [0, 0, 2, 6, 15, 0, 32, 96, 255, 511]
theorem pby_tab13 : rtab .any (opsOf Tryd.f21 13) = pby_T13 := by kernel_rfl
theorem pby_bits13 : waitsOk pby_T13.2 pby_B13 = true := by kernel_rfl
set_option maxHeartbeats 3200000 in
set_option maxRecDepth 100000 in
theorem pbytes_calls (A : Option Addr) (c : Nat) (p : List Ins) (w : World) (hr : KP.C w A p.length p) (hc : p.length ≤ c) (hT : Tab w) (hx : ∀ x ∈ p, szOk x) :
    Calls Tryd.prog 21 #[.slice A p.length c] w fun e w' => ∃ v er, e = .returned (.tuple #[v, .int .i64 er]) ∧ (mayP p = false → er = 2 ∧ v = .slice none 0 0) ∧ (mayP p = true → er = 0 ∧ Kd.R RBy 5 w' w.heap.size (fun _ => True) v (progB p)) ∧ Below w.heap.size w w' := by
  have HR := Aside0.mk hr
  have HTAB := Aside0.mk hT
  have HSZ := Aside0.mk hx
  have hl63 : p.length ≤ 9223372036854775807 := hr.2.1
  clear hr hT hx
  go_enter Tryd.func21, Tryd.ntmps21
  go_wp2_with fail
  refine (may_calls A c p w HR.out hc HTAB.out HSZ.out).mono ?_
  rintro e w1 ⟨rfl, hb⟩
  have HB := Aside0.mk hb
  clear hb
  cases hm : mayP p with
  | false =>
    have HM := Aside0.mk hm
    clear hm
    go_wp2
    go_ret2
    exact ⟨_, _, rfl, fun _ => ⟨rfl, rfl⟩, (fun h => by rw [HM.out] at h; cases h), HB.out⟩
  | true =>
  obtain ⟨h30, hok⟩ := may_ok hm
  have HM := Aside0.mk hm
  have HOK := Aside0.mk hok
  have hwl : IntKind.u64.wrap (p.length : Int) = (p.length : Int) := by simp [IntKind.wrap, IntKind.bits, IntKind.signed]; omega
  clear hm hok
  go_wp2_with fail
  refine (appendUint_calls none 0 [] p.length _ ⟨rfl, by simp, fun h => absurd h (by simp)⟩ (Nat.le_refl _) (by omega) (by simp)).mono ?_
  rintro e w2 ⟨v2, rfl, ho, hb⟩
  rw [List.nil_append] at ho
  have HO2 := Aside0.mk (Kd.R_lower ho HB.out.size)
  have HB2 := Aside0.mk (below_step HB.out hb)
  clear ho hb HB hwl
  go_wp2
  go_loopw [4, 18] (fun v i wr => ∃ k : Nat, k ≤ p.length ∧ i = .int .i64 (k : Int) ∧ Aside0 (Kd.R RBy 5 wr w.heap.size (fun _ => True) v (formL p.length ++ ((p.take k).map insB).flatten)) ∧ Aside0 (Below w.heap.size w wr)) (fun _ i _ => p.length - (intOf i).toNat)
  case atStart => exact ⟨0, Nat.zero_le _, rfl, by simpa using HO2, HB2⟩
  case round =>
    clear HO2 HB2
    obtain ⟨k, hk, rfl, HO, HB⟩ := hrel
    by_cases hlt : k < p.length
    · have HLK := Aside0.mk (show (formL p.length ++ ((p.take k).map insB).flatten).length ≤ 6000 by
        have h1 := formL_len p.length (by omega)
        have h2 := len_flat (p := p.take k) (fun x hx => HOK.out x (List.mem_of_mem_take hx))
        rw [List.length_take] at h2
        simp only [List.length_append]
        omega)
      have HTK := Aside0.mk (show formL p.length ++ ((p.take (k + 1)).map insB).flatten = (formL p.length ++ ((p.take k).map insB).flatten) ++ insB p[k] by rw [List.take_succ_eq_append_getElem hlt]; simp only [List.map_append, List.map_cons, List.map_nil, List.flatten_append, List.flatten_cons, List.flatten_nil, List.append_nil, List.append_assoc])
      have HOX := Aside0.mk (HOK.out _ (List.getElem_mem hlt))
      obtain ⟨ad, rfl, x0, x1, x2, x3, x4, x5⟩ := row_cp (Kd.C_below HR.out HB.out) k hlt p[k] (List.getElem?_eq_getElem hlt)
      generalize p[k] = x at x0 x1 x2 x3 x4 x5 HTK HOX
      generalize formL p.length ++ ((p.take k).map insB).flatten = L at HO HTK HLK
      obtain ⟨A2, c2, rfl, hc2, hr2⟩ := Kd.R_reads HO.out
      have HC2 := Aside0.mk hr2
      clear hr2 HO
      go_upto_region 7 with (fail)
      have HBA := Aside0.mk ((Below.refl wr.heap.size wr).alloc (Nat.le_refl _) (.cells (cI x) 68 (0, 0)))
      have HX := Aside0.mk (show BoxI (wr.alloc (.cells (cI x) 68 (0, 0))) wr.heap.size x from heap_new _ _)
      replace HC2 := Aside0.mk (Kd.C_below HC2.out HBA.out)
      replace HB := Aside0.mk (below_step HB.out HBA.out)
      clear HBA
      generalize wr.alloc _ = wa at HX HB HC2 ⊢
      generalize wr.heap.size = b at HX ⊢
      obtain ⟨op, tA, tB, tC, N, M⟩ := x
      have hoI := HOX.out
      obtain ⟨op, rfl⟩ := Int.eq_ofNat_of_zero_le (show 0 ≤ op by have := hoI.1.1; simp only at this; omega)
      obtain ⟨N, rfl⟩ := Int.eq_ofNat_of_zero_le hoI.2.2.2.2.1.1
      obtain ⟨M, rfl⟩ := Int.eq_ofNat_of_zero_le hoI.2.2.2.2.2.1
      have HNM := Aside0.mk (show op ≤ 11 ∧ N ≤ 2000 ∧ M ≤ 2000 by have h1 := hoI.1.2; have h2 := hoI.2.2.2.2.1.2; have h3 := hoI.2.2.2.2.2.2; simp only at h1 h2 h3; omega)
      have HS40 := Aside0.mk (show tA.size ≤ 40 ∧ tB.size ≤ 40 ∧ tC.size ≤ 40 from ⟨hoI.2.1, hoI.2.2.1, hoI.2.2.2.1⟩)
      have hwo : IntKind.u64.wrap (op : Int) = (op : Int) := by have := HNM.out.1; simp [IntKind.wrap, IntKind.bits, IntKind.signed]; omega
      obtain ⟨b0, b1, b2, b3, b4, b5⟩ := HX.out.cu
      simp only [] at b0 b1 b2 b3 b4 b5
      clear hoI x0 x1 x2 x3 x4 x5
      go_wp2_with fail
      refine (appendUint_calls A2 c2 L op _ HC2.out hc2 (by have := HNM.out; omega) (by have := HLK.out; omega)).mono ?_
      rintro e w3 ⟨v3, rfl, ho, hb⟩
      have HO3 := Aside0.mk (Kd.R_lower ho HB.out.size)
      have HB3 := Aside0.mk (below_step HB.out hb)
      replace HX := Aside0.mk (HX.out.below hb)
      clear ho hb HB HC2 b0 b1 b2 b3 b4 b5 hwo
      obtain ⟨b0, b1, b2, b3, b4, b5⟩ := HX.out.cu
      simp only [] at b0 b1 b2 b3 b4 b5
      go_wp2
      obtain ⟨wo, hwo⟩ : ∃ wo, wo = wr := ⟨_, rfl⟩
      subst hwo
      have HLK3 := Aside0.mk (show (L ++ formL op).length ≤ 6010 by have := HLK.out; have := formL_len op (by have := HNM.out; omega); simp only [List.length_append]; omega)
      have HTL := Aside0.mk (show (L ++ formL op) ++ ([rowL (bytesOf tA), rowL (bytesOf tB), rowL (bytesOf tC)].take 3).flatten ++ (formL N ++ formL M) = L ++ insB ((op : Int), tA, tB, tC, (N : Int), (M : Int)) by simp [insB])
      clear b0 b1 b2 b3 b4 b5
      generalize L ++ formL op = L3 at HO3 HLK3 HTL
      go_loopw [4, 34] (fun v i wr => ∃ j : Nat, j ≤ 3 ∧ i = .int .i64 (j : Int) ∧ Aside0 (Kd.R RBy 5 wr w.heap.size (fun _ => True) v (L3 ++ ([rowL (bytesOf tA), rowL (bytesOf tB), rowL (bytesOf tC)].take j).flatten)) ∧ Aside0 (BoxI wr b ((op : Int), tA, tB, tC, (N : Int), (M : Int))) ∧ Aside0 (Below w.heap.size w wr)) (fun _ i _ => 3 - (intOf i).toNat)
      case atStart => exact ⟨0, Nat.zero_le _, rfl, by simpa using HO3, HX, HB3⟩
      case round =>
        clear HO3 HX HB3
        obtain ⟨j, hj, rfl, HO3, HX, HB3⟩ := hrel
        by_cases hj3 : j < 3
        · obtain ⟨s, hs, hs40, hsl⟩ : ∃ s : ByteArray, (∀ W : World, (Instr.index 73 (.agg #[.string tA, .string tB, .string tC]) (.int .i64 (j : Int))).run Tryd.prog W = .ok (.string s) W) ∧ s.size ≤ 40 ∧ [rowL (bytesOf tA), rowL (bytesOf tB), rowL (bytesOf tC)].take (j + 1) = [rowL (bytesOf tA), rowL (bytesOf tB), rowL (bytesOf tC)].take j ++ [rowL (bytesOf s)] := by
            have h := HS40.out
            rcases j with _ | _ | _ | j
            · exact ⟨tA, fun W => rfl, h.1, rfl⟩
            · exact ⟨tB, fun W => rfl, h.2.1, rfl⟩
            · exact ⟨tC, fun W => rfl, h.2.2, rfl⟩
            · omega
          have HSL := Aside0.mk (show L3 ++ ([rowL (bytesOf tA), rowL (bytesOf tB), rowL (bytesOf tC)].take (j + 1)).flatten = (L3 ++ ([rowL (bytesOf tA), rowL (bytesOf tB), rowL (bytesOf tC)].take j).flatten) ++ rowL (bytesOf s) by rw [hsl]; simp)
          have HLJ := Aside0.mk (show (L3 ++ ([rowL (bytesOf tA), rowL (bytesOf tB), rowL (bytesOf tC)].take j).flatten).length ≤ 7000 by
            have h1 := HLK3.out
            have h := HS40.out
            have f := fun s : ByteArray => fun h : s.size ≤ 40 => (show (rowL (bytesOf s)).length ≤ 49 by have := formL_len s.size (by omega); have e := bytesOf_length s; simp only [rowL, List.length_append, e]; omega)
            have fA := f tA h.1
            have fB := f tB h.2.1
            have fC := f tC h.2.2
            rcases j with _ | _ | _ | j
            · simp only [List.take_zero, List.flatten_nil, List.append_nil]; omega
            · simp only [List.take_succ_cons, List.take_zero, List.flatten_cons, List.flatten_nil, List.append_nil, List.length_append]; omega
            · simp only [List.take_succ_cons, List.take_zero, List.flatten_cons, List.flatten_nil, List.append_nil, List.length_append]; omega
            · omega)
          clear hsl
          generalize L3 ++ ([rowL (bytesOf tA), rowL (bytesOf tB), rowL (bytesOf tC)].take j).flatten = LJ at HO3 HSL HLJ
          have HS4 := Aside0.mk hs40
          obtain ⟨A4, c4, rfl, hc4, hr4⟩ := Kd.R_reads HO3.out
          have HC4 := Aside0.mk hr4
          have kb := fun W => print_bytes (P := Tryd.prog) 9 30 5 Tryd.underlying9 Tryd.underlying30 Tryd.underlying5 s W
          have hji : decide ((j : Int) < 3) = true := decide_eq_true (by omega)
          have hjd : decide (j < 3) = true := decide_eq_true hj3
          clear hr4 HO3 hs40
          go_upto_region 11 with (fail)
          go_wp2_with fail
          have happ := appendBytes_calls A4 c4 LJ (some ⟨wr.heap.size, 0, none⟩) (grownCap wr s.size 0 5) (bytesOf s) (Lib.bytesWorld wr 5 s) (Kd.C_below HC4.out (bytes_below (Below.refl _ _) (Nat.le_refl _) _ _)) hc4 (Kd.C_of_reads (h1 := fun _ => rfl) (by rw [bytesOf_length]; exact bytes_reads wr 5 s (by have := HS4.out; omega))) (by rw [bytesOf_length]; exact grownCap_ge _ _ _ _) (by rw [bytesOf_length]; have := HLJ.out; have := HS4.out; omega)
          rw [bytesOf_length] at happ
          refine happ.mono ?_
          rintro e w5 ⟨v5, rfl, ho, hb⟩
          have HBW := Aside0.mk ((bytes_below (Below.refl wr.heap.size wr) (Nat.le_refl _) 5 s).trans (hb.mono (by rw [Lib.bytesWorld_size]; omega)))
          have HO5 := Aside0.mk (Kd.R_lower ho (show w.heap.size ≤ _ by rw [Lib.bytesWorld_size]; have := HB3.out.size; omega))
          replace HX := Aside0.mk (HX.out.below HBW.out)
          replace HB3 := Aside0.mk (below_step HB3.out HBW.out)
          clear happ ho hb HBW HC4 kb hs
          go_wp2
          go_roundw
          case rel => exact ⟨j + 1, by omega, by go_num, by rw [HSL.out]; exact HO5, HX, HB3⟩
          case measure => simp [intOf]; omega
        · obtain rfl : j = 3 := by omega
          clear hj hj3
          obtain ⟨A4, c4, rfl, hc4, hr4⟩ := Kd.R_reads HO3.out
          have HC4 := Aside0.mk hr4
          have HL4 := Aside0.mk (show (L3 ++ ([rowL (bytesOf tA), rowL (bytesOf tB), rowL (bytesOf tC)].take 3).flatten).length ≤ 7000 by
            have h1 := HLK3.out
            have h := HS40.out
            have f := fun s : ByteArray => fun h : s.size ≤ 40 => (show (rowL (bytesOf s)).length ≤ 49 by have := formL_len s.size (by omega); have e := bytesOf_length s; simp only [rowL, List.length_append, e]; omega)
            have fA := f tA h.1
            have fB := f tB h.2.1
            have fC := f tC h.2.2
            simp only [List.take_succ_cons, List.take_zero, List.flatten_cons, List.flatten_nil, List.append_nil, List.length_append]; omega)
          clear hr4 HO3
          generalize L3 ++ ([rowL (bytesOf tA), rowL (bytesOf tB), rowL (bytesOf tC)].take 3).flatten = L4 at HC4 HL4 HTL hc4 ⊢
          have hwN : IntKind.u64.wrap (N : Int) = (N : Int) := by have := HNM.out; simp [IntKind.wrap, IntKind.bits, IntKind.signed]; omega
          have hwM : IntKind.u64.wrap (M : Int) = (M : Int) := by have := HNM.out; simp [IntKind.wrap, IntKind.bits, IntKind.signed]; omega
          go_upto_region 13 with (fail)
          have hS0 : Below wr.heap.size wr wr.drew := below_drew1 (Below.refl _ _)
          have HBR := HB3
          refine start_ (n := 10) (S := fun w' => Below wr.heap.size wr w') (ds := []) #[false, false, false, false, false, false, false, false, false, false] (by kernel_rfl) rfl rfl (by exact hS0) (fun hHeld => ?_)
          refine with_tabW pby_tab13 pby_bits13 (fun HT_ HW_ => ?_)
          refine pure_ (i := 0) (N := some 42) (v := ?_) (a' := ?_) #[true, false, false, false, false, false, false, false, false, false] rfl rfl (any_of HT_.out (by kernel_rfl)) (fun _ _ _ h => h) (Or.inl ⟨by rfl, ?_⟩) ?_ ?_
          rotate_left
          · intro w'
            go_simp
            with_reducible rfl
          rotate_left
          · simp only [Act.put, List.setIfInBounds_toArray, List.set_cons_zero, List.set_cons_succ, i64_w, i32_w]
            rfl
          refine pure_ (i := 1) (N := some 43) (v := ?_) (a' := ?_) #[true, true, false, false, false, false, false, false, false, false] rfl rfl (any_of HT_.out (by kernel_rfl)) (fun _ _ _ h => h) (Or.inl ⟨by rfl, ?_⟩) ?_ ?_
          rotate_left
          · intro w'
            go_simp
            with_reducible rfl
          rotate_left
          · simp only [Act.put, List.setIfInBounds_toArray, List.set_cons_zero, List.set_cons_succ, i64_w, i32_w]
            rfl
          refine pure_ (i := 5) (N := some 47) (v := ?_) (a' := ?_) #[true, true, false, false, false, true, false, false, false, false] rfl rfl (any_of HT_.out (by kernel_rfl)) (fun _ _ _ h => h) (Or.inl ⟨by rfl, ?_⟩) ?_ ?_
          rotate_left
          · intro w'
            go_simp
            with_reducible rfl
          rotate_left
          · simp only [Act.put, List.setIfInBounds_toArray, List.set_cons_zero, List.set_cons_succ, i64_w, i32_w]
            rfl
          refine take_ (i := 2) (N := some 44) (v := ?_) (a' := ?_) #[true, true, true, false, false, true, false, false, false, false] rfl rfl (take_ofW HT_.out HW_.out (by kernel_rfl)) (fun _ _ _ h => h) (Or.inl ⟨by rfl, ?_⟩) hHeld ?_ ?_
          rotate_left
          · intro w' hSt
            obtain ⟨b0, b1, b2, b3, b4, b5⟩ := (HX.out.below hSt).cu
            go_simp
            with_reducible rfl
          rotate_left
          · simp only [Act.put, List.setIfInBounds_toArray, List.set_cons_zero, List.set_cons_succ, i64_w, i32_w]
            rfl
          refine take_ (i := 6) (N := some 48) (v := ?_) (a' := ?_) #[true, true, true, false, false, true, true, false, false, false] rfl rfl (take_ofW HT_.out HW_.out (by kernel_rfl)) (fun _ _ _ h => h) (Or.inl ⟨by rfl, ?_⟩) hHeld ?_ ?_
          rotate_left
          · intro w' hSt
            obtain ⟨b0, b1, b2, b3, b4, b5⟩ := (HX.out.below hSt).cu
            go_simp
            with_reducible rfl
          rotate_left
          · simp only [Act.put, List.setIfInBounds_toArray, List.set_cons_zero, List.set_cons_succ, i64_w, i32_w]
            rfl
          refine pure_ (i := 3) (N := some 45) (v := ?_) (a' := ?_) #[true, true, true, true, false, true, true, false, false, false] rfl rfl (any_of HT_.out (by kernel_rfl)) (fun _ _ _ h => h) (Or.inl ⟨by rfl, ?_⟩) ?_ ?_
          rotate_left
          · intro w'
            go_simp
            with_reducible rfl
          rotate_left
          · simp only [Act.put, List.setIfInBounds_toArray, List.set_cons_zero, List.set_cons_succ, i64_w, i32_w]
            rfl
          refine pure_ (i := 7) (N := some 49) (v := ?_) (a' := ?_) #[true, true, true, true, false, true, true, true, false, false] rfl rfl (any_of HT_.out (by kernel_rfl)) (fun _ _ _ h => h) (Or.inl ⟨by rfl, ?_⟩) ?_ ?_
          rotate_left
          · intro w'
            go_simp
            with_reducible rfl
          rotate_left
          · simp only [Act.put, List.setIfInBounds_toArray, List.set_cons_zero, List.set_cons_succ, i64_w, i32_w]
            rfl
          refine one_ (i := 4) (N := some 46) #[true, true, true, true, true, true, true, true, false, false] rfl rfl (one_of HT_.out (by kernel_rfl)) (by decide) (fun K hK => ?_)
          refine goes_ Tryd.func24 (by kernel_rfl) rfl #[.slice A4 L4.length c4, .int .u64 N] (by rfl) rfl rfl (by (try simp only [List.map_toArray, List.map_cons, List.map_nil]); first | done | rfl) ?_
          refine (appendUint_calls A4 c4 L4 N _ (Kd.C_below HC4.out hHeld) hc4 (by have := HNM.out; omega) (by have := HL4.out; omega)).mono ?_
          rintro e w8 ⟨v8, rfl, ho, hb⟩
          refine ⟨_, rfl, ?_⟩
          have hS1 := below_step hHeld hb
          obtain ⟨A8, c8, rfl, hc8, hr8⟩ := Kd.R_reads ho
          have HO8 := Aside0.mk ho
          have HC8 := Aside0.mk hr8
          clear ho hb hr8
          refine hK.out _ _ (by exact hS1) (fun hHeld => ?_)
          clear hK K
          refine norm_ (a' := ?_) ?_ ?_
          rotate_left
          · first
            | (show Act.put _ (some 46) _ = _; simp only [Act.put, List.setIfInBounds_toArray, List.set_cons_zero, List.set_cons_succ, i64_w, i32_w]; rfl)
            | rfl
          refine one_ (i := 8) (N := some 50) #[true, true, true, true, true, true, true, true, true, false] rfl rfl (one_of HT_.out (by kernel_rfl)) (by decide) (fun K hK => ?_)
          refine goes_ Tryd.func24 (by kernel_rfl) rfl #[.slice A8 (L4 ++ formL N).length c8, .int .u64 M] (by rfl) rfl rfl (by (try simp only [List.map_toArray, List.map_cons, List.map_nil]); first | done | rfl) ?_
          refine (appendUint_calls A8 c8 (L4 ++ formL N) M _ HC8.out hc8 (by have := HNM.out; omega) (by have := HL4.out; have := formL_len N (by have := HNM.out; omega); simp only [List.length_append]; omega)).mono ?_
          rintro e w9 ⟨v9, rfl, ho, hb⟩
          refine ⟨_, rfl, ?_⟩
          have HO9 := Aside0.mk (Kd.R_lower ho (Nat.le_trans HBR.out.size hHeld.size))
          have hS1 := below_step hHeld hb
          clear ho hb
          refine hK.out _ _ (by exact hS1) (fun hHeld => ?_)
          clear hK K
          refine norm_ (a' := ?_) ?_ ?_
          rotate_left
          · first
            | (show Act.put _ (some 50) _ = _; simp only [Act.put, List.setIfInBounds_toArray, List.set_cons_zero, List.set_cons_succ, i64_w, i32_w]; rfl)
            | rfl
          refine pure_ (i := 9) (N := some 4) (v := ?_) (a' := ?_) #[true, true, true, true, true, true, true, true, true, true] rfl rfl (any_of HT_.out (by kernel_rfl)) (fun _ _ _ h => h) (Or.inl ⟨by rfl, ?_⟩) ?_ ?_
          rotate_left
          · intro w'
            go_simp
            with_reducible rfl
          rotate_left
          · simp only [Act.put, List.setIfInBounds_toArray, List.set_cons_zero, List.set_cons_succ, i64_w, i32_w]
            rfl
          refine done_ (done_of HT_.out (by kernel_rfl)) ?_
          replace HB3 := Aside0.mk (below_step HB3.out hHeld)
          have HEQ := Aside0.mk (show formL p.length ++ ((p.take (k + 1)).map insB).flatten = (L4 ++ formL N) ++ formL M by rw [HTK.out, ← HTL.out, List.append_assoc])
          clear hS0 hHeld HT_ HW_ HX HC4 HO8 HC8
          go_wp2
          go_roundw
          case rel => exact ⟨k + 1, by omega, by go_num, by rw [HEQ.out]; exact HO9, HB3⟩
          case measure => simp [intOf]; omega
    · obtain rfl : k = p.length := by omega
      have HV := Aside0.mk (show formL p.length ++ ((p.take p.length).map insB).flatten = progB p by rw [List.take_length]; rfl)
      rw [HV.out] at HO
      clear hlt hk
      go_wp2
      go_ret2
      exact ⟨_, _, rfl, (fun h => by rw [HM.out] at h; cases h), fun _ => ⟨rfl, HO.out⟩, HB.out⟩
end Go.Proofs.YtlojemnmdakfiaaDoor.Prog6
end
section
namespace Go.Proofs.YtlojemnmdakfiaaDoor.Tr
open Go.RowKit Go.Proofs.YtlojemnmdakfiaaDoorW.PrintWords Go.Proofs.YtlojemnmdakfiaaDoorW.PrintLast Go.Proofs.YtlojemnmdakfiaaDoorW.PrintMore
set_option linter.unusedVariables false
set_option linter.unusedSimpArgs false
open Go.Proofs.YtlojemnmdakfiaaDoor.Prog6 (isPath isPath_sz)
open Go.Proofs.YtlojemnmdakfiaaDoor.Hand
theorem okFs_at (xs : List Fl) : ∀ n k, okFs xs n = true → k < n → okF xs k (xs.getD k fl0) = true
  | 0, _, _, h => by omega
  | n + 1, k, h, hk => by
    have h' : (okFs xs n && okF xs n (xs.getD n fl0)) = true := h
    rw [Bool.and_eq_true] at h'
    by_cases e : k = n
    · subst e; exact h'.2
    · exact okFs_at xs n k h'.1 (by omega)
theorem mayT_ok {xs : List Fl} (h : mayT xs = true) : xs.length ≤ 16 ∧ ∀ x ∈ xs, x.1.size ≤ 40 ∧ x.2.length ≤ 2000 := by
  unfold mayT at h
  simp only [Bool.and_eq_true, decide_eq_true_eq] at h
  refine ⟨h.1.1, fun x hx => ?_⟩
  obtain ⟨k, hk, hkx⟩ := List.getElem_of_mem hx
  have q := okFs_at xs xs.length k h.1.2 hk
  rw [show xs.getD k fl0 = x by rw [List.getD_eq_getElem?_getD, List.getElem?_eq_getElem hk]; exact hkx] at q
  unfold okF at q
  simp only [Bool.and_eq_true, decide_eq_true_eq] at q
  exact ⟨isPath_sz q.1.1, q.1.2⟩
theorem len_fileB {x : Fl} (h : x.1.size ≤ 40 ∧ x.2.length ≤ 2000) : (fileB x).length ≤ 2058 := by
  have h1 := formL_len x.1.size (by omega)
  have h2 := formL_len x.2.length (by omega)
  unfold fileB rowL
  rw [bytesOf_length]
  simp only [List.length_append, bytesOf_length]
  omega
theorem len_files : ∀ (xs : List Fl), (∀ x ∈ xs, x.1.size ≤ 40 ∧ x.2.length ≤ 2000) → (xs.map fileB).flatten.length ≤ 2058 * xs.length
  | [], _ => by simp
  | x :: xs, h => by
    have h1 := len_fileB (h x (by simp))
    have h2 := len_files xs (fun y hy => h y (by simp [hy]))
    simp only [List.map_cons, List.flatten_cons, List.length_append, List.length_cons]
    omega
def traw_T5 : Bool × List (List Nat × List Nat) := (true, [([], []), ([], []), ([1], [1]), ([2], [2]), ([0, 3], [0, 3]), ([], []), ([5], [5]), ([4, 6, 4], [4, 6]), ([7, 7, 0, 1, 2, 3, 4, 5, 6, 7], [0, 7])])
def traw_B5 : List Nat := [0, 0, 2, 6, 15, 0, 32, 127, 255]
theorem traw_tab5 : rtab .any (opsOf Tryd.f56 5) = traw_T5 := by kernel_rfl
theorem traw_bits5 : waitsOk traw_T5.2 traw_B5 = true := by kernel_rfl
set_option maxHeartbeats 6400000 in
set_option maxRecDepth 100000 in
theorem raw_calls (A : Option Addr) (c : Nat) (xs : List Fl) (w : World) (hr : KF.C w A xs.length xs) (hc : xs.length ≤ c) (h16 : xs.length ≤ 16) (hx : ∀ x ∈ xs, x.1.size ≤ 40 ∧ x.2.length ≤ 2000) :
    Calls Tryd.prog 56 #[.slice A xs.length c] w fun e w' => ∃ v, e = .returned v ∧ Kd.R B 5 w' w.heap.size (fun _ => True) v (treeB xs) ∧ Below w.heap.size w w' := by
  have HR := Aside0.mk hr
  have HOK := Aside0.mk hx
  have hl63 : xs.length ≤ 9223372036854775807 := hr.2.1
  have hwl : IntKind.u64.wrap (xs.length : Int) = (xs.length : Int) := by simp [IntKind.wrap, IntKind.bits, IntKind.signed]; omega
  clear hr hx
  go_enter Tryd.func56, Tryd.ntmps56
  go_wp2_with fail
  refine (appendUint_calls none 0 [] xs.length _ ⟨rfl, by simp, fun h => absurd h (by simp)⟩ (Nat.le_refl _) (by omega) (by simp)).mono ?_
  rintro e w2 ⟨v2, rfl, ho, hb⟩
  rw [List.nil_append] at ho
  have HO2 := Aside0.mk ho
  have HB2 := Aside0.mk hb
  clear ho hb hwl
  go_wp2
  go_loopw [3, 12] (fun v i wr => ∃ k : Nat, k ≤ xs.length ∧ i = .int .i64 (k : Int) ∧ Aside0 (Kd.R B 5 wr w.heap.size (fun _ => True) v (formL xs.length ++ ((xs.take k).map fileB).flatten)) ∧ Aside0 (Below w.heap.size w wr)) (fun _ i _ => xs.length - (intOf i).toNat)
  case atStart => exact ⟨0, Nat.zero_le _, rfl, by simpa using HO2, HB2⟩
  case round =>
    clear HO2 HB2
    obtain ⟨k, hk, rfl, HO, HB⟩ := hrel
    by_cases hlt : k < xs.length
    · have HLJ := Aside0.mk (show (formL xs.length ++ ((xs.take k).map fileB).flatten).length ≤ 40000 by
        have h1 := formL_len xs.length (by omega)
        have h2 := len_files (xs.take k) (fun x hx => HOK.out x (List.mem_of_mem_take hx))
        rw [List.length_take] at h2
        simp only [List.length_append]
        omega)
      have HTK := Aside0.mk (show formL xs.length ++ ((xs.take (k + 1)).map fileB).flatten = ((formL xs.length ++ ((xs.take k).map fileB).flatten) ++ rowL (bytesOf xs[k].1)) ++ rowL xs[k].2 by rw [List.take_succ_eq_append_getElem hlt]; simp only [List.map_append, List.map_cons, List.map_nil, List.flatten_append, List.flatten_cons, List.flatten_nil, List.append_nil, fileB, List.append_assoc])
      obtain ⟨ad, A0, c0, rfl, x0, x1, hc0, hC0⟩ := row_cf (Kd.C_below HR.out HB.out) k hlt xs[k] (List.getElem?_eq_getElem hlt)
      have HOX := Aside0.mk (HOK.out xs[k] (List.getElem_mem hlt))
      generalize xs[k] = x at x0 x1 hc0 hC0 HOX HTK
      generalize formL xs.length ++ ((xs.take k).map fileB).flatten = LJ at HO HLJ HTK
      obtain ⟨A4, c4, rfl, hc4, hr4⟩ := Kd.R_reads HO.out
      clear HO
      go_upto_region 5 with (fail)
      obtain ⟨b, hbq⟩ : ∃ b, wr.heap.size = b := ⟨_, rfl⟩
      obtain ⟨w3, hw3, hw3h⟩ : ∃ w3, wr.alloc (.cells #[.string x.1, .slice A0 x.2.length c0] 50) = w3 ∧ w3.heap[wr.heap.size]? = some (.cells #[.string x.1, .slice A0 x.2.length c0] 50 (0, 0)) := ⟨_, rfl, heap_new _ _⟩
      have hb3 : Below wr.heap.size wr w3 := by rw [← hw3]; exact (Below.refl _ _).alloc (Nat.le_refl _) _
      rw [hbq] at hw3h
      have HX := Aside0.mk (show BoxF w3 b x A0 c0 from hw3h)
      replace HB := Aside0.mk (below_step HB.out hb3)
      have HC4 := Aside0.mk (Kd.C_below hr4 hb3)
      have HC0 := Aside0.mk (Kd.C_below hC0 hb3)
      rw [hw3, hbq]
      clear hw3 hbq hb3 hw3h x0 x1 hr4 hC0
      have hS0 : Below w3.heap.size w3 w3.drew := below_drew1 (Below.refl _ _)
      refine start_ (n := 9) (S := fun w' => Below w3.heap.size w3 w') (ds := []) #[false, false, false, false, false, false, false, false, false] (by kernel_rfl) rfl rfl (by exact hS0) (fun hHeld => ?_)
      refine with_tabW traw_tab5 traw_bits5 (fun HT_ HW_ => ?_)
      generalize w3.drew = wE at hHeld  ⊢
      refine pure_ (i := 0) (N := some 16) (v := ?_) (a' := ?_) #[true, false, false, false, false, false, false, false, false] rfl rfl (any_of HT_.out (by kernel_rfl)) (fun _ _ _ h => h) (Or.inl ⟨by rfl, ?_⟩) ?_ ?_
      rotate_left
      · intro w'
        go_simp
        with_reducible rfl
      rotate_left
      · simp only [Act.put, List.setIfInBounds_toArray, List.set_cons_zero, List.set_cons_succ, i64_w, i32_w]
        rfl
      refine pure_ (i := 1) (N := some 17) (v := ?_) (a' := ?_) #[true, true, false, false, false, false, false, false, false] rfl rfl (any_of HT_.out (by kernel_rfl)) (fun _ _ _ h => h) (Or.inl ⟨by rfl, ?_⟩) ?_ ?_
      rotate_left
      · intro w'
        go_simp
        with_reducible rfl
      rotate_left
      · simp only [Act.put, List.setIfInBounds_toArray, List.set_cons_zero, List.set_cons_succ, i64_w, i32_w]
        rfl
      refine pure_ (i := 5) (N := some 21) (v := ?_) (a' := ?_) #[true, true, false, false, false, true, false, false, false] rfl rfl (any_of HT_.out (by kernel_rfl)) (fun _ _ _ h => h) (Or.inl ⟨by rfl, ?_⟩) ?_ ?_
      rotate_left
      · intro w'
        go_simp
        with_reducible rfl
      rotate_left
      · simp only [Act.put, List.setIfInBounds_toArray, List.set_cons_zero, List.set_cons_succ, i64_w, i32_w]
        rfl
      refine take_ (i := 2) (N := some 18) (v := ?_) (a' := ?_) #[true, true, true, false, false, true, false, false, false] rfl rfl (take_ofW HT_.out HW_.out (by kernel_rfl)) (fun _ _ _ h => h) (Or.inl ⟨by rfl, ?_⟩) hHeld ?_ ?_
      rotate_left
      · intro w' hSt
        obtain ⟨o0, o1⟩ := HX.out.below hSt |>.cu
        go_simp
        with_reducible rfl
      rotate_left
      · simp only [Act.put, List.setIfInBounds_toArray, List.set_cons_zero, List.set_cons_succ, i64_w, i32_w]
        rfl
      refine take_ (i := 6) (N := some 22) (v := ?_) (a' := ?_) #[true, true, true, false, false, true, true, false, false] rfl rfl (take_ofW HT_.out HW_.out (by kernel_rfl)) (fun _ _ _ h => h) (Or.inl ⟨by rfl, ?_⟩) hHeld ?_ ?_
      rotate_left
      · intro w' hSt
        obtain ⟨o0, o1⟩ := HX.out.below hSt |>.cu
        go_simp
        with_reducible rfl
      rotate_left
      · simp only [Act.put, List.setIfInBounds_toArray, List.set_cons_zero, List.set_cons_succ, i64_w, i32_w]
        rfl
      refine one_ (i := 3) (N := some 19) #[true, true, true, true, false, true, true, false, false] rfl rfl (one_of HT_.out (by kernel_rfl)) (by decide) (fun K hK => ?_)
      obtain ⟨w5, hw5⟩ : ∃ w5, w5 = Lib.bytesWorld wE 5 x.1 := ⟨_, rfl⟩
      refine value_ (v := .slice (some ⟨wE.heap.size, 0, none⟩) x.1.size (grownCap wE x.1.size 0 5)) (w1 := w5) (by rfl) rfl (by rw [hw5]; have kb := print_bytes (P := Tryd.prog) 9 30 5 Tryd.underlying9 Tryd.underlying30 Tryd.underlying5 x.1 wE; go_simp; first | done | rfl) ?_
      have hb5 : Below wE.heap.size wE w5 := by rw [hw5]; exact bytes_below (Below.refl _ _) (Nat.le_refl _) 5 x.1
      have hS1 := below_step hHeld hb5
      have HCS := Aside0.mk (show B.C w5 (some ⟨wE.heap.size, 0, none⟩) (bytesOf x.1).length (bytesOf x.1) by rw [hw5, bytesOf_length]; exact Kd.C_of_reads (h1 := fun _ => rfl) (bytes_reads wE 5 x.1 (by have := HOX.out.1; omega)))
      have HSZ5 := Aside0.mk (show wE.heap.size ≤ w5.heap.size from hb5.size)
      have HCL := Aside0.mk (Kd.C_below HC4.out (below_step hHeld hb5))
      have HCX := Aside0.mk (Kd.C_below HC0.out (below_step hHeld hb5))
      clear hw5 hb5
      refine hK.out _ _ (by exact hS1) (fun hHeld => ?_)
      clear hK K
      refine norm_ (a' := ?_) ?_ ?_
      rotate_left
      · first
        | (show Act.put _ (some 19) _ = _; simp only [Act.put, List.setIfInBounds_toArray, List.set_cons_zero, List.set_cons_succ, i64_w, i32_w]; rfl)
        | rfl
      refine one_ (i := 4) (N := some 20) #[true, true, true, true, true, true, true, false, false] rfl rfl (one_of HT_.out (by kernel_rfl)) (by decide) (fun K hK => ?_)
      refine goes_ Tryd.func23 (by kernel_rfl) rfl #[.slice A4 LJ.length c4, .slice (some ⟨wE.heap.size, 0, none⟩) x.1.size (grownCap wE x.1.size 0 5)] (by rfl) rfl rfl (by (try simp only [List.map_toArray, List.map_cons, List.map_nil]); first | done | rfl) ?_
      have happ := appendBytes_calls A4 c4 LJ (some ⟨wE.heap.size, 0, none⟩) (grownCap wE x.1.size 0 5) (bytesOf x.1) w5 HCL.out hc4 HCS.out (by rw [bytesOf_length]; exact grownCap_ge _ _ _ _) (by rw [bytesOf_length]; have := HLJ.out; have := HOX.out.1; omega)
      rw [bytesOf_length] at happ
      refine happ.mono ?_
      clear happ
      rintro e w6 ⟨v6, rfl, ho, hb⟩
      refine ⟨_, rfl, ?_⟩
      have hS1 := below_step hHeld hb
      obtain ⟨A6, c6, rfl, hc6, hr6⟩ := Kd.R_reads ho
      have HC6 := Aside0.mk hr6
      have HCX6 := Aside0.mk (Kd.C_below HCX.out hb)
      have HL6 := Aside0.mk (show (LJ ++ rowL (bytesOf x.1)).length ≤ 50000 by have := HLJ.out; have h := HOX.out.1; have h1 := formL_len x.1.size (by omega); unfold rowL; simp only [List.length_append, bytesOf_length]; omega)
      clear ho hb hr6
      refine hK.out _ _ (by exact hS1) (fun hHeld => ?_)
      clear hK K
      refine norm_ (a' := ?_) ?_ ?_
      rotate_left
      · first
        | (show Act.put _ (some 20) _ = _; simp only [Act.put, List.setIfInBounds_toArray, List.set_cons_zero, List.set_cons_succ, i64_w, i32_w]; rfl)
        | rfl
      refine one_ (i := 7) (N := some 23) #[true, true, true, true, true, true, true, true, false] rfl rfl (one_of HT_.out (by kernel_rfl)) (by decide) (fun K hK => ?_)
      refine goes_ Tryd.func23 (by kernel_rfl) rfl #[.slice A6 (LJ ++ rowL (bytesOf x.1)).length c6, .slice A0 x.2.length c0] (by rfl) rfl rfl (by (try simp only [List.map_toArray, List.map_cons, List.map_nil]); first | done | rfl) ?_
      refine (appendBytes_calls A6 c6 (LJ ++ rowL (bytesOf x.1)) A0 c0 x.2 w6 HC6.out hc6 HCX6.out hc0 (by have := HL6.out; have := HOX.out.2; omega)).mono ?_
      rintro e w7 ⟨v7, rfl, ho, hb⟩
      refine ⟨_, rfl, ?_⟩
      have HO7 := Aside0.mk (Kd.R_lower ho (Nat.le_trans HB.out.size hHeld.size))
      have hS1 := below_step hHeld hb
      clear ho hb
      refine hK.out _ _ (by exact hS1) (fun hHeld => ?_)
      clear hK K
      refine norm_ (a' := ?_) ?_ ?_
      rotate_left
      · first
        | (show Act.put _ (some 23) _ = _; simp only [Act.put, List.setIfInBounds_toArray, List.set_cons_zero, List.set_cons_succ, i64_w, i32_w]; rfl)
        | rfl
      refine pure_ (i := 8) (N := some 3) (v := ?_) (a' := ?_) #[true, true, true, true, true, true, true, true, true] rfl rfl (any_of HT_.out (by kernel_rfl)) (fun _ _ _ h => h) (Or.inl ⟨by rfl, ?_⟩) ?_ ?_
      rotate_left
      · intro w'
        go_simp
        with_reducible rfl
      rotate_left
      · simp only [Act.put, List.setIfInBounds_toArray, List.set_cons_zero, List.set_cons_succ, i64_w, i32_w]
        rfl
      refine done_ (done_of HT_.out (by kernel_rfl)) ?_
      have HBN := Aside0.mk (below_step HB.out hHeld)
      clear hS0 hHeld HT_ HW_
      go_wp2
      go_roundw
      case rel => exact ⟨k + 1, by omega, by first | rfl | go_num, by rw [HTK.out]; exact HO7, HBN⟩
      case measure => simp [intOf]; omega
    · obtain rfl : k = xs.length := by omega
      have HV := Aside0.mk (show formL xs.length ++ ((xs.take xs.length).map fileB).flatten = treeB xs by rw [List.take_length]; rfl)
      rw [HV.out] at HO
      clear hlt hk
      go_wp2
      go_ret
      exact ⟨_, rfl, HO.out, HB.out⟩
end Go.Proofs.YtlojemnmdakfiaaDoor.Tr
end
section
namespace Go.Proofs.YtlojemnmdakfiaaDoor.Sha
open Go.RowKit Go.Proofs.YtlojemnmdakfiaaDoorW.PrintWords Go.Proofs.YtlojemnmdakfiaaDoorW.PrintLast Go.Proofs.YtlojemnmdakfiaaDoorW.PrintMore
set_option linter.unusedVariables false
set_option linter.unusedSimpArgs false
theorem ival {k : IntKind} {a b : Int} (h : a = b) : Value.int k a = .int k b := by rw [h]
theorem cell_of {w : World} {g : Nat} {cur : Array Value} {t : TypeId} (h : w.heap[g]? = some (.cells cur t (0, 0))) {j : Nat} {u : Value} : w.cell? ⟨g, j, none⟩ = some u ↔ cur[j]? = some u := by
  simp [World.cell?, h]
theorem heap_keep {w w' : World} {h : Nat} {o : Obj} (hh : w.heap[h]? = some o) (hb : Below w.heap.size w w') : w'.heap[h]? = some o := (hb.block h (Array.getElem?_eq_some_iff.1 hh).1).trans hh
theorem heap_new (w : World) (o : Obj) : (w.alloc o).heap[w.heap.size]? = some o := by
  show (w.heap.push o)[w.heap.size]? = some o
  simp
theorem heap_new' (w : World) (o : Obj) (n : Nat) (h : n = w.heap.size) : (w.alloc o).heap[n]? = some o := by
  subst h
  exact heap_new w o
def turnI (x : Int) (n : Nat) : Int := bits .or .u32 (x / 2 ^ n) (x * 2 ^ (32 - n) % 4294967296)
theorem amount (n : Nat) (h0 : 0 < n) (h1 : n < 32) : bits .and .u64 (IntKind.u64.wrap (-(n : Int))) 31 = ((32 - n : Nat) : Int) := by
  have key : ∀ n : Fin 32, 0 < n.val → bits .and .u64 (IntKind.u64.wrap (-(n.val : Int))) 31 = ((32 - n.val : Nat) : Int) := by decide +kernel
  exact key ⟨n, h1⟩ h0
theorem or_comm (a b : Int) : bits .or .u32 a b = bits .or .u32 b a := by
  show IntKind.u32.wrap ((BitVec.ofInt 32 a ||| BitVec.ofInt 32 b).toNat : Int) = IntKind.u32.wrap ((BitVec.ofInt 32 b ||| BitVec.ofInt 32 a).toNat : Int)
  rw [BitVec.or_comm]
set_option maxHeartbeats 800000 in
theorem rotl_calls (x : Int) (n : Nat) (h0 : 0 < n) (h1 : n < 32) (w : World) : Calls Tryd.prog 77 #[.int .u32 x, .int .i64 (-(n : Int))] w fun e w' => e = .returned (.int .u32 (turnI x n)) ∧ w' = w := by
  have ha := amount n h0 h1
  generalize hm : 32 - n = m at ha
  have hm1 : m ≤ 32 := by omega
  have hm0 : 0 ≤ (m : Int) := by omega
  have hs : IntKind.u64.wrap (32 - (m : Int)) = (n : Int) := by simp [IntKind.wrap, IntKind.bits, IntKind.signed]; omega
  have hn0 : 0 ≤ (n : Int) := by omega
  have hn1 : (n : Int) ≤ 32 := by omega
  have hm2 : (m : Int) ≤ 32 := by omega
  go_enter Tryd.func77, Tryd.ntmps77
  go_wp2
  go_ret
  exact ⟨by rw [or_comm, ← hm]; rfl, rfl⟩
theorem right_calls (x : Int) (n : Nat) (h0 : 0 < n) (h1 : n < 32) (w : World) : Calls Tryd.prog 74 #[.int .u32 x, .int .i64 (n : Int)] w fun e w' => e = .returned (.int .u32 (turnI x n)) ∧ w' = w := by
  go_enter Tryd.func74, Tryd.ntmps74
  go_wp2_with fail
  refine (rotl_calls x n h0 h1 _).mono ?_
  rintro e w1 ⟨rfl, rfl⟩
  go_wp2
  go_ret
  exact ⟨rfl, rfl⟩
abbrev B := Kd.int .u8
theorem getB {w : World} {A : Option Addr} {n : Nat} {xs : List Int} (h : B.C w A n xs) (k : Nat) (hk : k < n) : ∃ ad, A = some ad ∧ w.cell? (ad.add k) = some (.int .u8 (rd xs (k : Int))) := by
  obtain ⟨ad, e, hx⟩ := Kd.at_int h (k : Int) (by omega) (by omega)
  exact ⟨ad, e, by simpa using hx⟩
def bytes (l : List Int) : Prop := ∀ x ∈ l, 0 ≤ x ∧ x < 256
theorem bytes_rd {l : List Int} (h : bytes l) (k : Nat) (hk : k < l.length) : 0 ≤ rd l (k : Int) ∧ rd l (k : Int) < 256 := by
  unfold rd
  rw [Int.toNat_natCast, List.getD_eq_getElem?_getD, List.getElem?_eq_getElem hk]
  exact h _ (List.getElem_mem hk)
abbrev S8 := Int × Int × Int × Int × Int × Int × Int × Int
abbrev c8 (s : S8) : Array Value := #[.int .u32 s.1, .int .u32 s.2.1, .int .u32 s.2.2.1, .int .u32 s.2.2.2.1, .int .u32 s.2.2.2.2.1, .int .u32 s.2.2.2.2.2.1, .int .u32 s.2.2.2.2.2.2.1, .int .u32 s.2.2.2.2.2.2.2]
abbrev v8 (s : S8) : Value := .agg (c8 s)
def cw (xs : List Int) : Array Value := (xs.map (Value.int .u32)).toArray
theorem cw_get {xs : List Int} {j : Nat} (h : j < xs.length) : (cw xs)[j]? = some (.int .u32 (rd xs (j : Int))) := by
  unfold cw rd
  rw [Int.toNat_natCast, List.getD_eq_getElem?_getD, List.getElem?_toArray, List.getElem?_map, List.getElem?_eq_getElem h]
  rfl
theorem cw_set (xs : List Int) (j : Nat) (x : Int) : (cw xs).setIfInBounds j (.int .u32 x) = cw (xs.set j x) := by
  unfold cw
  rw [List.setIfInBounds_toArray, List.map_set]
def wordI (a b c d : Int) : Int := ((a * 256 + b) * 256 + c) * 256 + d
def ld (l : List Int) : Nat → List Int
  | 0 => List.replicate 64 0
  | t + 1 => (ld l t).set t (wordI (rd l ((4 * t : Nat) : Int)) (rd l ((4 * t + 1 : Nat) : Int)) (rd l ((4 * t + 2 : Nat) : Int)) (rd l ((4 * t + 3 : Nat) : Int)))
theorem ld_len (l : List Int) (t : Nat) : (ld l t).length = 64 := by
  induction t with
  | zero => simp [ld]
  | succ t ih => simp [ld, ih]
structure St (w0 w : World) (s z : Array Value) (xs : List Int) : Prop where
  s : w.heap[w0.heap.size]? = some (.cells s 59 (0, 0))
  z : w.heap[w0.heap.size + 1]? = some (.cells z 59 (0, 0))
  x : w.heap[w0.heap.size + 1 + 1]? = some (.cells (cw xs) 60 (0, 0))
  b : Below w0.heap.size w0 w
theorem St.drew {w0 w : World} {s z : Array Value} {xs : List Int} (h : St w0 w s z xs) : St w0 w.drew s z xs := ⟨h.s, h.z, h.x, below_drew1 h.b⟩
theorem St.set {w0 w : World} {s z : Array Value} {xs : List Int} (h : St w0 w s z xs) (j : Nat) (x : Int) : St w0 (w.setCell ⟨w0.heap.size + 1 + 1, j, none⟩ (.int .u32 x)) s z (xs.set j x) :=
  ⟨blk_far h.s (p := ⟨w0.heap.size + 1 + 1, j, none⟩) (by show _ ≠ _; simp; omega) _, blk_far h.z (p := ⟨w0.heap.size + 1 + 1, j, none⟩) (by show _ ≠ _; simp) _, by rw [← cw_set]; exact blk_set h.x j _, h.b.setCell (p := ⟨w0.heap.size + 1 + 1, j, none⟩) (by show w0.heap.size ≤ w0.heap.size + 1 + 1; omega) _⟩
theorem St.setS {w0 w : World} {s z : Array Value} {xs : List Int} (h : St w0 w s z xs) (j : Nat) (v : Value) : St w0 (w.setCell ⟨w0.heap.size, j, none⟩ v) (s.setIfInBounds j v) z xs :=
  ⟨blk_set h.s j _, blk_far h.z (p := ⟨w0.heap.size, j, none⟩) (by show _ ≠ _; simp) _, blk_far h.x (p := ⟨w0.heap.size, j, none⟩) (by show _ ≠ _; simp; omega) _, h.b.setCell (p := ⟨w0.heap.size, j, none⟩) (Nat.le_refl _) _⟩
theorem St.setZ {w0 w : World} {s z : Array Value} {xs : List Int} (h : St w0 w s z xs) (j : Nat) (v : Value) : St w0 (w.setCell ⟨w0.heap.size + 1, j, none⟩ v) s (z.setIfInBounds j v) xs :=
  ⟨blk_far h.s (p := ⟨w0.heap.size + 1, j, none⟩) (by show _ ≠ _; simp) _, blk_set h.z j _, blk_far h.x (p := ⟨w0.heap.size + 1, j, none⟩) (by show _ ≠ _; simp) _, h.b.setCell (p := ⟨w0.heap.size + 1, j, none⟩) (by show w0.heap.size ≤ w0.heap.size + 1; omega) _⟩
theorem St.frozenS {w0 w : World} {s z : Array Value} {xs : List Int} (h : St w0 w s z xs) (j : Nat) : w.frozen? ⟨w0.heap.size, j, none⟩ = false := by simp [World.frozen?, h.s]
theorem St.frozenZ {w0 w : World} {s z : Array Value} {xs : List Int} (h : St w0 w s z xs) (j : Nat) : w.frozen? ⟨w0.heap.size + 1, j, none⟩ = false := by simp [World.frozen?, h.z]
theorem St.frozen {w0 w : World} {s z : Array Value} {xs : List Int} (h : St w0 w s z xs) (j : Nat) : w.frozen? ⟨w0.heap.size + 1 + 1, j, none⟩ = false := by simp [World.frozen?, h.x]
abbrev add32 (a b : Int) : Int := IntKind.u32.wrap (a + b)
abbrev xor32 (a b : Int) : Int := bits .xor .u32 a b
abbrev and32 (a b : Int) : Int := bits .and .u32 a b
abbrev not32 (a : Int) : Int := bits .xor .u32 4294967295 a
def wordP (a b c d : Int) : Int := bits .or .u32 (bits .or .u32 (bits .or .u32 (IntKind.u32.wrap (IntKind.u32.wrap a * 16777216)) (IntKind.u32.wrap (IntKind.u32.wrap b * 65536))) (IntKind.u32.wrap (IntKind.u32.wrap c * 256))) (IntKind.u32.wrap d)
theorem wraps_u32 (n : Int) (h₀ : 0 ≤ n) (h₁ : n < 2 ^ 32) : IntKind.u32.wrap n = n := by rw [IntKind.wrap_u32]; omega
theorem wordP_eq (a b c d : Int) (a0 : 0 ≤ a) (a1 : a < 256) (b0 : 0 ≤ b) (b1 : b < 256) (c0 : 0 ≤ c) (c1 : c < 256) (d0 : 0 ≤ d) (d1 : d < 256) : wordP a b c d = wordI a b c d := by
  unfold wordP wordI
  rw [wraps_u32 a (by omega) (by omega), wraps_u32 b (by omega) (by omega), wraps_u32 c (by omega) (by omega), wraps_u32 d (by omega) (by omega), wraps_u32 (a * 16777216) (by omega) (by omega), wraps_u32 (b * 65536) (by omega) (by omega), wraps_u32 (c * 256) (by omega) (by omega)]
  rw [bits_join .u32 32 (by decide) wraps_u32 24 (a * 16777216) (b * 65536) (by omega) (by omega) (by omega) (by omega) (by omega) (by omega)]
  rw [bits_join .u32 32 (by decide) wraps_u32 16 (a * 16777216 + b * 65536) (c * 256) (by omega) (by omega) (by omega) (by omega) (by omega) (by omega)]
  rw [bits_join .u32 32 (by decide) wraps_u32 8 (a * 16777216 + b * 65536 + c * 256) d (by omega) (by omega) (by omega) (by omega) (by omega) (by omega)]
  omega
def schW (a x c y : Int) : Int := add32 (add32 (add32 a (xor32 (xor32 (turnI x 7) (turnI x 18)) (x / 8))) c) (xor32 (xor32 (turnI y 17) (turnI y 19)) (y / 1024))
def sch (l : List Int) : Nat → List Int
  | 0 => ld l 16
  | n + 1 => (sch l n).set (16 + n) (schW (rd (sch l n) ((n : Nat) : Int)) (rd (sch l n) ((n + 1 : Nat) : Int)) (rd (sch l n) ((n + 9 : Nat) : Int)) (rd (sch l n) ((n + 14 : Nat) : Int)))
theorem sch_len (l : List Int) (n : Nat) : (sch l n).length = 64 := by
  induction n with
  | zero => simp [sch, ld_len]
  | succ n ih => simp [sch, ih]
def t1I (e f g h k w : Int) : Int := add32 (add32 (add32 (add32 h (xor32 (xor32 (turnI e 6) (turnI e 11)) (turnI e 25))) (xor32 (and32 e f) (and32 (not32 e) g))) k) w
def t2I (a b c : Int) : Int := add32 (xor32 (xor32 (turnI a 2) (turnI a 13)) (turnI a 22)) (xor32 (xor32 (and32 a b) (and32 a c)) (and32 b c))
def rnd (k w : Int) (s : S8) : S8 :=
  (add32 (t1I s.2.2.2.2.1 s.2.2.2.2.2.1 s.2.2.2.2.2.2.1 s.2.2.2.2.2.2.2 k w) (t2I s.1 s.2.1 s.2.2.1), s.1, s.2.1, s.2.2.1, add32 s.2.2.2.1 (t1I s.2.2.2.2.1 s.2.2.2.2.2.1 s.2.2.2.2.2.2.1 s.2.2.2.2.2.2.2 k w), s.2.2.2.2.1, s.2.2.2.2.2.1, s.2.2.2.2.2.2.1)
def rnds (ks ws : List Int) (s : S8) : Nat → S8
  | 0 => s
  | n + 1 => rnd (rd ks (n : Int)) (rd ws (n : Int)) (rnds ks ws s n)
def mix (s r : S8) : Nat → S8
  | 0 => s
  | 1 => (add32 s.1 r.1, s.2)
  | 2 => (add32 s.1 r.1, add32 s.2.1 r.2.1, s.2.2)
  | 3 => (add32 s.1 r.1, add32 s.2.1 r.2.1, add32 s.2.2.1 r.2.2.1, s.2.2.2)
  | 4 => (add32 s.1 r.1, add32 s.2.1 r.2.1, add32 s.2.2.1 r.2.2.1, add32 s.2.2.2.1 r.2.2.2.1, s.2.2.2.2)
  | 5 => (add32 s.1 r.1, add32 s.2.1 r.2.1, add32 s.2.2.1 r.2.2.1, add32 s.2.2.2.1 r.2.2.2.1, add32 s.2.2.2.2.1 r.2.2.2.2.1, s.2.2.2.2.2)
  | 6 => (add32 s.1 r.1, add32 s.2.1 r.2.1, add32 s.2.2.1 r.2.2.1, add32 s.2.2.2.1 r.2.2.2.1, add32 s.2.2.2.2.1 r.2.2.2.2.1, add32 s.2.2.2.2.2.1 r.2.2.2.2.2.1, s.2.2.2.2.2.2)
  | 7 => (add32 s.1 r.1, add32 s.2.1 r.2.1, add32 s.2.2.1 r.2.2.1, add32 s.2.2.2.1 r.2.2.2.1, add32 s.2.2.2.2.1 r.2.2.2.2.1, add32 s.2.2.2.2.2.1 r.2.2.2.2.2.1, add32 s.2.2.2.2.2.2.1 r.2.2.2.2.2.2.1, s.2.2.2.2.2.2.2)
  | _ + 8 => (add32 s.1 r.1, add32 s.2.1 r.2.1, add32 s.2.2.1 r.2.2.1, add32 s.2.2.2.1 r.2.2.2.1, add32 s.2.2.2.2.1 r.2.2.2.2.1, add32 s.2.2.2.2.2.1 r.2.2.2.2.2.1, add32 s.2.2.2.2.2.2.1 r.2.2.2.2.2.2.1, add32 s.2.2.2.2.2.2.2 r.2.2.2.2.2.2.2)
def kTab : List Int := [1116352408, 1899447441, 3049323471, 3921009573, 961987163, 1508970993, 2453635748, 2870763221, 3624381080, 310598401, 607225278, 1426881987, 1925078388, 2162078206, 2614888103, 3248222580, 3835390401, 4022224774, 264347078, 604807628, 770255983, 1249150122, 1555081692, 1996064986, 2554220882, 2821834349, 2952996808, 3210313671, 3336571891, 3584528711, 113926993, 338241895, 666307205, 773529912, 1294757372, 1396182291, 1695183700, 1986661051, 2177026350, 2456956037, 2730485921, 2820302411, 3259730800, 3345764771, 3516065817, 3600352804, 4094571909, 275423344, 430227734, 506948616, 659060556, 883997877, 958139571, 1322822218, 1537002063, 1747873779, 1955562222, 2024104815, 2227730452, 2361852424, 2428436474, 2756734187, 3204031479, 3329325298]
def fTab : List Int := [1779033703, 3144134277, 1013904242, 2773480762, 1359893119, 2600822924, 528734635, 1541459225]
structure Tab (w : World) : Prop where
  pos : 3 ≤ w.heap.size
  k : ∀ i : Nat, i < 64 → w.cell? ⟨2, i, none⟩ = some (.int .u32 (rd kTab (i : Int)))
  f : ∀ i : Nat, i < 8 → w.cell? ⟨0, i, none⟩ = some (.int .u32 (rd fTab (i : Int)))
theorem Tab.below {w w' : World} (h : Tab w) (hb : Below w.heap.size w w') : Tab w' :=
  ⟨Nat.le_trans h.pos hb.size, fun i hi => (hb.cell (World.block_lt_of_cell? w _ (h.k i hi))).trans (h.k i hi), fun i hi => (hb.cell (World.block_lt_of_cell? w _ (h.f i hi))).trans (h.f i hi)⟩
def blockI (s : S8) (l : List Int) : S8 := mix s (rnds kTab (sch l 48) s 64) 8
structure G4 (wr : World) (g : Nat) (k p16 p15 p7 p2 : Nat) (a x c y z : Int) : Prop where
  g16 : ∀ w' : World, w'.heap = wr.heap → w'.cell? ⟨g, p16, none⟩ = some (.int .u32 a)
  g15 : ∀ w' : World, w'.heap = wr.heap → w'.cell? ⟨g, p15, none⟩ = some (.int .u32 x)
  g7 : ∀ w' : World, w'.heap = wr.heap → w'.cell? ⟨g, p7, none⟩ = some (.int .u32 c)
  g2 : ∀ w' : World, w'.heap = wr.heap → w'.cell? ⟨g, p2, none⟩ = some (.int .u32 y)
  gk : ∀ w' : World, w'.heap = wr.heap → w'.cell? ⟨g, k, none⟩ = some (.int .u32 z)
  fr : ∀ w' : World, w'.heap = wr.heap → w'.frozen? ⟨g, k, none⟩ = false
structure L4 (w : World) (ad : Addr) (q0 q1 q2 q3 : Nat) (y0 y1 y2 y3 : Int) : Prop where
  l0 : ∀ w', Below w.heap.size w w' → w'.cell? (ad.add q0) = some (.int .u8 y0)
  l1 : ∀ w', Below w.heap.size w w' → w'.cell? (ad.add q1) = some (.int .u8 y1)
  l2 : ∀ w', Below w.heap.size w w' → w'.cell? (ad.add q2) = some (.int .u8 y2)
  l3 : ∀ w', Below w.heap.size w w' → w'.cell? (ad.add q3) = some (.int .u8 y3)
theorem getB' {w w' : World} {ad : Addr} {n : Nat} {xs : List Int} (h : B.C w (some ad) n xs) (hb : Below w.heap.size w w') (k : Nat) (hk : k < n) : w'.cell? (ad.add k) = some (.int .u8 (rd xs (k : Int))) := by
  obtain ⟨ad', e, hx⟩ := getB (Kd.C_below h hb) k hk
  cases e
  exact hx
theorem L4.of {w : World} {ad : Addr} {l : List Int} (h : B.C w (some ad) l.length l) (q0 q1 q2 q3 : Nat) (h0 : q0 < l.length) (h1 : q1 < l.length) (h2 : q2 < l.length) (h3 : q3 < l.length) : L4 w ad q0 q1 q2 q3 (rd l (q0 : Int)) (rd l (q1 : Int)) (rd l (q2 : Int)) (rd l (q3 : Int)) :=
  ⟨fun w' hb => getB' h hb _ h0, fun w' hb => getB' h hb _ h1, fun w' hb => getB' h hb _ h2, fun w' hb => getB' h hb _ h3⟩
theorem St.start (w : World) (s z : Array Value) : St w (((w.alloc (.cells s 59)).alloc (.cells z 59)).alloc (.cells (cw (List.replicate 64 0)) 60)) s z (List.replicate 64 0) :=
  ⟨by rw [Below.heap_alloc _ _ _ (by simp; omega), Below.heap_alloc _ _ _ (by simp)]; exact heap_new _ _, by rw [Below.heap_alloc _ _ _ (by simp)]; exact heap_new' _ _ _ (by simp), heap_new' _ _ _ (by simp), (((Below.refl w.heap.size w).alloc (Nat.le_refl _) _).alloc (by simp) _).alloc (by simp; omega) _⟩
theorem St.setZ8 {w0 w : World} {s : Array Value} {xs : List Int} {a b c d e f g h : Int} (H : St w0 w s (c8 (a, b, c, d, e, f, g, h)) xs) (r0 r1 r2 r3 r4 r5 r6 r7 : Int) :
    St w0 ((((((((w.setCell ⟨w0.heap.size + 1, 0, none⟩ (.int .u32 r0)).setCell ⟨w0.heap.size + 1, 1, none⟩ (.int .u32 r1)).setCell ⟨w0.heap.size + 1, 2, none⟩ (.int .u32 r2)).setCell ⟨w0.heap.size + 1, 3, none⟩ (.int .u32 r3)).setCell ⟨w0.heap.size + 1, 4, none⟩ (.int .u32 r4)).setCell ⟨w0.heap.size + 1, 5, none⟩ (.int .u32 r5)).setCell ⟨w0.heap.size + 1, 6, none⟩ (.int .u32 r6)).setCell ⟨w0.heap.size + 1, 7, none⟩ (.int .u32 r7)) s (c8 (r0, r1, r2, r3, r4, r5, r6, r7)) xs := by
  have h := (((((((H.setZ 0 (.int .u32 r0)).setZ 1 (.int .u32 r1)).setZ 2 (.int .u32 r2)).setZ 3 (.int .u32 r3)).setZ 4 (.int .u32 r4)).setZ 5 (.int .u32 r5)).setZ 6 (.int .u32 r6)).setZ 7 (.int .u32 r7)
  simpa using h
end Go.Proofs.YtlojemnmdakfiaaDoor.Sha
end
section
namespace Go.Proofs.YtlojemnmdakfiaaDoor.Sha
open Go.RowKit Go.Proofs.YtlojemnmdakfiaaDoorW.PrintWords Go.Proofs.YtlojemnmdakfiaaDoorW.PrintLast Go.Proofs.YtlojemnmdakfiaaDoorW.PrintMore
set_option linter.unusedVariables false
set_option linter.unusedSimpArgs false
def blk_T10 : Bool × List (List Nat × List Nat) := (true, [([], []), ([0], [0]), ([1], [1]), ([2], [2]), ([], []), ([4], [4]), ([5], [5]), ([6], [6]), ([3, 0, 1, 2, 3], [3]), ([7, 8, 0, 1, 2, 3, 4, 5, 6, 7, 8], [7])])
def blk_B10 : List Nat := [0, 1, 3, 7, 0, 16, 48, 112, 15, 511]
theorem blk_tab10 : rtab .any (opsOf Tryd.f60 10) = blk_T10 := by kernel_rfl
theorem blk_bits10 : waitsOk blk_T10.2 blk_B10 = true := by kernel_rfl
def blk_T11 : Bool × List (List Nat × List Nat) := (true, [([], []), ([], []), ([1], [1]), ([2], [2]), ([3], [3]), ([], []), ([5], [5]), ([], []), ([7, 6], [7]), ([6, 8], [6, 8]), ([], []), ([10], [10]), ([9, 11], [9, 11]), ([4, 12], [4, 12]), ([], []), ([14], [14]), ([15], [15]), ([16], [16]), ([13, 17], [13, 17]), ([], []), ([19, 8], [19]), ([], []), ([21, 20], [21]), ([20, 22], [20, 22]), ([], []), ([24], [24]), ([23, 25], [23, 25]), ([18, 26], [18, 26]), ([0, 0, 1, 2, 3, 4, 5, 6, 7, 8, 9, 10, 11, 12, 13, 14, 15, 16, 17, 18, 19, 20, 21, 22, 23, 24, 25, 26, 27], [0]), ([28, 27, 22, 0, 1, 2, 3, 4, 5, 6, 7, 8, 9, 10, 11, 12, 13, 14, 15, 16, 17, 18, 19, 20, 21, 22, 23, 24, 25, 26, 27], [27, 28])])
def blk_B11 : List Nat := [0, 0, 2, 6, 14, 0, 32, 0, 224, 480, 0, 1024, 4064, 8190, 0, 16384, 49152, 114688, 262142, 0, 524768, 0, 3670496, 7864800, 0, 16777216, 66585056, 134217726, 268435455, 536870911]
theorem blk_tab11 : rtab .any (opsOf Tryd.f60 11) = blk_T11 := by kernel_rfl
theorem blk_bits11 : waitsOk blk_T11.2 blk_B11 = true := by kernel_rfl
def blk_T12 : Bool × List (List Nat × List Nat) := (true, [([], []), ([0], [0]), ([], []), ([2], [2]), ([], []), ([4], [4]), ([], []), ([6], [6]), ([], []), ([8], [8]), ([], []), ([10], [10]), ([], []), ([12], [12]), ([], []), ([14], [14]), ([1, 0, 1], [1]), ([3, 16, 0, 1, 2, 3, 16], [3]), ([5, 17, 0, 1, 2, 3, 4, 5, 16, 17], [5]), ([7, 18, 0, 1, 2, 3, 4, 5, 6, 7, 16, 17, 18], [7]), ([9, 19, 0, 1, 2, 3, 4, 5, 6, 7, 8, 9, 16, 17, 18, 19], [9]), ([11, 20, 0, 1, 2, 3, 4, 5, 6, 7, 8, 9, 10, 11, 16, 17, 18, 19, 20], [11]), ([13, 21, 0, 1, 2, 3, 4, 5, 6, 7, 8, 9, 10, 11, 12, 13, 16, 17, 18, 19, 20, 21], [13]), ([15, 22, 0, 1, 2, 3, 4, 5, 6, 7, 8, 9, 10, 11, 12, 13, 14, 15, 16, 17, 18, 19, 20, 21, 22], [15])])
def blk_B12 : List Nat := [0, 1, 0, 4, 0, 16, 0, 64, 0, 256, 0, 1024, 0, 4096, 0, 16384, 3, 65551, 196671, 459007, 984063, 2035711, 4145151, 8388607]
theorem blk_tab12 : rtab .any (opsOf Tryd.f60 12) = blk_T12 := by kernel_rfl
theorem blk_bits12 : waitsOk blk_T12.2 blk_B12 = true := by kernel_rfl
def blk_T16 : Bool × List (List Nat × List Nat) := (true, [([], []), ([], []), ([1], [1]), ([], []), ([3, 2], [3]), ([2, 4], [2, 4]), ([], []), ([6, 4], [6]), ([5, 7], [5, 7]), ([0, 8], [0, 8]), ([], []), ([], []), ([10, 11], [10, 11]), ([], []), ([13], [13]), ([], []), ([14, 15], [14, 15]), ([12, 16], [12, 16]), ([9, 17], [9, 17]), ([], []), ([19], [19]), ([20], [20]), ([18, 21], [18, 21]), ([], []), ([23], [23]), ([24], [24]), ([22, 25], [22, 25]), ([26, 7, 0, 1, 2, 3, 4, 5, 6, 7, 8, 9, 10, 11, 12, 13, 14, 15, 16, 17, 18, 19, 20, 21, 22, 23, 24, 25, 26], [26])])
def blk_B16 : List Nat := [0, 0, 2, 0, 14, 30, 0, 94, 254, 511, 0, 0, 3072, 0, 8192, 0, 57344, 130048, 262143, 0, 524288, 1572864, 4194303, 0, 8388608, 25165824, 67108863, 134217727]
theorem blk_tab16 : rtab .any (opsOf Tryd.f60 16) = blk_T16 := by kernel_rfl
theorem blk_bits16 : waitsOk blk_T16.2 blk_B16 = true := by kernel_rfl
def blk_T5 : Bool × List (List Nat × List Nat) := (true, [([], []), ([], []), ([], []), ([2], [2]), ([1, 3], [1, 3]), ([4], [4]), ([5], [5]), ([6], [6]), ([], []), ([], []), ([9], [9]), ([10], [10]), ([8, 11], [8, 11]), ([12], [12]), ([13], [13]), ([14], [14]), ([7, 15], [7, 15]), ([], []), ([], []), ([18], [18]), ([19], [19]), ([17, 20], [17, 20]), ([21], [21]), ([22], [22]), ([23], [23]), ([16, 24], [16, 24]), ([], []), ([], []), ([27], [27]), ([28], [28]), ([26, 29], [26, 29]), ([30], [30]), ([31], [31]), ([25, 32], [25, 32]), ([0, 0, 1, 2, 3, 4, 5, 6, 7, 8, 9, 10, 11, 12, 13, 14, 15, 16, 17, 18, 19, 20, 21, 22, 23, 24, 25, 26, 27, 28, 29, 30, 31, 32, 33], [0]), ([34, 33, 0, 1, 2, 3, 4, 5, 6, 7, 8, 9, 10, 11, 12, 13, 14, 15, 16, 17, 18, 19, 20, 21, 22, 23, 24, 25, 26, 27, 28, 29, 30, 31, 32, 33], [33, 34])])
def blk_B5 : List Nat := [0, 0, 0, 4, 14, 30, 62, 126, 0, 0, 512, 1536, 3840, 7936, 16128, 32512, 65534, 0, 0, 262144, 786432, 1966080, 4063232, 8257536, 16646144, 33554430, 0, 0, 134217728, 402653184, 1006632960, 2080374784, 4227858432, 8589934590, 17179869183, 34359738367]
theorem blk_tab5 : rtab .any (opsOf Tryd.f60 5) = blk_T5 := by kernel_rfl
theorem blk_bits5 : waitsOk blk_T5.2 blk_B5 = true := by kernel_rfl
set_option maxHeartbeats 1600000 in
set_option maxRecDepth 100000 in
theorem block_calls (s : S8) (A : Option Addr) (c : Nat) (l : List Int) (w : World) (hr : B.C w A l.length l) (hc : l.length ≤ c) (hb : bytes l) (h64 : 64 ≤ l.length) (hT : Tab w) :
    Calls Tryd.prog 60 #[v8 s, .slice A l.length c] w fun e w' => e = .returned (v8 (blockI s l)) ∧ Below w.heap.size w w' := by
  obtain ⟨ad, rfl, _⟩ := getB hr 0 (by omega)
  have HR := Aside0.mk hr
  have HY := Aside0.mk hb
  have hl63 : l.length ≤ 9223372036854775807 := hr.2.1
  have HTAB := Aside0.mk hT
  clear hr hb hT
  have HBLK := Aside0.mk (show blockI s l = mix s (rnds kTab (sch l 48) s 64) 8 from rfl)
  generalize blockI s l = R at HBLK ⊢
  obtain ⟨s0, s1, s2, s3, s4, s5, s6, s7⟩ := s
  go_enter Tryd.func60, Tryd.ntmps60
  go_wp2
  go_loopw [23] (fun i wr => ∃ k : Nat, k ≤ 16 ∧ i = .int .i64 k ∧ Aside0 (St w wr (c8 (s0, s1, s2, s3, s4, s5, s6, s7)) (c8 (0, 0, 0, 0, 0, 0, 0, 0)) (ld l k))) (fun i _ => 16 - (intOf i).toNat)
  case atStart => exact ⟨0, Nat.zero_le _, rfl, ⟨St.start w _ _⟩⟩
  case round =>
    obtain ⟨k, hk, rfl, HS⟩ := hrel
    by_cases hlt : k < 16
    · obtain ⟨q, hq⟩ : ∃ q, q = 4 * k := ⟨_, rfl⟩
      obtain ⟨q1, hq1⟩ : ∃ q1, q1 = 4 * k + 1 := ⟨_, rfl⟩
      obtain ⟨q2, hq2⟩ : ∃ q2, q2 = 4 * k + 2 := ⟨_, rfl⟩
      obtain ⟨q3, hq3⟩ : ∃ q3, q3 = 4 * k + 3 := ⟨_, rfl⟩
      have hb0 : q < l.length := by omega
      have hb1 : q1 < l.length := by omega
      have hb2 : q2 < l.length := by omega
      have hb3 : q3 < l.length := by omega
      have HL := Aside0.mk (L4.of HR.out q q1 q2 q3 hb0 hb1 hb2 hb3)
      have HW := Aside0.mk (show IntKind.i64.wrap (4 * (k : Int)) = (q : Int) by simp [IntKind.wrap, IntKind.bits, IntKind.signed]; omega)
      have HW1 := Aside0.mk (show IntKind.i64.wrap ((q : Int) + 1) = (q1 : Int) by simp [IntKind.wrap, IntKind.bits, IntKind.signed]; omega)
      have HW2 := Aside0.mk (show IntKind.i64.wrap ((q : Int) + 2) = (q2 : Int) by simp [IntKind.wrap, IntKind.bits, IntKind.signed]; omega)
      have HW3 := Aside0.mk (show IntKind.i64.wrap ((q : Int) + 3) = (q3 : Int) by simp [IntKind.wrap, IntKind.bits, IntKind.signed]; omega)
      obtain ⟨y00, y01⟩ := bytes_rd HY.out q hb0
      obtain ⟨y10, y11⟩ := bytes_rd HY.out q1 hb1
      obtain ⟨y20, y21⟩ := bytes_rd HY.out q2 hb2
      obtain ⟨y30, y31⟩ := bytes_rd HY.out q3 hb3
      have HN := Aside0.mk (show ld l (k + 1) = (ld l k).set k (wordI (rd l (q : Int)) (rd l (q1 : Int)) (rd l (q2 : Int)) (rd l (q3 : Int))) by rw [hq, hq1, hq2, hq3]; rfl)
      clear hq hq1 hq2 hq3 h64
      generalize rd l (q : Int) = y0 at *
      generalize rd l (q1 : Int) = y1 at *
      generalize rd l (q2 : Int) = y2 at *
      generalize rd l (q3 : Int) = y3 at *
      have hS0 : Below w.heap.size w wr.drew := HS.out.drew.b
      have hS1 := fun v => hS0.setCell (p := ⟨w.heap.size + 1 + 1, k, none⟩) (by show w.heap.size ≤ w.heap.size + 1 + 1; omega) v
      have hk64 : (k : Int) < 64 := by omega
      go_upto_region 5 with (fail)
      refine start_ (n := 36) (S := fun w' => Below w.heap.size w w') (ds := []) #[false, false, false, false, false, false, false, false, false, false, false, false, false, false, false, false, false, false, false, false, false, false, false, false, false, false, false, false, false, false, false, false, false, false, false, false] (by kernel_rfl) rfl rfl (by exact hS0) (fun hHeld => ?_)
      refine with_tabW blk_tab5 blk_bits5 (fun HT_ HW_ => ?_)
      refine pure_ (i := 0) (N := some 26) (v := ?_) (a' := ?_) #[true, false, false, false, false, false, false, false, false, false, false, false, false, false, false, false, false, false, false, false, false, false, false, false, false, false, false, false, false, false, false, false, false, false, false, false] rfl rfl (any_of HT_.out (by kernel_rfl)) (fun _ _ _ h => h) (Or.inl ⟨by rfl, ?_⟩) ?_ ?_
      rotate_left
      · intro w'
        go_simp
        with_reducible rfl
      rotate_left
      · simp only [Act.put, List.setIfInBounds_toArray, List.set_cons_zero, List.set_cons_succ, i64_w, i32_w]
        rfl
      refine pure_ (i := 1) (N := some 27) (v := ?_) (a' := ?_) #[true, true, false, false, false, false, false, false, false, false, false, false, false, false, false, false, false, false, false, false, false, false, false, false, false, false, false, false, false, false, false, false, false, false, false, false] rfl rfl (any_of HT_.out (by kernel_rfl)) (fun _ _ _ h => h) (Or.inl ⟨by rfl, ?_⟩) ?_ ?_
      rotate_left
      · intro w'
        go_simp
        with_reducible rfl
      rotate_left
      · simp only [Act.put, List.setIfInBounds_toArray, List.set_cons_zero, List.set_cons_succ, i64_w, i32_w]
        rfl
      refine pure_ (i := 2) (N := some 28) (v := ?_) (a' := ?_) #[true, true, true, false, false, false, false, false, false, false, false, false, false, false, false, false, false, false, false, false, false, false, false, false, false, false, false, false, false, false, false, false, false, false, false, false] rfl rfl (any_of HT_.out (by kernel_rfl)) (fun _ _ _ h => h) (Or.inl ⟨by rfl, ?_⟩) ?_ ?_
      rotate_left
      · intro w'
        go_simp
        with_reducible rfl
      rotate_left
      · simp only [Act.put, List.setIfInBounds_toArray, List.set_cons_zero, List.set_cons_succ, i64_w, i32_w]
        rfl
      refine pure_ (i := 3) (N := some 29) (v := ?_) (a' := ?_) #[true, true, true, true, false, false, false, false, false, false, false, false, false, false, false, false, false, false, false, false, false, false, false, false, false, false, false, false, false, false, false, false, false, false, false, false] rfl rfl (any_of HT_.out (by kernel_rfl)) (fun _ _ _ h => h) (Or.inl ⟨by rfl, ?_⟩) ?_ ?_
      rotate_left
      · intro w'
        go_simp
        rw [HW.out]
      rotate_left
      · simp only [Act.put, List.setIfInBounds_toArray, List.set_cons_zero, List.set_cons_succ, i64_w, i32_w]
        rfl
      refine pure_ (i := 4) (N := some 30) (v := ?_) (a' := ?_) #[true, true, true, true, true, false, false, false, false, false, false, false, false, false, false, false, false, false, false, false, false, false, false, false, false, false, false, false, false, false, false, false, false, false, false, false] rfl rfl (any_of HT_.out (by kernel_rfl)) (fun _ _ _ h => h) (Or.inl ⟨by rfl, ?_⟩) ?_ ?_
      rotate_left
      · intro w'
        go_simp
        with_reducible rfl
      rotate_left
      · simp only [Act.put, List.setIfInBounds_toArray, List.set_cons_zero, List.set_cons_succ, i64_w, i32_w]
        rfl
      refine take_ (i := 5) (N := some 31) (v := ?_) (a' := ?_) #[true, true, true, true, true, true, false, false, false, false, false, false, false, false, false, false, false, false, false, false, false, false, false, false, false, false, false, false, false, false, false, false, false, false, false, false] rfl rfl (take_ofW HT_.out HW_.out (by kernel_rfl)) (fun _ _ _ h => h) (Or.inl ⟨by rfl, ?_⟩) hHeld ?_ ?_
      rotate_left
      · intro w' hSt
        have hx := HL.out.l0 w' hSt
        go_simp
        with_reducible rfl
      rotate_left
      · simp only [Act.put, List.setIfInBounds_toArray, List.set_cons_zero, List.set_cons_succ, i64_w, i32_w]
        rfl
      refine pure_ (i := 6) (N := some 32) (v := ?_) (a' := ?_) #[true, true, true, true, true, true, true, false, false, false, false, false, false, false, false, false, false, false, false, false, false, false, false, false, false, false, false, false, false, false, false, false, false, false, false, false] rfl rfl (any_of HT_.out (by kernel_rfl)) (fun _ _ _ h => h) (Or.inl ⟨by rfl, ?_⟩) ?_ ?_
      rotate_left
      · intro w'
        go_simp
        with_reducible rfl
      rotate_left
      · simp only [Act.put, List.setIfInBounds_toArray, List.set_cons_zero, List.set_cons_succ, i64_w, i32_w]
        rfl
      refine pure_ (i := 7) (N := some 33) (v := ?_) (a' := ?_) #[true, true, true, true, true, true, true, true, false, false, false, false, false, false, false, false, false, false, false, false, false, false, false, false, false, false, false, false, false, false, false, false, false, false, false, false] rfl rfl (any_of HT_.out (by kernel_rfl)) (fun _ _ _ h => h) (Or.inl ⟨by rfl, ?_⟩) ?_ ?_
      rotate_left
      · intro w'
        go_simp
        with_reducible rfl
      rotate_left
      · simp only [Act.put, List.setIfInBounds_toArray, List.set_cons_zero, List.set_cons_succ, i64_w, i32_w]
        rfl
      refine pure_ (i := 8) (N := some 34) (v := ?_) (a' := ?_) #[true, true, true, true, true, true, true, true, true, false, false, false, false, false, false, false, false, false, false, false, false, false, false, false, false, false, false, false, false, false, false, false, false, false, false, false] rfl rfl (any_of HT_.out (by kernel_rfl)) (fun _ _ _ h => h) (Or.inl ⟨by rfl, ?_⟩) ?_ ?_
      rotate_left
      · intro w'
        go_simp
        with_reducible rfl
      rotate_left
      · simp only [Act.put, List.setIfInBounds_toArray, List.set_cons_zero, List.set_cons_succ, i64_w, i32_w]
        rfl
      refine pure_ (i := 9) (N := some 35) (v := ?_) (a' := ?_) #[true, true, true, true, true, true, true, true, true, true, false, false, false, false, false, false, false, false, false, false, false, false, false, false, false, false, false, false, false, false, false, false, false, false, false, false] rfl rfl (any_of HT_.out (by kernel_rfl)) (fun _ _ _ h => h) (Or.inl ⟨by rfl, ?_⟩) ?_ ?_
      rotate_left
      · intro w'
        go_simp
        with_reducible rfl
      rotate_left
      · simp only [Act.put, List.setIfInBounds_toArray, List.set_cons_zero, List.set_cons_succ, i64_w, i32_w]
        rfl
      refine pure_ (i := 10) (N := some 36) (v := ?_) (a' := ?_) #[true, true, true, true, true, true, true, true, true, true, true, false, false, false, false, false, false, false, false, false, false, false, false, false, false, false, false, false, false, false, false, false, false, false, false, false] rfl rfl (any_of HT_.out (by kernel_rfl)) (fun _ _ _ h => h) (Or.inl ⟨by rfl, ?_⟩) ?_ ?_
      rotate_left
      · intro w'
        go_simp
        rw [HW.out]
      rotate_left
      · simp only [Act.put, List.setIfInBounds_toArray, List.set_cons_zero, List.set_cons_succ, i64_w, i32_w]
        rfl
      refine pure_ (i := 11) (N := some 37) (v := ?_) (a' := ?_) #[true, true, true, true, true, true, true, true, true, true, true, true, false, false, false, false, false, false, false, false, false, false, false, false, false, false, false, false, false, false, false, false, false, false, false, false] rfl rfl (any_of HT_.out (by kernel_rfl)) (fun _ _ _ h => h) (Or.inl ⟨by rfl, ?_⟩) ?_ ?_
      rotate_left
      · intro w'
        go_simp
        rw [HW1.out]
      rotate_left
      · simp only [Act.put, List.setIfInBounds_toArray, List.set_cons_zero, List.set_cons_succ, i64_w, i32_w]
        rfl
      refine pure_ (i := 12) (N := some 38) (v := ?_) (a' := ?_) #[true, true, true, true, true, true, true, true, true, true, true, true, true, false, false, false, false, false, false, false, false, false, false, false, false, false, false, false, false, false, false, false, false, false, false, false] rfl rfl (any_of HT_.out (by kernel_rfl)) (fun _ _ _ h => h) (Or.inl ⟨by rfl, ?_⟩) ?_ ?_
      rotate_left
      · intro w'
        go_simp
        with_reducible rfl
      rotate_left
      · simp only [Act.put, List.setIfInBounds_toArray, List.set_cons_zero, List.set_cons_succ, i64_w, i32_w]
        rfl
      refine take_ (i := 13) (N := some 39) (v := ?_) (a' := ?_) #[true, true, true, true, true, true, true, true, true, true, true, true, true, true, false, false, false, false, false, false, false, false, false, false, false, false, false, false, false, false, false, false, false, false, false, false] rfl rfl (take_ofW HT_.out HW_.out (by kernel_rfl)) (fun _ _ _ h => h) (Or.inl ⟨by rfl, ?_⟩) hHeld ?_ ?_
      rotate_left
      · intro w' hSt
        have hx := HL.out.l1 w' hSt
        go_simp
        with_reducible rfl
      rotate_left
      · simp only [Act.put, List.setIfInBounds_toArray, List.set_cons_zero, List.set_cons_succ, i64_w, i32_w]
        rfl
      refine pure_ (i := 14) (N := some 40) (v := ?_) (a' := ?_) #[true, true, true, true, true, true, true, true, true, true, true, true, true, true, true, false, false, false, false, false, false, false, false, false, false, false, false, false, false, false, false, false, false, false, false, false] rfl rfl (any_of HT_.out (by kernel_rfl)) (fun _ _ _ h => h) (Or.inl ⟨by rfl, ?_⟩) ?_ ?_
      rotate_left
      · intro w'
        go_simp
        with_reducible rfl
      rotate_left
      · simp only [Act.put, List.setIfInBounds_toArray, List.set_cons_zero, List.set_cons_succ, i64_w, i32_w]
        rfl
      refine pure_ (i := 15) (N := some 41) (v := ?_) (a' := ?_) #[true, true, true, true, true, true, true, true, true, true, true, true, true, true, true, true, false, false, false, false, false, false, false, false, false, false, false, false, false, false, false, false, false, false, false, false] rfl rfl (any_of HT_.out (by kernel_rfl)) (fun _ _ _ h => h) (Or.inl ⟨by rfl, ?_⟩) ?_ ?_
      rotate_left
      · intro w'
        go_simp
        with_reducible rfl
      rotate_left
      · simp only [Act.put, List.setIfInBounds_toArray, List.set_cons_zero, List.set_cons_succ, i64_w, i32_w]
        rfl
      refine pure_ (i := 16) (N := some 42) (v := ?_) (a' := ?_) #[true, true, true, true, true, true, true, true, true, true, true, true, true, true, true, true, true, false, false, false, false, false, false, false, false, false, false, false, false, false, false, false, false, false, false, false] rfl rfl (any_of HT_.out (by kernel_rfl)) (fun _ _ _ h => h) (Or.inl ⟨by rfl, ?_⟩) ?_ ?_
      rotate_left
      · intro w'
        go_simp
        with_reducible rfl
      rotate_left
      · simp only [Act.put, List.setIfInBounds_toArray, List.set_cons_zero, List.set_cons_succ, i64_w, i32_w]
        rfl
      refine pure_ (i := 17) (N := some 43) (v := ?_) (a' := ?_) #[true, true, true, true, true, true, true, true, true, true, true, true, true, true, true, true, true, true, false, false, false, false, false, false, false, false, false, false, false, false, false, false, false, false, false, false] rfl rfl (any_of HT_.out (by kernel_rfl)) (fun _ _ _ h => h) (Or.inl ⟨by rfl, ?_⟩) ?_ ?_
      rotate_left
      · intro w'
        go_simp
        with_reducible rfl
      rotate_left
      · simp only [Act.put, List.setIfInBounds_toArray, List.set_cons_zero, List.set_cons_succ, i64_w, i32_w]
        rfl
      refine pure_ (i := 18) (N := some 44) (v := ?_) (a' := ?_) #[true, true, true, true, true, true, true, true, true, true, true, true, true, true, true, true, true, true, true, false, false, false, false, false, false, false, false, false, false, false, false, false, false, false, false, false] rfl rfl (any_of HT_.out (by kernel_rfl)) (fun _ _ _ h => h) (Or.inl ⟨by rfl, ?_⟩) ?_ ?_
      rotate_left
      · intro w'
        go_simp
        with_reducible rfl
      rotate_left
      · simp only [Act.put, List.setIfInBounds_toArray, List.set_cons_zero, List.set_cons_succ, i64_w, i32_w]
        rfl
      refine pure_ (i := 19) (N := some 45) (v := ?_) (a' := ?_) #[true, true, true, true, true, true, true, true, true, true, true, true, true, true, true, true, true, true, true, true, false, false, false, false, false, false, false, false, false, false, false, false, false, false, false, false] rfl rfl (any_of HT_.out (by kernel_rfl)) (fun _ _ _ h => h) (Or.inl ⟨by rfl, ?_⟩) ?_ ?_
      rotate_left
      · intro w'
        go_simp
        rw [HW.out]
      rotate_left
      · simp only [Act.put, List.setIfInBounds_toArray, List.set_cons_zero, List.set_cons_succ, i64_w, i32_w]
        rfl
      refine pure_ (i := 20) (N := some 46) (v := ?_) (a' := ?_) #[true, true, true, true, true, true, true, true, true, true, true, true, true, true, true, true, true, true, true, true, true, false, false, false, false, false, false, false, false, false, false, false, false, false, false, false] rfl rfl (any_of HT_.out (by kernel_rfl)) (fun _ _ _ h => h) (Or.inl ⟨by rfl, ?_⟩) ?_ ?_
      rotate_left
      · intro w'
        go_simp
        rw [HW2.out]
      rotate_left
      · simp only [Act.put, List.setIfInBounds_toArray, List.set_cons_zero, List.set_cons_succ, i64_w, i32_w]
        rfl
      refine pure_ (i := 21) (N := some 47) (v := ?_) (a' := ?_) #[true, true, true, true, true, true, true, true, true, true, true, true, true, true, true, true, true, true, true, true, true, true, false, false, false, false, false, false, false, false, false, false, false, false, false, false] rfl rfl (any_of HT_.out (by kernel_rfl)) (fun _ _ _ h => h) (Or.inl ⟨by rfl, ?_⟩) ?_ ?_
      rotate_left
      · intro w'
        go_simp
        with_reducible rfl
      rotate_left
      · simp only [Act.put, List.setIfInBounds_toArray, List.set_cons_zero, List.set_cons_succ, i64_w, i32_w]
        rfl
      refine take_ (i := 22) (N := some 48) (v := ?_) (a' := ?_) #[true, true, true, true, true, true, true, true, true, true, true, true, true, true, true, true, true, true, true, true, true, true, true, false, false, false, false, false, false, false, false, false, false, false, false, false] rfl rfl (take_ofW HT_.out HW_.out (by kernel_rfl)) (fun _ _ _ h => h) (Or.inl ⟨by rfl, ?_⟩) hHeld ?_ ?_
      rotate_left
      · intro w' hSt
        have hx := HL.out.l2 w' hSt
        go_simp
        with_reducible rfl
      rotate_left
      · simp only [Act.put, List.setIfInBounds_toArray, List.set_cons_zero, List.set_cons_succ, i64_w, i32_w]
        rfl
      refine pure_ (i := 23) (N := some 49) (v := ?_) (a' := ?_) #[true, true, true, true, true, true, true, true, true, true, true, true, true, true, true, true, true, true, true, true, true, true, true, true, false, false, false, false, false, false, false, false, false, false, false, false] rfl rfl (any_of HT_.out (by kernel_rfl)) (fun _ _ _ h => h) (Or.inl ⟨by rfl, ?_⟩) ?_ ?_
      rotate_left
      · intro w'
        go_simp
        with_reducible rfl
      rotate_left
      · simp only [Act.put, List.setIfInBounds_toArray, List.set_cons_zero, List.set_cons_succ, i64_w, i32_w]
        rfl
      refine pure_ (i := 24) (N := some 50) (v := ?_) (a' := ?_) #[true, true, true, true, true, true, true, true, true, true, true, true, true, true, true, true, true, true, true, true, true, true, true, true, true, false, false, false, false, false, false, false, false, false, false, false] rfl rfl (any_of HT_.out (by kernel_rfl)) (fun _ _ _ h => h) (Or.inl ⟨by rfl, ?_⟩) ?_ ?_
      rotate_left
      · intro w'
        go_simp
        with_reducible rfl
      rotate_left
      · simp only [Act.put, List.setIfInBounds_toArray, List.set_cons_zero, List.set_cons_succ, i64_w, i32_w]
        rfl
      refine pure_ (i := 25) (N := some 51) (v := ?_) (a' := ?_) #[true, true, true, true, true, true, true, true, true, true, true, true, true, true, true, true, true, true, true, true, true, true, true, true, true, true, false, false, false, false, false, false, false, false, false, false] rfl rfl (any_of HT_.out (by kernel_rfl)) (fun _ _ _ h => h) (Or.inl ⟨by rfl, ?_⟩) ?_ ?_
      rotate_left
      · intro w'
        go_simp
        with_reducible rfl
      rotate_left
      · simp only [Act.put, List.setIfInBounds_toArray, List.set_cons_zero, List.set_cons_succ, i64_w, i32_w]
        rfl
      refine pure_ (i := 26) (N := some 52) (v := ?_) (a' := ?_) #[true, true, true, true, true, true, true, true, true, true, true, true, true, true, true, true, true, true, true, true, true, true, true, true, true, true, true, false, false, false, false, false, false, false, false, false] rfl rfl (any_of HT_.out (by kernel_rfl)) (fun _ _ _ h => h) (Or.inl ⟨by rfl, ?_⟩) ?_ ?_
      rotate_left
      · intro w'
        go_simp
        with_reducible rfl
      rotate_left
      · simp only [Act.put, List.setIfInBounds_toArray, List.set_cons_zero, List.set_cons_succ, i64_w, i32_w]
        rfl
      refine pure_ (i := 27) (N := some 53) (v := ?_) (a' := ?_) #[true, true, true, true, true, true, true, true, true, true, true, true, true, true, true, true, true, true, true, true, true, true, true, true, true, true, true, true, false, false, false, false, false, false, false, false] rfl rfl (any_of HT_.out (by kernel_rfl)) (fun _ _ _ h => h) (Or.inl ⟨by rfl, ?_⟩) ?_ ?_
      rotate_left
      · intro w'
        go_simp
        with_reducible rfl
      rotate_left
      · simp only [Act.put, List.setIfInBounds_toArray, List.set_cons_zero, List.set_cons_succ, i64_w, i32_w]
        rfl
      refine pure_ (i := 28) (N := some 54) (v := ?_) (a' := ?_) #[true, true, true, true, true, true, true, true, true, true, true, true, true, true, true, true, true, true, true, true, true, true, true, true, true, true, true, true, true, false, false, false, false, false, false, false] rfl rfl (any_of HT_.out (by kernel_rfl)) (fun _ _ _ h => h) (Or.inl ⟨by rfl, ?_⟩) ?_ ?_
      rotate_left
      · intro w'
        go_simp
        rw [HW.out]
      rotate_left
      · simp only [Act.put, List.setIfInBounds_toArray, List.set_cons_zero, List.set_cons_succ, i64_w, i32_w]
        rfl
      refine pure_ (i := 29) (N := some 55) (v := ?_) (a' := ?_) #[true, true, true, true, true, true, true, true, true, true, true, true, true, true, true, true, true, true, true, true, true, true, true, true, true, true, true, true, true, true, false, false, false, false, false, false] rfl rfl (any_of HT_.out (by kernel_rfl)) (fun _ _ _ h => h) (Or.inl ⟨by rfl, ?_⟩) ?_ ?_
      rotate_left
      · intro w'
        go_simp
        rw [HW3.out]
      rotate_left
      · simp only [Act.put, List.setIfInBounds_toArray, List.set_cons_zero, List.set_cons_succ, i64_w, i32_w]
        rfl
      refine pure_ (i := 30) (N := some 56) (v := ?_) (a' := ?_) #[true, true, true, true, true, true, true, true, true, true, true, true, true, true, true, true, true, true, true, true, true, true, true, true, true, true, true, true, true, true, true, false, false, false, false, false] rfl rfl (any_of HT_.out (by kernel_rfl)) (fun _ _ _ h => h) (Or.inl ⟨by rfl, ?_⟩) ?_ ?_
      rotate_left
      · intro w'
        go_simp
        with_reducible rfl
      rotate_left
      · simp only [Act.put, List.setIfInBounds_toArray, List.set_cons_zero, List.set_cons_succ, i64_w, i32_w]
        rfl
      refine take_ (i := 31) (N := some 57) (v := ?_) (a' := ?_) #[true, true, true, true, true, true, true, true, true, true, true, true, true, true, true, true, true, true, true, true, true, true, true, true, true, true, true, true, true, true, true, true, false, false, false, false] rfl rfl (take_ofW HT_.out HW_.out (by kernel_rfl)) (fun _ _ _ h => h) (Or.inl ⟨by rfl, ?_⟩) hHeld ?_ ?_
      rotate_left
      · intro w' hSt
        have hx := HL.out.l3 w' hSt
        go_simp
        with_reducible rfl
      rotate_left
      · simp only [Act.put, List.setIfInBounds_toArray, List.set_cons_zero, List.set_cons_succ, i64_w, i32_w]
        rfl
      refine pure_ (i := 32) (N := some 58) (v := ?_) (a' := ?_) #[true, true, true, true, true, true, true, true, true, true, true, true, true, true, true, true, true, true, true, true, true, true, true, true, true, true, true, true, true, true, true, true, true, false, false, false] rfl rfl (any_of HT_.out (by kernel_rfl)) (fun _ _ _ h => h) (Or.inl ⟨by rfl, ?_⟩) ?_ ?_
      rotate_left
      · intro w'
        go_simp
        with_reducible rfl
      rotate_left
      · simp only [Act.put, List.setIfInBounds_toArray, List.set_cons_zero, List.set_cons_succ, i64_w, i32_w]
        rfl
      refine pure_ (i := 33) (N := some 59) (v := ?_) (a' := ?_) #[true, true, true, true, true, true, true, true, true, true, true, true, true, true, true, true, true, true, true, true, true, true, true, true, true, true, true, true, true, true, true, true, true, true, false, false] rfl rfl (any_of HT_.out (by kernel_rfl)) (fun _ _ _ h => h) (Or.inl ⟨by rfl, ?_⟩) ?_ ?_
      rotate_left
      · intro w'
        go_simp
        with_reducible rfl
      rotate_left
      · simp only [Act.put, List.setIfInBounds_toArray, List.set_cons_zero, List.set_cons_succ, i64_w, i32_w]
        rfl
      refine pure_ (i := 34) (N := some 60) (v := ?_) (a' := ?_) #[true, true, true, true, true, true, true, true, true, true, true, true, true, true, true, true, true, true, true, true, true, true, true, true, true, true, true, true, true, true, true, true, true, true, true, false] rfl rfl (any_of HT_.out (by kernel_rfl)) (fun _ _ _ h => h) (Or.inl ⟨by rfl, ?_⟩) ?_ ?_
      rotate_left
      · intro w'
        go_simp
        with_reducible rfl
      rotate_left
      · simp only [Act.put, List.setIfInBounds_toArray, List.set_cons_zero, List.set_cons_succ, i64_w, i32_w]
        rfl
      refine one_ (i := 35) (N := none) #[true, true, true, true, true, true, true, true, true, true, true, true, true, true, true, true, true, true, true, true, true, true, true, true, true, true, true, true, true, true, true, true, true, true, true, true] rfl rfl (one_of HT_.out (by kernel_rfl)) (by decide) (fun K hK => ?_)
      have hx := (cell_of HS.out.drew.x).2 (cw_get (xs := ld l k) (j := k) (by rw [ld_len]; omega))
      have hf := HS.out.drew.frozen k
      go_simp
      refine hK.out _ _ (by exact hS1 _) (fun hHeld => ?_)
      clear hK K
      refine norm_ (a' := ?_) ?_ ?_
      rotate_left
      · first
        | (show Act.put _ none _ = _; simp only [Act.put, List.setIfInBounds_toArray, List.set_cons_zero, List.set_cons_succ, i64_w, i32_w]; rfl)
        | rfl
      refine done_ (done_of HT_.out (by kernel_rfl)) ?_
      replace HS := Aside0.mk ((HS.out.set k (wordI y0 y1 y2 y3)).drew)
      rw [← HN.out, ← wordP_eq y0 y1 y2 y3 y00 y01 y10 y11 y20 y21 y30 y31] at HS
      unfold wordP at HS
      clear y00 y01 y10 y11 y20 y21 y30 y31 HN hS0 hS1
      generalize (wr.setCell _ _).drew = w5 at HS ⊢
      go_wp2
      go_roundw
      case rel => exact ⟨k + 1, by omega, by go_num, HS⟩
      case measure => simp [intOf]; omega
    · obtain rfl : k = 16 := by omega
      clear hlt hk h64
      rw [show ((16 : Nat) : Int) = 16 from rfl]
      go_wp2
      go_loopw [7] (fun i wr => ∃ n k : Nat, n ≤ 48 ∧ k = 16 + n ∧ i = .int .i64 (k : Int) ∧ Aside0 (St w wr (c8 (s0, s1, s2, s3, s4, s5, s6, s7)) (c8 (0, 0, 0, 0, 0, 0, 0, 0)) (sch l n))) (fun i _ => 64 - (intOf i).toNat)
      case atStart => exact ⟨0, 16, Nat.zero_le _, rfl, rfl, HS⟩
      case round =>
        clear HS
        obtain ⟨n, k, hn, hkn, rfl, HS⟩ := hrel
        by_cases hlt : n < 48
        · have hk64 : (k : Int) < 64 := by omega
          obtain ⟨p15, hp15⟩ : ∃ p, p = n + 1 := ⟨_, rfl⟩
          obtain ⟨p7, hp7⟩ : ∃ p, p = n + 9 := ⟨_, rfl⟩
          obtain ⟨p2, hp2⟩ : ∃ p, p = n + 14 := ⟨_, rfl⟩
          have HW16 := Aside0.mk (show IntKind.i64.wrap ((k : Int) - 16) = (n : Int) by simp [IntKind.wrap, IntKind.bits, IntKind.signed]; omega)
          have HW15 := Aside0.mk (show IntKind.i64.wrap ((k : Int) - 15) = (p15 : Int) by simp [IntKind.wrap, IntKind.bits, IntKind.signed]; omega)
          have HW7 := Aside0.mk (show IntKind.i64.wrap ((k : Int) - 7) = (p7 : Int) by simp [IntKind.wrap, IntKind.bits, IntKind.signed]; omega)
          have HW2 := Aside0.mk (show IntKind.i64.wrap ((k : Int) - 2) = (p2 : Int) by simp [IntKind.wrap, IntKind.bits, IntKind.signed]; omega)
          have hb16 : (n : Int) < 64 := by omega
          have hb15 : (p15 : Int) < 64 := by omega
          have hb7 : (p7 : Int) < 64 := by omega
          have hb2 : (p2 : Int) < 64 := by omega
          have hll := sch_len l n
          have HG := Aside0.mk (show G4 wr (w.heap.size + 1 + 1) k n p15 p7 p2 (rd (sch l n) (n : Int)) (rd (sch l n) (p15 : Int)) (rd (sch l n) (p7 : Int)) (rd (sch l n) (p2 : Int)) (rd (sch l n) (k : Int)) from
            ⟨fun w' hh => (cell_of (show w'.heap[w.heap.size + 1 + 1]? = _ by rw [hh]; exact HS.out.x)).2 (cw_get (by omega)), fun w' hh => (cell_of (show w'.heap[w.heap.size + 1 + 1]? = _ by rw [hh]; exact HS.out.x)).2 (cw_get (by omega)), fun w' hh => (cell_of (show w'.heap[w.heap.size + 1 + 1]? = _ by rw [hh]; exact HS.out.x)).2 (cw_get (by omega)), fun w' hh => (cell_of (show w'.heap[w.heap.size + 1 + 1]? = _ by rw [hh]; exact HS.out.x)).2 (cw_get (by omega)), fun w' hh => (cell_of (show w'.heap[w.heap.size + 1 + 1]? = _ by rw [hh]; exact HS.out.x)).2 (cw_get (by omega)), fun w' hh => by simp [World.frozen?, hh, HS.out.x]⟩)
          have HN := Aside0.mk (show sch l (n + 1) = (sch l n).set k (schW (rd (sch l n) (n : Int)) (rd (sch l n) (p15 : Int)) (rd (sch l n) (p7 : Int)) (rd (sch l n) (p2 : Int))) by rw [hkn, hp15, hp7, hp2]; rfl)
          generalize rd (sch l n) (n : Int) = a at HG HN
          generalize rd (sch l n) (p15 : Int) = x at HG HN
          generalize rd (sch l n) (p7 : Int) = c' at HG HN
          generalize rd (sch l n) (p2 : Int) = y at HG HN
          generalize rd (sch l n) (k : Int) = z at HG
          have hS0 : wr.drew.heap = wr.heap := rfl
          have HKN := Aside0.mk hkn
          have hk16 : 16 ≤ k := by omega
          clear hp15 hp7 hp2 hll hkn
          go_upto_region 10 with (fail)
          refine start_ (n := 10) (S := fun w' => w'.heap = wr.heap) (ds := []) #[false, false, false, false, false, false, false, false, false, false] (by kernel_rfl) rfl rfl (by exact hS0) (fun hHeld => ?_)
          refine with_tabW blk_tab10 blk_bits10 (fun HT_ HW_ => ?_)
          refine pure_ (i := 0) (N := some 66) (v := ?_) (a' := ?_) #[true, false, false, false, false, false, false, false, false, false] rfl rfl (any_of HT_.out (by kernel_rfl)) (fun _ _ _ h => h) (Or.inl ⟨by rfl, ?_⟩) ?_ ?_
          rotate_left
          · intro w'
            go_simp
            with_reducible rfl
          rotate_left
          · simp only [Act.put, List.setIfInBounds_toArray, List.set_cons_zero, List.set_cons_succ, i64_w, i32_w]
            rfl
          refine pure_ (i := 1) (N := some 67) (v := ?_) (a' := ?_) #[true, true, false, false, false, false, false, false, false, false] rfl rfl (any_of HT_.out (by kernel_rfl)) (fun _ _ _ h => h) (Or.inl ⟨by rfl, ?_⟩) ?_ ?_
          rotate_left
          · intro w'
            go_simp
            rw [HW15.out]
          rotate_left
          · simp only [Act.put, List.setIfInBounds_toArray, List.set_cons_zero, List.set_cons_succ, i64_w, i32_w]
            rfl
          refine pure_ (i := 2) (N := some 68) (v := ?_) (a' := ?_) #[true, true, true, false, false, false, false, false, false, false] rfl rfl (any_of HT_.out (by kernel_rfl)) (fun _ _ _ h => h) (Or.inl ⟨by rfl, ?_⟩) ?_ ?_
          rotate_left
          · intro w'
            go_simp
            with_reducible rfl
          rotate_left
          · simp only [Act.put, List.setIfInBounds_toArray, List.set_cons_zero, List.set_cons_succ, i64_w, i32_w]
            rfl
          refine take_ (i := 3) (N := some 69) (v := ?_) (a' := ?_) #[true, true, true, true, false, false, false, false, false, false] rfl rfl (take_ofW HT_.out HW_.out (by kernel_rfl)) (fun _ _ _ h => h) (Or.inl ⟨by rfl, ?_⟩) hHeld ?_ ?_
          rotate_left
          · intro w' hSt
            have hx := HG.out.g15 w' hSt
            go_simp
            with_reducible rfl
          rotate_left
          · simp only [Act.put, List.setIfInBounds_toArray, List.set_cons_zero, List.set_cons_succ, i64_w, i32_w]
            rfl
          refine pure_ (i := 4) (N := some 70) (v := ?_) (a' := ?_) #[true, true, true, true, true, false, false, false, false, false] rfl rfl (any_of HT_.out (by kernel_rfl)) (fun _ _ _ h => h) (Or.inl ⟨by rfl, ?_⟩) ?_ ?_
          rotate_left
          · intro w'
            go_simp
            with_reducible rfl
          rotate_left
          · simp only [Act.put, List.setIfInBounds_toArray, List.set_cons_zero, List.set_cons_succ, i64_w, i32_w]
            rfl
          refine pure_ (i := 5) (N := some 71) (v := ?_) (a' := ?_) #[true, true, true, true, true, true, false, false, false, false] rfl rfl (any_of HT_.out (by kernel_rfl)) (fun _ _ _ h => h) (Or.inl ⟨by rfl, ?_⟩) ?_ ?_
          rotate_left
          · intro w'
            go_simp
            rw [HW2.out]
          rotate_left
          · simp only [Act.put, List.setIfInBounds_toArray, List.set_cons_zero, List.set_cons_succ, i64_w, i32_w]
            rfl
          refine pure_ (i := 6) (N := some 72) (v := ?_) (a' := ?_) #[true, true, true, true, true, true, true, false, false, false] rfl rfl (any_of HT_.out (by kernel_rfl)) (fun _ _ _ h => h) (Or.inl ⟨by rfl, ?_⟩) ?_ ?_
          rotate_left
          · intro w'
            go_simp
            with_reducible rfl
          rotate_left
          · simp only [Act.put, List.setIfInBounds_toArray, List.set_cons_zero, List.set_cons_succ, i64_w, i32_w]
            rfl
          refine take_ (i := 7) (N := some 73) (v := ?_) (a' := ?_) #[true, true, true, true, true, true, true, true, false, false] rfl rfl (take_ofW HT_.out HW_.out (by kernel_rfl)) (fun _ _ _ h => h) (Or.inl ⟨by rfl, ?_⟩) hHeld ?_ ?_
          rotate_left
          · intro w' hSt
            have hx := HG.out.g2 w' hSt
            go_simp
            with_reducible rfl
          rotate_left
          · simp only [Act.put, List.setIfInBounds_toArray, List.set_cons_zero, List.set_cons_succ, i64_w, i32_w]
            rfl
          refine pure_ (i := 8) (N := some 8) (v := ?_) (a' := ?_) #[true, true, true, true, true, true, true, true, true, false] rfl rfl (any_of HT_.out (by kernel_rfl)) (fun _ _ _ h => h) (Or.inl ⟨by rfl, ?_⟩) ?_ ?_
          rotate_left
          · intro w'
            go_simp
            with_reducible rfl
          rotate_left
          · simp only [Act.put, List.setIfInBounds_toArray, List.set_cons_zero, List.set_cons_succ, i64_w, i32_w]
            rfl
          refine pure_ (i := 9) (N := some 9) (v := ?_) (a' := ?_) #[true, true, true, true, true, true, true, true, true, true] rfl rfl (any_of HT_.out (by kernel_rfl)) (fun _ _ _ h => h) (Or.inl ⟨by rfl, ?_⟩) ?_ ?_
          rotate_left
          · intro w'
            go_simp
            with_reducible rfl
          rotate_left
          · simp only [Act.put, List.setIfInBounds_toArray, List.set_cons_zero, List.set_cons_succ, i64_w, i32_w]
            rfl
          refine done_ (done_of HT_.out (by kernel_rfl)) ?_
          clear hS0 hHeld HT_ HW_
          have hS0 : wr.drew.drew.heap = wr.heap := rfl
          go_upto_region 11 with (fail)
          refine start_ (n := 30) (S := fun w' => w'.heap = wr.heap) (ds := [29]) #[false, false, false, false, false, false, false, false, false, false, false, false, false, false, false, false, false, false, false, false, false, false, false, false, false, false, false, false, false, false] (by kernel_rfl) rfl rfl (by exact hS0) (fun hHeld => ?_)
          refine with_tabW blk_tab11 blk_bits11 (fun HT_ HW_ => ?_)
          refine pure_ (i := 0) (N := some 74) (v := ?_) (a' := ?_) #[true, false, false, false, false, false, false, false, false, false, false, false, false, false, false, false, false, false, false, false, false, false, false, false, false, false, false, false, false, false] rfl rfl (any_of HT_.out (by kernel_rfl)) (fun _ _ _ h => h) (Or.inl ⟨by rfl, ?_⟩) ?_ ?_
          rotate_left
          · intro w'
            go_simp
            with_reducible rfl
          rotate_left
          · simp only [Act.put, List.setIfInBounds_toArray, List.set_cons_zero, List.set_cons_succ, i64_w, i32_w]
            rfl
          refine pure_ (i := 1) (N := some 75) (v := ?_) (a' := ?_) #[true, true, false, false, false, false, false, false, false, false, false, false, false, false, false, false, false, false, false, false, false, false, false, false, false, false, false, false, false, false] rfl rfl (any_of HT_.out (by kernel_rfl)) (fun _ _ _ h => h) (Or.inl ⟨by rfl, ?_⟩) ?_ ?_
          rotate_left
          · intro w'
            go_simp
            with_reducible rfl
          rotate_left
          · simp only [Act.put, List.setIfInBounds_toArray, List.set_cons_zero, List.set_cons_succ, i64_w, i32_w]
            rfl
          refine pure_ (i := 2) (N := some 76) (v := ?_) (a' := ?_) #[true, true, true, false, false, false, false, false, false, false, false, false, false, false, false, false, false, false, false, false, false, false, false, false, false, false, false, false, false, false] rfl rfl (any_of HT_.out (by kernel_rfl)) (fun _ _ _ h => h) (Or.inl ⟨by rfl, ?_⟩) ?_ ?_
          rotate_left
          · intro w'
            go_simp
            rw [HW16.out]
          rotate_left
          · simp only [Act.put, List.setIfInBounds_toArray, List.set_cons_zero, List.set_cons_succ, i64_w, i32_w]
            rfl
          refine pure_ (i := 3) (N := some 77) (v := ?_) (a' := ?_) #[true, true, true, true, false, false, false, false, false, false, false, false, false, false, false, false, false, false, false, false, false, false, false, false, false, false, false, false, false, false] rfl rfl (any_of HT_.out (by kernel_rfl)) (fun _ _ _ h => h) (Or.inl ⟨by rfl, ?_⟩) ?_ ?_
          rotate_left
          · intro w'
            go_simp
            with_reducible rfl
          rotate_left
          · simp only [Act.put, List.setIfInBounds_toArray, List.set_cons_zero, List.set_cons_succ, i64_w, i32_w]
            rfl
          refine take_ (i := 4) (N := some 78) (v := ?_) (a' := ?_) #[true, true, true, true, true, false, false, false, false, false, false, false, false, false, false, false, false, false, false, false, false, false, false, false, false, false, false, false, false, false] rfl rfl (take_ofW HT_.out HW_.out (by kernel_rfl)) (fun _ _ _ h => h) (Or.inl ⟨by rfl, ?_⟩) hHeld ?_ ?_
          rotate_left
          · intro w' hSt
            have hx := HG.out.g16 w' hSt
            go_simp
            with_reducible rfl
          rotate_left
          · simp only [Act.put, List.setIfInBounds_toArray, List.set_cons_zero, List.set_cons_succ, i64_w, i32_w]
            rfl
          refine pure_ (i := 5) (N := some 79) (v := ?_) (a' := ?_) #[true, true, true, true, true, true, false, false, false, false, false, false, false, false, false, false, false, false, false, false, false, false, false, false, false, false, false, false, false, false] rfl rfl (any_of HT_.out (by kernel_rfl)) (fun _ _ _ h => h) (Or.inl ⟨by rfl, ?_⟩) ?_ ?_
          rotate_left
          · intro w'
            go_simp
            with_reducible rfl
          rotate_left
          · simp only [Act.put, List.setIfInBounds_toArray, List.set_cons_zero, List.set_cons_succ, i64_w, i32_w]
            rfl
          refine pure_ (i := 7) (N := some 81) (v := ?_) (a' := ?_) #[true, true, true, true, true, true, false, true, false, false, false, false, false, false, false, false, false, false, false, false, false, false, false, false, false, false, false, false, false, false] rfl rfl (any_of HT_.out (by kernel_rfl)) (fun _ _ _ h => h) (Or.inl ⟨by rfl, ?_⟩) ?_ ?_
          rotate_left
          · intro w'
            go_simp
            with_reducible rfl
          rotate_left
          · simp only [Act.put, List.setIfInBounds_toArray, List.set_cons_zero, List.set_cons_succ, i64_w, i32_w]
            rfl
          refine pure_ (i := 10) (N := some 84) (v := ?_) (a' := ?_) #[true, true, true, true, true, true, false, true, false, false, true, false, false, false, false, false, false, false, false, false, false, false, false, false, false, false, false, false, false, false] rfl rfl (any_of HT_.out (by kernel_rfl)) (fun _ _ _ h => h) (Or.inl ⟨by rfl, ?_⟩) ?_ ?_
          rotate_left
          · intro w'
            go_simp
            with_reducible rfl
          rotate_left
          · simp only [Act.put, List.setIfInBounds_toArray, List.set_cons_zero, List.set_cons_succ, i64_w, i32_w]
            rfl
          refine pure_ (i := 11) (N := some 85) (v := ?_) (a' := ?_) #[true, true, true, true, true, true, false, true, false, false, true, true, false, false, false, false, false, false, false, false, false, false, false, false, false, false, false, false, false, false] rfl rfl (any_of HT_.out (by kernel_rfl)) (fun _ _ _ h => h) (Or.inl ⟨by rfl, ?_⟩) ?_ ?_
          rotate_left
          · intro w'
            go_simp
            with_reducible rfl
          rotate_left
          · simp only [Act.put, List.setIfInBounds_toArray, List.set_cons_zero, List.set_cons_succ, i64_w, i32_w]
            rfl
          refine pure_ (i := 14) (N := some 88) (v := ?_) (a' := ?_) #[true, true, true, true, true, true, false, true, false, false, true, true, false, false, true, false, false, false, false, false, false, false, false, false, false, false, false, false, false, false] rfl rfl (any_of HT_.out (by kernel_rfl)) (fun _ _ _ h => h) (Or.inl ⟨by rfl, ?_⟩) ?_ ?_
          rotate_left
          · intro w'
            go_simp
            with_reducible rfl
          rotate_left
          · simp only [Act.put, List.setIfInBounds_toArray, List.set_cons_zero, List.set_cons_succ, i64_w, i32_w]
            rfl
          refine pure_ (i := 15) (N := some 89) (v := ?_) (a' := ?_) #[true, true, true, true, true, true, false, true, false, false, true, true, false, false, true, true, false, false, false, false, false, false, false, false, false, false, false, false, false, false] rfl rfl (any_of HT_.out (by kernel_rfl)) (fun _ _ _ h => h) (Or.inl ⟨by rfl, ?_⟩) ?_ ?_
          rotate_left
          · intro w'
            go_simp
            rw [HW7.out]
          rotate_left
          · simp only [Act.put, List.setIfInBounds_toArray, List.set_cons_zero, List.set_cons_succ, i64_w, i32_w]
            rfl
          refine pure_ (i := 16) (N := some 90) (v := ?_) (a' := ?_) #[true, true, true, true, true, true, false, true, false, false, true, true, false, false, true, true, true, false, false, false, false, false, false, false, false, false, false, false, false, false] rfl rfl (any_of HT_.out (by kernel_rfl)) (fun _ _ _ h => h) (Or.inl ⟨by rfl, ?_⟩) ?_ ?_
          rotate_left
          · intro w'
            go_simp
            with_reducible rfl
          rotate_left
          · simp only [Act.put, List.setIfInBounds_toArray, List.set_cons_zero, List.set_cons_succ, i64_w, i32_w]
            rfl
          refine take_ (i := 17) (N := some 91) (v := ?_) (a' := ?_) #[true, true, true, true, true, true, false, true, false, false, true, true, false, false, true, true, true, true, false, false, false, false, false, false, false, false, false, false, false, false] rfl rfl (take_ofW HT_.out HW_.out (by kernel_rfl)) (fun _ _ _ h => h) (Or.inl ⟨by rfl, ?_⟩) hHeld ?_ ?_
          rotate_left
          · intro w' hSt
            have hx := HG.out.g7 w' hSt
            go_simp
            with_reducible rfl
          rotate_left
          · simp only [Act.put, List.setIfInBounds_toArray, List.set_cons_zero, List.set_cons_succ, i64_w, i32_w]
            rfl
          refine pure_ (i := 19) (N := some 93) (v := ?_) (a' := ?_) #[true, true, true, true, true, true, false, true, false, false, true, true, false, false, true, true, true, true, false, true, false, false, false, false, false, false, false, false, false, false] rfl rfl (any_of HT_.out (by kernel_rfl)) (fun _ _ _ h => h) (Or.inl ⟨by rfl, ?_⟩) ?_ ?_
          rotate_left
          · intro w'
            go_simp
            with_reducible rfl
          rotate_left
          · simp only [Act.put, List.setIfInBounds_toArray, List.set_cons_zero, List.set_cons_succ, i64_w, i32_w]
            rfl
          refine pure_ (i := 21) (N := some 95) (v := ?_) (a' := ?_) #[true, true, true, true, true, true, false, true, false, false, true, true, false, false, true, true, true, true, false, true, false, true, false, false, false, false, false, false, false, false] rfl rfl (any_of HT_.out (by kernel_rfl)) (fun _ _ _ h => h) (Or.inl ⟨by rfl, ?_⟩) ?_ ?_
          rotate_left
          · intro w'
            go_simp
            with_reducible rfl
          rotate_left
          · simp only [Act.put, List.setIfInBounds_toArray, List.set_cons_zero, List.set_cons_succ, i64_w, i32_w]
            rfl
          refine pure_ (i := 24) (N := some 98) (v := ?_) (a' := ?_) #[true, true, true, true, true, true, false, true, false, false, true, true, false, false, true, true, true, true, false, true, false, true, false, false, true, false, false, false, false, false] rfl rfl (any_of HT_.out (by kernel_rfl)) (fun _ _ _ h => h) (Or.inl ⟨by rfl, ?_⟩) ?_ ?_
          rotate_left
          · intro w'
            go_simp
            with_reducible rfl
          rotate_left
          · simp only [Act.put, List.setIfInBounds_toArray, List.set_cons_zero, List.set_cons_succ, i64_w, i32_w]
            rfl
          refine pure_ (i := 25) (N := some 99) (v := ?_) (a' := ?_) #[true, true, true, true, true, true, false, true, false, false, true, true, false, false, true, true, true, true, false, true, false, true, false, false, true, true, false, false, false, false] rfl rfl (any_of HT_.out (by kernel_rfl)) (fun _ _ _ h => h) (Or.inl ⟨by rfl, ?_⟩) ?_ ?_
          rotate_left
          · intro w'
            go_simp
            with_reducible rfl
          rotate_left
          · simp only [Act.put, List.setIfInBounds_toArray, List.set_cons_zero, List.set_cons_succ, i64_w, i32_w]
            rfl
          refine one_ (i := 6) (N := some 80) #[true, true, true, true, true, true, true, true, false, false, true, true, false, false, true, true, true, true, false, true, false, true, false, false, true, true, false, false, false, false] rfl rfl (one_of HT_.out (by kernel_rfl)) (by decide) (fun K hK => ?_)
          refine goes_ Tryd.func74 (by kernel_rfl) rfl #[.int .u32 x, .int .i64 7] (by rfl) rfl rfl (by (try simp only [List.map_toArray, List.map_cons, List.map_nil]); first | done | rfl) ?_
          refine (right_calls x 7 (by decide) (by decide) _).mono ?_
          rintro e w9 ⟨rfl, rfl⟩
          refine ⟨_, rfl, ?_⟩
          refine hK.out _ _ (by exact hS0) (fun hHeld => ?_)
          clear hK K
          refine norm_ (a' := ?_) ?_ ?_
          rotate_left
          · first
            | (show Act.put _ (some 80) _ = _; simp only [Act.put, List.setIfInBounds_toArray, List.set_cons_zero, List.set_cons_succ, i64_w, i32_w]; rfl)
            | rfl
          refine one_ (i := 8) (N := some 82) #[true, true, true, true, true, true, true, true, true, false, true, true, false, false, true, true, true, true, false, true, false, true, false, false, true, true, false, false, false, false] rfl rfl (one_of HT_.out (by kernel_rfl)) (by decide) (fun K hK => ?_)
          refine goes_ Tryd.func74 (by kernel_rfl) rfl #[.int .u32 x, .int .i64 18] (by rfl) rfl rfl (by (try simp only [List.map_toArray, List.map_cons, List.map_nil]); first | done | rfl) ?_
          refine (right_calls x 18 (by decide) (by decide) _).mono ?_
          rintro e w9 ⟨rfl, rfl⟩
          refine ⟨_, rfl, ?_⟩
          refine hK.out _ _ (by exact hS0) (fun hHeld => ?_)
          clear hK K
          refine norm_ (a' := ?_) ?_ ?_
          rotate_left
          · first
            | (show Act.put _ (some 82) _ = _; simp only [Act.put, List.setIfInBounds_toArray, List.set_cons_zero, List.set_cons_succ, i64_w, i32_w]; rfl)
            | rfl
          refine pure_ (i := 9) (N := some 83) (v := ?_) (a' := ?_) #[true, true, true, true, true, true, true, true, true, true, true, true, false, false, true, true, true, true, false, true, false, true, false, false, true, true, false, false, false, false] rfl rfl (any_of HT_.out (by kernel_rfl)) (fun _ _ _ h => h) (Or.inl ⟨by rfl, ?_⟩) ?_ ?_
          rotate_left
          · intro w'
            go_simp
            with_reducible rfl
          rotate_left
          · simp only [Act.put, List.setIfInBounds_toArray, List.set_cons_zero, List.set_cons_succ, i64_w, i32_w]
            rfl
          refine pure_ (i := 12) (N := some 86) (v := ?_) (a' := ?_) #[true, true, true, true, true, true, true, true, true, true, true, true, true, false, true, true, true, true, false, true, false, true, false, false, true, true, false, false, false, false] rfl rfl (any_of HT_.out (by kernel_rfl)) (fun _ _ _ h => h) (Or.inl ⟨by rfl, ?_⟩) ?_ ?_
          rotate_left
          · intro w'
            go_simp
            with_reducible rfl
          rotate_left
          · simp only [Act.put, List.setIfInBounds_toArray, List.set_cons_zero, List.set_cons_succ, i64_w, i32_w]
            rfl
          refine pure_ (i := 13) (N := some 87) (v := ?_) (a' := ?_) #[true, true, true, true, true, true, true, true, true, true, true, true, true, true, true, true, true, true, false, true, false, true, false, false, true, true, false, false, false, false] rfl rfl (any_of HT_.out (by kernel_rfl)) (fun _ _ _ h => h) (Or.inl ⟨by rfl, ?_⟩) ?_ ?_
          rotate_left
          · intro w'
            go_simp
            with_reducible rfl
          rotate_left
          · simp only [Act.put, List.setIfInBounds_toArray, List.set_cons_zero, List.set_cons_succ, i64_w, i32_w]
            rfl
          refine pure_ (i := 18) (N := some 92) (v := ?_) (a' := ?_) #[true, true, true, true, true, true, true, true, true, true, true, true, true, true, true, true, true, true, true, true, false, true, false, false, true, true, false, false, false, false] rfl rfl (any_of HT_.out (by kernel_rfl)) (fun _ _ _ h => h) (Or.inl ⟨by rfl, ?_⟩) ?_ ?_
          rotate_left
          · intro w'
            go_simp
            with_reducible rfl
          rotate_left
          · simp only [Act.put, List.setIfInBounds_toArray, List.set_cons_zero, List.set_cons_succ, i64_w, i32_w]
            rfl
          refine one_ (i := 20) (N := some 94) #[true, true, true, true, true, true, true, true, true, true, true, true, true, true, true, true, true, true, true, true, true, true, false, false, true, true, false, false, false, false] rfl rfl (one_of HT_.out (by kernel_rfl)) (by decide) (fun K hK => ?_)
          refine goes_ Tryd.func74 (by kernel_rfl) rfl #[.int .u32 y, .int .i64 17] (by rfl) rfl rfl (by (try simp only [List.map_toArray, List.map_cons, List.map_nil]); first | done | rfl) ?_
          refine (right_calls y 17 (by decide) (by decide) _).mono ?_
          rintro e w9 ⟨rfl, rfl⟩
          refine ⟨_, rfl, ?_⟩
          refine hK.out _ _ (by exact hS0) (fun hHeld => ?_)
          clear hK K
          refine norm_ (a' := ?_) ?_ ?_
          rotate_left
          · first
            | (show Act.put _ (some 94) _ = _; simp only [Act.put, List.setIfInBounds_toArray, List.set_cons_zero, List.set_cons_succ, i64_w, i32_w]; rfl)
            | rfl
          refine one_ (i := 22) (N := some 96) #[true, true, true, true, true, true, true, true, true, true, true, true, true, true, true, true, true, true, true, true, true, true, true, false, true, true, false, false, false, false] rfl rfl (one_of HT_.out (by kernel_rfl)) (by decide) (fun K hK => ?_)
          refine goes_ Tryd.func74 (by kernel_rfl) rfl #[.int .u32 y, .int .i64 19] (by rfl) rfl rfl (by (try simp only [List.map_toArray, List.map_cons, List.map_nil]); first | done | rfl) ?_
          refine (right_calls y 19 (by decide) (by decide) _).mono ?_
          rintro e w9 ⟨rfl, rfl⟩
          refine ⟨_, rfl, ?_⟩
          refine hK.out _ _ (by exact hS0) (fun hHeld => ?_)
          clear hK K
          refine norm_ (a' := ?_) ?_ ?_
          rotate_left
          · first
            | (show Act.put _ (some 96) _ = _; simp only [Act.put, List.setIfInBounds_toArray, List.set_cons_zero, List.set_cons_succ, i64_w, i32_w]; rfl)
            | rfl
          refine pure_ (i := 23) (N := some 97) (v := ?_) (a' := ?_) #[true, true, true, true, true, true, true, true, true, true, true, true, true, true, true, true, true, true, true, true, true, true, true, true, true, true, false, false, false, false] rfl rfl (any_of HT_.out (by kernel_rfl)) (fun _ _ _ h => h) (Or.inl ⟨by rfl, ?_⟩) ?_ ?_
          rotate_left
          · intro w'
            go_simp
            with_reducible rfl
          rotate_left
          · simp only [Act.put, List.setIfInBounds_toArray, List.set_cons_zero, List.set_cons_succ, i64_w, i32_w]
            rfl
          refine pure_ (i := 26) (N := some 100) (v := ?_) (a' := ?_) #[true, true, true, true, true, true, true, true, true, true, true, true, true, true, true, true, true, true, true, true, true, true, true, true, true, true, true, false, false, false] rfl rfl (any_of HT_.out (by kernel_rfl)) (fun _ _ _ h => h) (Or.inl ⟨by rfl, ?_⟩) ?_ ?_
          rotate_left
          · intro w'
            go_simp
            with_reducible rfl
          rotate_left
          · simp only [Act.put, List.setIfInBounds_toArray, List.set_cons_zero, List.set_cons_succ, i64_w, i32_w]
            rfl
          refine pure_ (i := 27) (N := some 101) (v := ?_) (a' := ?_) #[true, true, true, true, true, true, true, true, true, true, true, true, true, true, true, true, true, true, true, true, true, true, true, true, true, true, true, true, false, false] rfl rfl (any_of HT_.out (by kernel_rfl)) (fun _ _ _ h => h) (Or.inl ⟨by rfl, ?_⟩) ?_ ?_
          rotate_left
          · intro w'
            go_simp
            with_reducible rfl
          rotate_left
          · simp only [Act.put, List.setIfInBounds_toArray, List.set_cons_zero, List.set_cons_succ, i64_w, i32_w]
            rfl
          refine pure_ (i := 28) (N := some 102) (v := ?_) (a' := ?_) #[true, true, true, true, true, true, true, true, true, true, true, true, true, true, true, true, true, true, true, true, true, true, true, true, true, true, true, true, true, false] rfl rfl (any_of HT_.out (by kernel_rfl)) (fun _ _ _ h => h) (Or.inl ⟨by rfl, ?_⟩) ?_ ?_
          rotate_left
          · intro w'
            go_simp
            with_reducible rfl
          rotate_left
          · simp only [Act.put, List.setIfInBounds_toArray, List.set_cons_zero, List.set_cons_succ, i64_w, i32_w]
            rfl
          refine last_ (i := 29) (N := none) #[true, true, true, true, true, true, true, true, true, true, true, true, true, true, true, true, true, true, true, true, true, true, true, true, true, true, true, true, true, true] rfl rfl (one_of HT_.out (by kernel_rfl)) (by decide) (fun K hK => ?_)
          have hx := HG.out.gk wr.drew.drew rfl
          have hf := HG.out.fr wr.drew.drew rfl
          go_simp
          refine hK.out _ _ ?_
          clear hK K
          refine norm_ (a' := ?_) ?_ ?_
          rotate_left
          · first
            | (show Act.put _ none _ = _; simp only [Act.put, List.setIfInBounds_toArray, List.set_cons_zero, List.set_cons_succ, i64_w, i32_w]; rfl)
            | rfl
          refine done_ (done_of HT_.out (by kernel_rfl)) ?_
          replace HS := Aside0.mk (HS.out.set k (schW a x c' y)).drew.drew
          rw [← HN.out] at HS
          unfold schW at HS
          clear HN hS0 HG
          generalize (wr.setCell _ _).drew.drew = w5 at HS ⊢
          go_wp2
          go_roundw
          case rel => exact ⟨n + 1, k + 1, by omega, by have := HKN.out; omega, by go_num, HS⟩
          case measure => simp [intOf]; omega
        · obtain rfl : n = 48 := by omega
          obtain rfl : k = 64 := by omega
          clear hlt hn hkn
          rw [show ((64 : Nat) : Int) = 64 from rfl]
          have HC := Aside0.mk (show ∀ (j : Nat) (v : Value), (c8 (s0, s1, s2, s3, s4, s5, s6, s7))[j]? = some v → ∀ w' : World, w'.heap = wr.heap → w'.cell? ⟨w.heap.size, j, none⟩ = some v from fun j v hv w' hh => (cell_of (show w'.heap[w.heap.size]? = _ by rw [hh]; exact HS.out.s)).2 hv)
          have hS0 : wr.drew.heap = wr.heap := rfl
          go_upto_region 12 with (fail)
          refine start_ (n := 24) (S := fun w' => w'.heap = wr.heap) (ds := []) #[false, false, false, false, false, false, false, false, false, false, false, false, false, false, false, false, false, false, false, false, false, false, false, false] (by kernel_rfl) rfl rfl (by exact hS0) (fun hHeld => ?_)
          refine with_tabW blk_tab12 blk_bits12 (fun HT_ HW_ => ?_)
          refine pure_ (i := 0) (N := some 103) (v := ?_) (a' := ?_) #[true, false, false, false, false, false, false, false, false, false, false, false, false, false, false, false, false, false, false, false, false, false, false, false] rfl rfl (any_of HT_.out (by kernel_rfl)) (fun _ _ _ h => h) (Or.inl ⟨by rfl, ?_⟩) ?_ ?_
          rotate_left
          · intro w'
            go_simp
            with_reducible rfl
          rotate_left
          · simp only [Act.put, List.setIfInBounds_toArray, List.set_cons_zero, List.set_cons_succ, i64_w, i32_w]
            rfl
          refine take_ (i := 1) (N := some 104) (v := ?_) (a' := ?_) #[true, true, false, false, false, false, false, false, false, false, false, false, false, false, false, false, false, false, false, false, false, false, false, false] rfl rfl (take_ofW HT_.out HW_.out (by kernel_rfl)) (fun _ _ _ h => h) (Or.inl ⟨by rfl, ?_⟩) hHeld ?_ ?_
          rotate_left
          · intro w' hSt
            have hx := HC.out 0 _ rfl w' hSt
            go_simp
            with_reducible rfl
          rotate_left
          · simp only [Act.put, List.setIfInBounds_toArray, List.set_cons_zero, List.set_cons_succ, i64_w, i32_w]
            rfl
          refine pure_ (i := 2) (N := some 105) (v := ?_) (a' := ?_) #[true, true, true, false, false, false, false, false, false, false, false, false, false, false, false, false, false, false, false, false, false, false, false, false] rfl rfl (any_of HT_.out (by kernel_rfl)) (fun _ _ _ h => h) (Or.inl ⟨by rfl, ?_⟩) ?_ ?_
          rotate_left
          · intro w'
            go_simp
            with_reducible rfl
          rotate_left
          · simp only [Act.put, List.setIfInBounds_toArray, List.set_cons_zero, List.set_cons_succ, i64_w, i32_w]
            rfl
          refine take_ (i := 3) (N := some 106) (v := ?_) (a' := ?_) #[true, true, true, true, false, false, false, false, false, false, false, false, false, false, false, false, false, false, false, false, false, false, false, false] rfl rfl (take_ofW HT_.out HW_.out (by kernel_rfl)) (fun _ _ _ h => h) (Or.inl ⟨by rfl, ?_⟩) hHeld ?_ ?_
          rotate_left
          · intro w' hSt
            have hx := HC.out 1 _ rfl w' hSt
            go_simp
            with_reducible rfl
          rotate_left
          · simp only [Act.put, List.setIfInBounds_toArray, List.set_cons_zero, List.set_cons_succ, i64_w, i32_w]
            rfl
          refine pure_ (i := 4) (N := some 107) (v := ?_) (a' := ?_) #[true, true, true, true, true, false, false, false, false, false, false, false, false, false, false, false, false, false, false, false, false, false, false, false] rfl rfl (any_of HT_.out (by kernel_rfl)) (fun _ _ _ h => h) (Or.inl ⟨by rfl, ?_⟩) ?_ ?_
          rotate_left
          · intro w'
            go_simp
            with_reducible rfl
          rotate_left
          · simp only [Act.put, List.setIfInBounds_toArray, List.set_cons_zero, List.set_cons_succ, i64_w, i32_w]
            rfl
          refine take_ (i := 5) (N := some 108) (v := ?_) (a' := ?_) #[true, true, true, true, true, true, false, false, false, false, false, false, false, false, false, false, false, false, false, false, false, false, false, false] rfl rfl (take_ofW HT_.out HW_.out (by kernel_rfl)) (fun _ _ _ h => h) (Or.inl ⟨by rfl, ?_⟩) hHeld ?_ ?_
          rotate_left
          · intro w' hSt
            have hx := HC.out 2 _ rfl w' hSt
            go_simp
            with_reducible rfl
          rotate_left
          · simp only [Act.put, List.setIfInBounds_toArray, List.set_cons_zero, List.set_cons_succ, i64_w, i32_w]
            rfl
          refine pure_ (i := 6) (N := some 109) (v := ?_) (a' := ?_) #[true, true, true, true, true, true, true, false, false, false, false, false, false, false, false, false, false, false, false, false, false, false, false, false] rfl rfl (any_of HT_.out (by kernel_rfl)) (fun _ _ _ h => h) (Or.inl ⟨by rfl, ?_⟩) ?_ ?_
          rotate_left
          · intro w'
            go_simp
            with_reducible rfl
          rotate_left
          · simp only [Act.put, List.setIfInBounds_toArray, List.set_cons_zero, List.set_cons_succ, i64_w, i32_w]
            rfl
          refine take_ (i := 7) (N := some 110) (v := ?_) (a' := ?_) #[true, true, true, true, true, true, true, true, false, false, false, false, false, false, false, false, false, false, false, false, false, false, false, false] rfl rfl (take_ofW HT_.out HW_.out (by kernel_rfl)) (fun _ _ _ h => h) (Or.inl ⟨by rfl, ?_⟩) hHeld ?_ ?_
          rotate_left
          · intro w' hSt
            have hx := HC.out 3 _ rfl w' hSt
            go_simp
            with_reducible rfl
          rotate_left
          · simp only [Act.put, List.setIfInBounds_toArray, List.set_cons_zero, List.set_cons_succ, i64_w, i32_w]
            rfl
          refine pure_ (i := 8) (N := some 111) (v := ?_) (a' := ?_) #[true, true, true, true, true, true, true, true, true, false, false, false, false, false, false, false, false, false, false, false, false, false, false, false] rfl rfl (any_of HT_.out (by kernel_rfl)) (fun _ _ _ h => h) (Or.inl ⟨by rfl, ?_⟩) ?_ ?_
          rotate_left
          · intro w'
            go_simp
            with_reducible rfl
          rotate_left
          · simp only [Act.put, List.setIfInBounds_toArray, List.set_cons_zero, List.set_cons_succ, i64_w, i32_w]
            rfl
          refine take_ (i := 9) (N := some 112) (v := ?_) (a' := ?_) #[true, true, true, true, true, true, true, true, true, true, false, false, false, false, false, false, false, false, false, false, false, false, false, false] rfl rfl (take_ofW HT_.out HW_.out (by kernel_rfl)) (fun _ _ _ h => h) (Or.inl ⟨by rfl, ?_⟩) hHeld ?_ ?_
          rotate_left
          · intro w' hSt
            have hx := HC.out 4 _ rfl w' hSt
            go_simp
            with_reducible rfl
          rotate_left
          · simp only [Act.put, List.setIfInBounds_toArray, List.set_cons_zero, List.set_cons_succ, i64_w, i32_w]
            rfl
          refine pure_ (i := 10) (N := some 113) (v := ?_) (a' := ?_) #[true, true, true, true, true, true, true, true, true, true, true, false, false, false, false, false, false, false, false, false, false, false, false, false] rfl rfl (any_of HT_.out (by kernel_rfl)) (fun _ _ _ h => h) (Or.inl ⟨by rfl, ?_⟩) ?_ ?_
          rotate_left
          · intro w'
            go_simp
            with_reducible rfl
          rotate_left
          · simp only [Act.put, List.setIfInBounds_toArray, List.set_cons_zero, List.set_cons_succ, i64_w, i32_w]
            rfl
          refine take_ (i := 11) (N := some 114) (v := ?_) (a' := ?_) #[true, true, true, true, true, true, true, true, true, true, true, true, false, false, false, false, false, false, false, false, false, false, false, false] rfl rfl (take_ofW HT_.out HW_.out (by kernel_rfl)) (fun _ _ _ h => h) (Or.inl ⟨by rfl, ?_⟩) hHeld ?_ ?_
          rotate_left
          · intro w' hSt
            have hx := HC.out 5 _ rfl w' hSt
            go_simp
            with_reducible rfl
          rotate_left
          · simp only [Act.put, List.setIfInBounds_toArray, List.set_cons_zero, List.set_cons_succ, i64_w, i32_w]
            rfl
          refine pure_ (i := 12) (N := some 115) (v := ?_) (a' := ?_) #[true, true, true, true, true, true, true, true, true, true, true, true, true, false, false, false, false, false, false, false, false, false, false, false] rfl rfl (any_of HT_.out (by kernel_rfl)) (fun _ _ _ h => h) (Or.inl ⟨by rfl, ?_⟩) ?_ ?_
          rotate_left
          · intro w'
            go_simp
            with_reducible rfl
          rotate_left
          · simp only [Act.put, List.setIfInBounds_toArray, List.set_cons_zero, List.set_cons_succ, i64_w, i32_w]
            rfl
          refine take_ (i := 13) (N := some 116) (v := ?_) (a' := ?_) #[true, true, true, true, true, true, true, true, true, true, true, true, true, true, false, false, false, false, false, false, false, false, false, false] rfl rfl (take_ofW HT_.out HW_.out (by kernel_rfl)) (fun _ _ _ h => h) (Or.inl ⟨by rfl, ?_⟩) hHeld ?_ ?_
          rotate_left
          · intro w' hSt
            have hx := HC.out 6 _ rfl w' hSt
            go_simp
            with_reducible rfl
          rotate_left
          · simp only [Act.put, List.setIfInBounds_toArray, List.set_cons_zero, List.set_cons_succ, i64_w, i32_w]
            rfl
          refine pure_ (i := 14) (N := some 117) (v := ?_) (a' := ?_) #[true, true, true, true, true, true, true, true, true, true, true, true, true, true, true, false, false, false, false, false, false, false, false, false] rfl rfl (any_of HT_.out (by kernel_rfl)) (fun _ _ _ h => h) (Or.inl ⟨by rfl, ?_⟩) ?_ ?_
          rotate_left
          · intro w'
            go_simp
            with_reducible rfl
          rotate_left
          · simp only [Act.put, List.setIfInBounds_toArray, List.set_cons_zero, List.set_cons_succ, i64_w, i32_w]
            rfl
          refine take_ (i := 15) (N := some 118) (v := ?_) (a' := ?_) #[true, true, true, true, true, true, true, true, true, true, true, true, true, true, true, true, false, false, false, false, false, false, false, false] rfl rfl (take_ofW HT_.out HW_.out (by kernel_rfl)) (fun _ _ _ h => h) (Or.inl ⟨by rfl, ?_⟩) hHeld ?_ ?_
          rotate_left
          · intro w' hSt
            have hx := HC.out 7 _ rfl w' hSt
            go_simp
            with_reducible rfl
          rotate_left
          · simp only [Act.put, List.setIfInBounds_toArray, List.set_cons_zero, List.set_cons_succ, i64_w, i32_w]
            rfl
          refine pure_ (i := 16) (N := some 10) (v := ?_) (a' := ?_) #[true, true, true, true, true, true, true, true, true, true, true, true, true, true, true, true, true, false, false, false, false, false, false, false] rfl rfl (any_of HT_.out (by kernel_rfl)) (fun _ _ _ h => h) (Or.inl ⟨by rfl, ?_⟩) ?_ ?_
          rotate_left
          · intro w'
            go_simp
            with_reducible rfl
          rotate_left
          · simp only [Act.put, List.setIfInBounds_toArray, List.set_cons_zero, List.set_cons_succ, i64_w, i32_w]
            rfl
          refine pure_ (i := 17) (N := some 11) (v := ?_) (a' := ?_) #[true, true, true, true, true, true, true, true, true, true, true, true, true, true, true, true, true, true, false, false, false, false, false, false] rfl rfl (any_of HT_.out (by kernel_rfl)) (fun _ _ _ h => h) (Or.inl ⟨by rfl, ?_⟩) ?_ ?_
          rotate_left
          · intro w'
            go_simp
            with_reducible rfl
          rotate_left
          · simp only [Act.put, List.setIfInBounds_toArray, List.set_cons_zero, List.set_cons_succ, i64_w, i32_w]
            rfl
          refine pure_ (i := 18) (N := some 12) (v := ?_) (a' := ?_) #[true, true, true, true, true, true, true, true, true, true, true, true, true, true, true, true, true, true, true, false, false, false, false, false] rfl rfl (any_of HT_.out (by kernel_rfl)) (fun _ _ _ h => h) (Or.inl ⟨by rfl, ?_⟩) ?_ ?_
          rotate_left
          · intro w'
            go_simp
            with_reducible rfl
          rotate_left
          · simp only [Act.put, List.setIfInBounds_toArray, List.set_cons_zero, List.set_cons_succ, i64_w, i32_w]
            rfl
          refine pure_ (i := 19) (N := some 13) (v := ?_) (a' := ?_) #[true, true, true, true, true, true, true, true, true, true, true, true, true, true, true, true, true, true, true, true, false, false, false, false] rfl rfl (any_of HT_.out (by kernel_rfl)) (fun _ _ _ h => h) (Or.inl ⟨by rfl, ?_⟩) ?_ ?_
          rotate_left
          · intro w'
            go_simp
            with_reducible rfl
          rotate_left
          · simp only [Act.put, List.setIfInBounds_toArray, List.set_cons_zero, List.set_cons_succ, i64_w, i32_w]
            rfl
          refine pure_ (i := 20) (N := some 14) (v := ?_) (a' := ?_) #[true, true, true, true, true, true, true, true, true, true, true, true, true, true, true, true, true, true, true, true, true, false, false, false] rfl rfl (any_of HT_.out (by kernel_rfl)) (fun _ _ _ h => h) (Or.inl ⟨by rfl, ?_⟩) ?_ ?_
          rotate_left
          · intro w'
            go_simp
            with_reducible rfl
          rotate_left
          · simp only [Act.put, List.setIfInBounds_toArray, List.set_cons_zero, List.set_cons_succ, i64_w, i32_w]
            rfl
          refine pure_ (i := 21) (N := some 15) (v := ?_) (a' := ?_) #[true, true, true, true, true, true, true, true, true, true, true, true, true, true, true, true, true, true, true, true, true, true, false, false] rfl rfl (any_of HT_.out (by kernel_rfl)) (fun _ _ _ h => h) (Or.inl ⟨by rfl, ?_⟩) ?_ ?_
          rotate_left
          · intro w'
            go_simp
            with_reducible rfl
          rotate_left
          · simp only [Act.put, List.setIfInBounds_toArray, List.set_cons_zero, List.set_cons_succ, i64_w, i32_w]
            rfl
          refine pure_ (i := 22) (N := some 16) (v := ?_) (a' := ?_) #[true, true, true, true, true, true, true, true, true, true, true, true, true, true, true, true, true, true, true, true, true, true, true, false] rfl rfl (any_of HT_.out (by kernel_rfl)) (fun _ _ _ h => h) (Or.inl ⟨by rfl, ?_⟩) ?_ ?_
          rotate_left
          · intro w'
            go_simp
            with_reducible rfl
          rotate_left
          · simp only [Act.put, List.setIfInBounds_toArray, List.set_cons_zero, List.set_cons_succ, i64_w, i32_w]
            rfl
          refine pure_ (i := 23) (N := some 17) (v := ?_) (a' := ?_) #[true, true, true, true, true, true, true, true, true, true, true, true, true, true, true, true, true, true, true, true, true, true, true, true] rfl rfl (any_of HT_.out (by kernel_rfl)) (fun _ _ _ h => h) (Or.inl ⟨by rfl, ?_⟩) ?_ ?_
          rotate_left
          · intro w'
            go_simp
            with_reducible rfl
          rotate_left
          · simp only [Act.put, List.setIfInBounds_toArray, List.set_cons_zero, List.set_cons_succ, i64_w, i32_w]
            rfl
          refine done_ (done_of HT_.out (by kernel_rfl)) ?_
          clear hS0 hHeld HT_ HW_ HC
          go_wp2
          replace HS := Aside0.mk HS.out.drew
          generalize wr.drew = w6 at HS ⊢
          have hll := sch_len l 48
          have HGW := Aside0.mk (show ∀ (k : Nat), k < 64 → ∀ w' : World, w'.heap = w6.heap → w'.cell? ⟨w.heap.size + 1 + 1, k, none⟩ = some (.int .u32 (rd (sch l 48) (k : Int))) from fun k hk w' hh => (cell_of (show w'.heap[w.heap.size + 1 + 1]? = _ by rw [hh]; exact HS.out.x)).2 (cw_get (by omega)))
          have HTW := Aside0.mk (HTAB.out.below HS.out.b)
          clear hll
          go_loopw [10, 11, 12, 13, 14, 15, 16, 17, 119] (fun a b c d e f g h i wr => ∃ (k : Nat) (r : S8), k ≤ 64 ∧ Aside0 (r = rnds kTab (sch l 48) (s0, s1, s2, s3, s4, s5, s6, s7) k) ∧ a = .int .u32 r.1 ∧ b = .int .u32 r.2.1 ∧ c = .int .u32 r.2.2.1 ∧ d = .int .u32 r.2.2.2.1 ∧ e = .int .u32 r.2.2.2.2.1 ∧ f = .int .u32 r.2.2.2.2.2.1 ∧ g = .int .u32 r.2.2.2.2.2.2.1 ∧ h = .int .u32 r.2.2.2.2.2.2.2 ∧ i = .int .i64 (k : Int) ∧ Aside0 (wr.heap = w6.heap) ∧ Aside0 (Below w.heap.size w wr)) (fun _ _ _ _ _ _ _ _ i _ => 64 - (intOf i).toNat)
          case atStart => exact ⟨0, (s0, s1, s2, s3, s4, s5, s6, s7), Nat.zero_le _, ⟨rfl⟩, rfl, rfl, rfl, rfl, rfl, rfl, rfl, rfl, rfl, ⟨rfl⟩, ⟨HS.out.b⟩⟩
          case round =>
            obtain ⟨k, ⟨a, b, c', d, e, f, g, h⟩, hk, HRN, rfl, rfl, rfl, rfl, rfl, rfl, rfl, rfl, rfl, HH, HB⟩ := hrel
            by_cases hlt : k < 64
            · have hk64 : (k : Int) < 64 := by omega
              have HN := Aside0.mk (show rnds kTab (sch l 48) (s0, s1, s2, s3, s4, s5, s6, s7) (k + 1) = rnd (rd kTab (k : Int)) (rd (sch l 48) (k : Int)) (a, b, c', d, e, f, g, h) by rw [HRN.out]; rfl)
              have HK := Aside0.mk (show ∀ w' : World, w'.heap = wr.heap → w'.cell? ⟨2, k, none⟩ = some (.int .u32 (rd kTab (k : Int))) ∧ w'.cell? ⟨w.heap.size + 1 + 1, k, none⟩ = some (.int .u32 (rd (sch l 48) (k : Int))) from fun w' hh => ⟨by have h := HTW.out.k k hlt; unfold World.cell? at h ⊢; rw [hh.trans HH.out]; exact h, HGW.out k hlt w' (hh.trans HH.out)⟩)
              generalize rd kTab (k : Int) = kk at HN HK
              generalize rd (sch l 48) (k : Int) = ww at HN HK
              clear HRN
              have hS0 : wr.drew.heap = wr.heap := rfl
              simp only []
              go_upto_region 16 with (fail)
              refine start_ (n := 28) (S := fun w' => w'.heap = wr.heap) (ds := []) #[false, false, false, false, false, false, false, false, false, false, false, false, false, false, false, false, false, false, false, false, false, false, false, false, false, false, false, false] (by kernel_rfl) rfl rfl (by exact hS0) (fun hHeld => ?_)
              refine with_tabW blk_tab16 blk_bits16 (fun HT_ HW_ => ?_)
              refine pure_ (i := 0) (N := some 122) (v := ?_) (a' := ?_) #[true, false, false, false, false, false, false, false, false, false, false, false, false, false, false, false, false, false, false, false, false, false, false, false, false, false, false, false] rfl rfl (any_of HT_.out (by kernel_rfl)) (fun _ _ _ h => h) (Or.inl ⟨by rfl, ?_⟩) ?_ ?_
              rotate_left
              · intro w'
                go_simp
                with_reducible rfl
              rotate_left
              · simp only [Act.put, List.setIfInBounds_toArray, List.set_cons_zero, List.set_cons_succ, i64_w, i32_w]
                rfl
              refine pure_ (i := 1) (N := some 123) (v := ?_) (a' := ?_) #[true, true, false, false, false, false, false, false, false, false, false, false, false, false, false, false, false, false, false, false, false, false, false, false, false, false, false, false] rfl rfl (any_of HT_.out (by kernel_rfl)) (fun _ _ _ h => h) (Or.inl ⟨by rfl, ?_⟩) ?_ ?_
              rotate_left
              · intro w'
                go_simp
                with_reducible rfl
              rotate_left
              · simp only [Act.put, List.setIfInBounds_toArray, List.set_cons_zero, List.set_cons_succ, i64_w, i32_w]
                rfl
              refine pure_ (i := 3) (N := some 125) (v := ?_) (a' := ?_) #[true, true, false, true, false, false, false, false, false, false, false, false, false, false, false, false, false, false, false, false, false, false, false, false, false, false, false, false] rfl rfl (any_of HT_.out (by kernel_rfl)) (fun _ _ _ h => h) (Or.inl ⟨by rfl, ?_⟩) ?_ ?_
              rotate_left
              · intro w'
                go_simp
                with_reducible rfl
              rotate_left
              · simp only [Act.put, List.setIfInBounds_toArray, List.set_cons_zero, List.set_cons_succ, i64_w, i32_w]
                rfl
              refine pure_ (i := 6) (N := some 128) (v := ?_) (a' := ?_) #[true, true, false, true, false, false, true, false, false, false, false, false, false, false, false, false, false, false, false, false, false, false, false, false, false, false, false, false] rfl rfl (any_of HT_.out (by kernel_rfl)) (fun _ _ _ h => h) (Or.inl ⟨by rfl, ?_⟩) ?_ ?_
              rotate_left
              · intro w'
                go_simp
                with_reducible rfl
              rotate_left
              · simp only [Act.put, List.setIfInBounds_toArray, List.set_cons_zero, List.set_cons_succ, i64_w, i32_w]
                rfl
              refine pure_ (i := 10) (N := some 132) (v := ?_) (a' := ?_) #[true, true, false, true, false, false, true, false, false, false, true, false, false, false, false, false, false, false, false, false, false, false, false, false, false, false, false, false] rfl rfl (any_of HT_.out (by kernel_rfl)) (fun _ _ _ h => h) (Or.inl ⟨by rfl, ?_⟩) ?_ ?_
              rotate_left
              · intro w'
                go_simp
                with_reducible rfl
              rotate_left
              · simp only [Act.put, List.setIfInBounds_toArray, List.set_cons_zero, List.set_cons_succ, i64_w, i32_w]
                rfl
              refine pure_ (i := 11) (N := some 133) (v := ?_) (a' := ?_) #[true, true, false, true, false, false, true, false, false, false, true, true, false, false, false, false, false, false, false, false, false, false, false, false, false, false, false, false] rfl rfl (any_of HT_.out (by kernel_rfl)) (fun _ _ _ h => h) (Or.inl ⟨by rfl, ?_⟩) ?_ ?_
              rotate_left
              · intro w'
                go_simp
                with_reducible rfl
              rotate_left
              · simp only [Act.put, List.setIfInBounds_toArray, List.set_cons_zero, List.set_cons_succ, i64_w, i32_w]
                rfl
              refine pure_ (i := 12) (N := some 134) (v := ?_) (a' := ?_) #[true, true, false, true, false, false, true, false, false, false, true, true, true, false, false, false, false, false, false, false, false, false, false, false, false, false, false, false] rfl rfl (any_of HT_.out (by kernel_rfl)) (fun _ _ _ h => h) (Or.inl ⟨by rfl, ?_⟩) ?_ ?_
              rotate_left
              · intro w'
                go_simp
                with_reducible rfl
              rotate_left
              · simp only [Act.put, List.setIfInBounds_toArray, List.set_cons_zero, List.set_cons_succ, i64_w, i32_w]
                rfl
              refine pure_ (i := 13) (N := some 135) (v := ?_) (a' := ?_) #[true, true, false, true, false, false, true, false, false, false, true, true, true, true, false, false, false, false, false, false, false, false, false, false, false, false, false, false] rfl rfl (any_of HT_.out (by kernel_rfl)) (fun _ _ _ h => h) (Or.inl ⟨by rfl, ?_⟩) ?_ ?_
              rotate_left
              · intro w'
                go_simp
                with_reducible rfl
              rotate_left
              · simp only [Act.put, List.setIfInBounds_toArray, List.set_cons_zero, List.set_cons_succ, i64_w, i32_w]
                rfl
              refine pure_ (i := 14) (N := some 136) (v := ?_) (a' := ?_) #[true, true, false, true, false, false, true, false, false, false, true, true, true, true, true, false, false, false, false, false, false, false, false, false, false, false, false, false] rfl rfl (any_of HT_.out (by kernel_rfl)) (fun _ _ _ h => h) (Or.inl ⟨by rfl, ?_⟩) ?_ ?_
              rotate_left
              · intro w'
                go_simp
                with_reducible rfl
              rotate_left
              · simp only [Act.put, List.setIfInBounds_toArray, List.set_cons_zero, List.set_cons_succ, i64_w, i32_w]
                rfl
              refine pure_ (i := 15) (N := some 137) (v := ?_) (a' := ?_) #[true, true, false, true, false, false, true, false, false, false, true, true, true, true, true, true, false, false, false, false, false, false, false, false, false, false, false, false] rfl rfl (any_of HT_.out (by kernel_rfl)) (fun _ _ _ h => h) (Or.inl ⟨by rfl, ?_⟩) ?_ ?_
              rotate_left
              · intro w'
                go_simp
                with_reducible rfl
              rotate_left
              · simp only [Act.put, List.setIfInBounds_toArray, List.set_cons_zero, List.set_cons_succ, i64_w, i32_w]
                rfl
              refine pure_ (i := 16) (N := some 138) (v := ?_) (a' := ?_) #[true, true, false, true, false, false, true, false, false, false, true, true, true, true, true, true, true, false, false, false, false, false, false, false, false, false, false, false] rfl rfl (any_of HT_.out (by kernel_rfl)) (fun _ _ _ h => h) (Or.inl ⟨by rfl, ?_⟩) ?_ ?_
              rotate_left
              · intro w'
                go_simp
                with_reducible rfl
              rotate_left
              · simp only [Act.put, List.setIfInBounds_toArray, List.set_cons_zero, List.set_cons_succ, i64_w, i32_w]
                rfl
              refine pure_ (i := 17) (N := some 139) (v := ?_) (a' := ?_) #[true, true, false, true, false, false, true, false, false, false, true, true, true, true, true, true, true, true, false, false, false, false, false, false, false, false, false, false] rfl rfl (any_of HT_.out (by kernel_rfl)) (fun _ _ _ h => h) (Or.inl ⟨by rfl, ?_⟩) ?_ ?_
              rotate_left
              · intro w'
                go_simp
                with_reducible rfl
              rotate_left
              · simp only [Act.put, List.setIfInBounds_toArray, List.set_cons_zero, List.set_cons_succ, i64_w, i32_w]
                rfl
              refine pure_ (i := 19) (N := some 141) (v := ?_) (a' := ?_) #[true, true, false, true, false, false, true, false, false, false, true, true, true, true, true, true, true, true, false, true, false, false, false, false, false, false, false, false] rfl rfl (any_of HT_.out (by kernel_rfl)) (fun _ _ _ h => h) (Or.inl ⟨by rfl, ?_⟩) ?_ ?_
              rotate_left
              · intro w'
                go_simp
                with_reducible rfl
              rotate_left
              · simp only [Act.put, List.setIfInBounds_toArray, List.set_cons_zero, List.set_cons_succ, i64_w, i32_w]
                rfl
              refine pure_ (i := 20) (N := some 142) (v := ?_) (a' := ?_) #[true, true, false, true, false, false, true, false, false, false, true, true, true, true, true, true, true, true, false, true, true, false, false, false, false, false, false, false] rfl rfl (any_of HT_.out (by kernel_rfl)) (fun _ _ _ h => h) (Or.inl ⟨by rfl, ?_⟩) ?_ ?_
              rotate_left
              · intro w'
                go_simp
                with_reducible rfl
              rotate_left
              · simp only [Act.put, List.setIfInBounds_toArray, List.set_cons_zero, List.set_cons_succ, i64_w, i32_w]
                rfl
              refine take_ (i := 21) (N := some 143) (v := ?_) (a' := ?_) #[true, true, false, true, false, false, true, false, false, false, true, true, true, true, true, true, true, true, false, true, true, true, false, false, false, false, false, false] rfl rfl (take_ofW HT_.out HW_.out (by kernel_rfl)) (fun _ _ _ h => h) (Or.inl ⟨by rfl, ?_⟩) hHeld ?_ ?_
              rotate_left
              · intro w' hSt
                have hx := (HK.out w' hSt).1
                go_simp
                with_reducible rfl
              rotate_left
              · simp only [Act.put, List.setIfInBounds_toArray, List.set_cons_zero, List.set_cons_succ, i64_w, i32_w]
                rfl
              refine pure_ (i := 23) (N := some 145) (v := ?_) (a' := ?_) #[true, true, false, true, false, false, true, false, false, false, true, true, true, true, true, true, true, true, false, true, true, true, false, true, false, false, false, false] rfl rfl (any_of HT_.out (by kernel_rfl)) (fun _ _ _ h => h) (Or.inl ⟨by rfl, ?_⟩) ?_ ?_
              rotate_left
              · intro w'
                go_simp
                with_reducible rfl
              rotate_left
              · simp only [Act.put, List.setIfInBounds_toArray, List.set_cons_zero, List.set_cons_succ, i64_w, i32_w]
                rfl
              refine pure_ (i := 24) (N := some 146) (v := ?_) (a' := ?_) #[true, true, false, true, false, false, true, false, false, false, true, true, true, true, true, true, true, true, false, true, true, true, false, true, true, false, false, false] rfl rfl (any_of HT_.out (by kernel_rfl)) (fun _ _ _ h => h) (Or.inl ⟨by rfl, ?_⟩) ?_ ?_
              rotate_left
              · intro w'
                go_simp
                with_reducible rfl
              rotate_left
              · simp only [Act.put, List.setIfInBounds_toArray, List.set_cons_zero, List.set_cons_succ, i64_w, i32_w]
                rfl
              refine take_ (i := 25) (N := some 147) (v := ?_) (a' := ?_) #[true, true, false, true, false, false, true, false, false, false, true, true, true, true, true, true, true, true, false, true, true, true, false, true, true, true, false, false] rfl rfl (take_ofW HT_.out HW_.out (by kernel_rfl)) (fun _ _ _ h => h) (Or.inl ⟨by rfl, ?_⟩) hHeld ?_ ?_
              rotate_left
              · intro w' hSt
                have hx := (HK.out w' hSt).2
                go_simp
                with_reducible rfl
              rotate_left
              · simp only [Act.put, List.setIfInBounds_toArray, List.set_cons_zero, List.set_cons_succ, i64_w, i32_w]
                rfl
              refine one_ (i := 2) (N := some 124) #[true, true, true, true, false, false, true, false, false, false, true, true, true, true, true, true, true, true, false, true, true, true, false, true, true, true, false, false] rfl rfl (one_of HT_.out (by kernel_rfl)) (by decide) (fun K hK => ?_)
              refine goes_ Tryd.func74 (by kernel_rfl) rfl #[.int .u32 e, .int .i64 6] (by rfl) rfl rfl (by (try simp only [List.map_toArray, List.map_cons, List.map_nil]); first | done | rfl) ?_
              refine (right_calls e 6 (by decide) (by decide) _).mono ?_
              rintro e w9 ⟨rfl, rfl⟩
              refine ⟨_, rfl, ?_⟩
              refine hK.out _ _ (by exact hS0) (fun hHeld => ?_)
              clear hK K
              refine norm_ (a' := ?_) ?_ ?_
              rotate_left
              · first
                | (show Act.put _ (some 124) _ = _; simp only [Act.put, List.setIfInBounds_toArray, List.set_cons_zero, List.set_cons_succ, i64_w, i32_w]; rfl)
                | rfl
              refine one_ (i := 4) (N := some 126) #[true, true, true, true, true, false, true, false, false, false, true, true, true, true, true, true, true, true, false, true, true, true, false, true, true, true, false, false] rfl rfl (one_of HT_.out (by kernel_rfl)) (by decide) (fun K hK => ?_)
              refine goes_ Tryd.func74 (by kernel_rfl) rfl #[.int .u32 e, .int .i64 11] (by rfl) rfl rfl (by (try simp only [List.map_toArray, List.map_cons, List.map_nil]); first | done | rfl) ?_
              refine (right_calls e 11 (by decide) (by decide) _).mono ?_
              rintro e w9 ⟨rfl, rfl⟩
              refine ⟨_, rfl, ?_⟩
              refine hK.out _ _ (by exact hS0) (fun hHeld => ?_)
              clear hK K
              refine norm_ (a' := ?_) ?_ ?_
              rotate_left
              · first
                | (show Act.put _ (some 126) _ = _; simp only [Act.put, List.setIfInBounds_toArray, List.set_cons_zero, List.set_cons_succ, i64_w, i32_w]; rfl)
                | rfl
              refine pure_ (i := 5) (N := some 127) (v := ?_) (a' := ?_) #[true, true, true, true, true, true, true, false, false, false, true, true, true, true, true, true, true, true, false, true, true, true, false, true, true, true, false, false] rfl rfl (any_of HT_.out (by kernel_rfl)) (fun _ _ _ h => h) (Or.inl ⟨by rfl, ?_⟩) ?_ ?_
              rotate_left
              · intro w'
                go_simp
                with_reducible rfl
              rotate_left
              · simp only [Act.put, List.setIfInBounds_toArray, List.set_cons_zero, List.set_cons_succ, i64_w, i32_w]
                rfl
              refine one_ (i := 7) (N := some 129) #[true, true, true, true, true, true, true, true, false, false, true, true, true, true, true, true, true, true, false, true, true, true, false, true, true, true, false, false] rfl rfl (one_of HT_.out (by kernel_rfl)) (by decide) (fun K hK => ?_)
              refine goes_ Tryd.func74 (by kernel_rfl) rfl #[.int .u32 e, .int .i64 25] (by rfl) rfl rfl (by (try simp only [List.map_toArray, List.map_cons, List.map_nil]); first | done | rfl) ?_
              refine (right_calls e 25 (by decide) (by decide) _).mono ?_
              rintro e w9 ⟨rfl, rfl⟩
              refine ⟨_, rfl, ?_⟩
              refine hK.out _ _ (by exact hS0) (fun hHeld => ?_)
              clear hK K
              refine norm_ (a' := ?_) ?_ ?_
              rotate_left
              · first
                | (show Act.put _ (some 129) _ = _; simp only [Act.put, List.setIfInBounds_toArray, List.set_cons_zero, List.set_cons_succ, i64_w, i32_w]; rfl)
                | rfl
              refine pure_ (i := 8) (N := some 130) (v := ?_) (a' := ?_) #[true, true, true, true, true, true, true, true, true, false, true, true, true, true, true, true, true, true, false, true, true, true, false, true, true, true, false, false] rfl rfl (any_of HT_.out (by kernel_rfl)) (fun _ _ _ h => h) (Or.inl ⟨by rfl, ?_⟩) ?_ ?_
              rotate_left
              · intro w'
                go_simp
                with_reducible rfl
              rotate_left
              · simp only [Act.put, List.setIfInBounds_toArray, List.set_cons_zero, List.set_cons_succ, i64_w, i32_w]
                rfl
              refine pure_ (i := 9) (N := some 131) (v := ?_) (a' := ?_) #[true, true, true, true, true, true, true, true, true, true, true, true, true, true, true, true, true, true, false, true, true, true, false, true, true, true, false, false] rfl rfl (any_of HT_.out (by kernel_rfl)) (fun _ _ _ h => h) (Or.inl ⟨by rfl, ?_⟩) ?_ ?_
              rotate_left
              · intro w'
                go_simp
                with_reducible rfl
              rotate_left
              · simp only [Act.put, List.setIfInBounds_toArray, List.set_cons_zero, List.set_cons_succ, i64_w, i32_w]
                rfl
              refine pure_ (i := 18) (N := some 140) (v := ?_) (a' := ?_) #[true, true, true, true, true, true, true, true, true, true, true, true, true, true, true, true, true, true, true, true, true, true, false, true, true, true, false, false] rfl rfl (any_of HT_.out (by kernel_rfl)) (fun _ _ _ h => h) (Or.inl ⟨by rfl, ?_⟩) ?_ ?_
              rotate_left
              · intro w'
                go_simp
                with_reducible rfl
              rotate_left
              · simp only [Act.put, List.setIfInBounds_toArray, List.set_cons_zero, List.set_cons_succ, i64_w, i32_w]
                rfl
              refine pure_ (i := 22) (N := some 144) (v := ?_) (a' := ?_) #[true, true, true, true, true, true, true, true, true, true, true, true, true, true, true, true, true, true, true, true, true, true, true, true, true, true, false, false] rfl rfl (any_of HT_.out (by kernel_rfl)) (fun _ _ _ h => h) (Or.inl ⟨by rfl, ?_⟩) ?_ ?_
              rotate_left
              · intro w'
                go_simp
                with_reducible rfl
              rotate_left
              · simp only [Act.put, List.setIfInBounds_toArray, List.set_cons_zero, List.set_cons_succ, i64_w, i32_w]
                rfl
              refine pure_ (i := 26) (N := some 148) (v := ?_) (a' := ?_) #[true, true, true, true, true, true, true, true, true, true, true, true, true, true, true, true, true, true, true, true, true, true, true, true, true, true, true, false] rfl rfl (any_of HT_.out (by kernel_rfl)) (fun _ _ _ h => h) (Or.inl ⟨by rfl, ?_⟩) ?_ ?_
              rotate_left
              · intro w'
                go_simp
                with_reducible rfl
              rotate_left
              · simp only [Act.put, List.setIfInBounds_toArray, List.set_cons_zero, List.set_cons_succ, i64_w, i32_w]
                rfl
              refine pure_ (i := 27) (N := some 19) (v := ?_) (a' := ?_) #[true, true, true, true, true, true, true, true, true, true, true, true, true, true, true, true, true, true, true, true, true, true, true, true, true, true, true, true] rfl rfl (any_of HT_.out (by kernel_rfl)) (fun _ _ _ h => h) (Or.inl ⟨by rfl, ?_⟩) ?_ ?_
              rotate_left
              · intro w'
                go_simp
                with_reducible rfl
              rotate_left
              · simp only [Act.put, List.setIfInBounds_toArray, List.set_cons_zero, List.set_cons_succ, i64_w, i32_w]
                rfl
              refine done_ (done_of HT_.out (by kernel_rfl)) ?_
              clear hS0 hHeld HT_ HW_ HK
              replace HH := Aside0.mk (show wr.drew.heap = w6.heap from HH.out)
              replace HB := Aside0.mk (below_drew1 HB.out)
              generalize wr.drew = w7 at HH HB ⊢
              go_wp2_with fail
              refine (right_calls a 2 (by decide) (by decide) _).mono ?_
              rintro e' w8 ⟨rfl, rfl⟩
              go_wp2_with fail
              refine (right_calls a 13 (by decide) (by decide) _).mono ?_
              rintro e' w8 ⟨rfl, rfl⟩
              go_wp2_with fail
              refine (right_calls a 22 (by decide) (by decide) _).mono ?_
              rintro e' w8 ⟨rfl, rfl⟩
              go_wp2
              go_roundw
              case rel => exact ⟨k + 1, _, by omega, ⟨HN.out.symm⟩, rfl, rfl, rfl, rfl, rfl, rfl, rfl, rfl, by go_num, HH, HB⟩
              case measure => simp [intOf]; omega
            · obtain rfl : k = 64 := by omega
              clear hlt hk
              rw [show ((64 : Nat) : Int) = 64 from rfl]
              replace HS := Aside0.mk (show St w wr (c8 (s0, s1, s2, s3, s4, s5, s6, s7)) (c8 (0, 0, 0, 0, 0, 0, 0, 0)) (sch l 48) from ⟨by rw [HH.out]; exact HS.out.s, by rw [HH.out]; exact HS.out.z, by rw [HH.out]; exact HS.out.x, HB.out⟩)
              rw [← HRN.out] at HBLK
              clear HRN HH HB HGW HTW HY HTAB HR
              generalize sch l 48 = xs at HS
              simp only []
              go_wp2
              go_loopw [191] (fun i wr => ∃ k : Nat, k ≤ 8 ∧ i = .int .i64 (k : Int) ∧ Aside0 (St w wr (c8 (mix (s0, s1, s2, s3, s4, s5, s6, s7) (a, b, c', d, e, f, g, h) k)) (c8 (0, 0, 0, 0, 0, 0, 0, 0)) xs)) (fun i _ => 8 - (intOf i).toNat)
              case atStart => exact ⟨0, Nat.zero_le _, rfl, HS⟩
              case round =>
                clear HS
                obtain ⟨k, hk, rfl, HS⟩ := hrel
                by_cases hlt : k < 8
                · obtain rfl | rfl | rfl | rfl | rfl | rfl | rfl | rfl : k = 0 ∨ k = 1 ∨ k = 2 ∨ k = 3 ∨ k = 4 ∨ k = 5 ∨ k = 6 ∨ k = 7 := by omega
                  · have hx := (cell_of HS.out.s (j := 0)).2 rfl
                    have hf := HS.out.frozenS 0
                    rw [show ((0 : Nat) : Int) = 0 from rfl]
                    have hi : ∀ w : World, (Instr.index 59 (.agg #[.int .u32 a, .int .u32 b, .int .u32 c', .int .u32 d, .int .u32 e, .int .u32 f, .int .u32 g, .int .u32 h]) (.int .i64 0)).run Tryd.prog w = .ok (.int .u32 a) w := fun _ => by kernel_rfl
                    clear hlt
                    go_wp2
                    go_roundw
                    case rel => exact ⟨1, by omega, rfl, ⟨HS.out.setS 0 _⟩⟩
                    case measure => simp [intOf]
                  · have hx := (cell_of HS.out.s (j := 1)).2 rfl
                    have hf := HS.out.frozenS 1
                    rw [show ((1 : Nat) : Int) = 1 from rfl]
                    have hi : ∀ w : World, (Instr.index 59 (.agg #[.int .u32 a, .int .u32 b, .int .u32 c', .int .u32 d, .int .u32 e, .int .u32 f, .int .u32 g, .int .u32 h]) (.int .i64 1)).run Tryd.prog w = .ok (.int .u32 b) w := fun _ => by kernel_rfl
                    clear hlt
                    go_wp2
                    go_roundw
                    case rel => exact ⟨2, by omega, rfl, ⟨HS.out.setS 1 _⟩⟩
                    case measure => simp [intOf]
                  · have hx := (cell_of HS.out.s (j := 2)).2 rfl
                    have hf := HS.out.frozenS 2
                    rw [show ((2 : Nat) : Int) = 2 from rfl]
                    have hi : ∀ w : World, (Instr.index 59 (.agg #[.int .u32 a, .int .u32 b, .int .u32 c', .int .u32 d, .int .u32 e, .int .u32 f, .int .u32 g, .int .u32 h]) (.int .i64 2)).run Tryd.prog w = .ok (.int .u32 c') w := fun _ => by kernel_rfl
                    clear hlt
                    go_wp2
                    go_roundw
                    case rel => exact ⟨3, by omega, rfl, ⟨HS.out.setS 2 _⟩⟩
                    case measure => simp [intOf]
                  · have hx := (cell_of HS.out.s (j := 3)).2 rfl
                    have hf := HS.out.frozenS 3
                    rw [show ((3 : Nat) : Int) = 3 from rfl]
                    have hi : ∀ w : World, (Instr.index 59 (.agg #[.int .u32 a, .int .u32 b, .int .u32 c', .int .u32 d, .int .u32 e, .int .u32 f, .int .u32 g, .int .u32 h]) (.int .i64 3)).run Tryd.prog w = .ok (.int .u32 d) w := fun _ => by kernel_rfl
                    clear hlt
                    go_wp2
                    go_roundw
                    case rel => exact ⟨4, by omega, rfl, ⟨HS.out.setS 3 _⟩⟩
                    case measure => simp [intOf]
                  · have hx := (cell_of HS.out.s (j := 4)).2 rfl
                    have hf := HS.out.frozenS 4
                    rw [show ((4 : Nat) : Int) = 4 from rfl]
                    have hi : ∀ w : World, (Instr.index 59 (.agg #[.int .u32 a, .int .u32 b, .int .u32 c', .int .u32 d, .int .u32 e, .int .u32 f, .int .u32 g, .int .u32 h]) (.int .i64 4)).run Tryd.prog w = .ok (.int .u32 e) w := fun _ => by kernel_rfl
                    clear hlt
                    go_wp2
                    go_roundw
                    case rel => exact ⟨5, by omega, rfl, ⟨HS.out.setS 4 _⟩⟩
                    case measure => simp [intOf]
                  · have hx := (cell_of HS.out.s (j := 5)).2 rfl
                    have hf := HS.out.frozenS 5
                    rw [show ((5 : Nat) : Int) = 5 from rfl]
                    have hi : ∀ w : World, (Instr.index 59 (.agg #[.int .u32 a, .int .u32 b, .int .u32 c', .int .u32 d, .int .u32 e, .int .u32 f, .int .u32 g, .int .u32 h]) (.int .i64 5)).run Tryd.prog w = .ok (.int .u32 f) w := fun _ => by kernel_rfl
                    clear hlt
                    go_wp2
                    go_roundw
                    case rel => exact ⟨6, by omega, rfl, ⟨HS.out.setS 5 _⟩⟩
                    case measure => simp [intOf]
                  · have hx := (cell_of HS.out.s (j := 6)).2 rfl
                    have hf := HS.out.frozenS 6
                    rw [show ((6 : Nat) : Int) = 6 from rfl]
                    have hi : ∀ w : World, (Instr.index 59 (.agg #[.int .u32 a, .int .u32 b, .int .u32 c', .int .u32 d, .int .u32 e, .int .u32 f, .int .u32 g, .int .u32 h]) (.int .i64 6)).run Tryd.prog w = .ok (.int .u32 g) w := fun _ => by kernel_rfl
                    clear hlt
                    go_wp2
                    go_roundw
                    case rel => exact ⟨7, by omega, rfl, ⟨HS.out.setS 6 _⟩⟩
                    case measure => simp [intOf]
                  · have hx := (cell_of HS.out.s (j := 7)).2 rfl
                    have hf := HS.out.frozenS 7
                    rw [show ((7 : Nat) : Int) = 7 from rfl]
                    have hi : ∀ w : World, (Instr.index 59 (.agg #[.int .u32 a, .int .u32 b, .int .u32 c', .int .u32 d, .int .u32 e, .int .u32 f, .int .u32 g, .int .u32 h]) (.int .i64 7)).run Tryd.prog w = .ok (.int .u32 h) w := fun _ => by kernel_rfl
                    clear hlt
                    go_wp2
                    go_roundw
                    case rel => exact ⟨8, by omega, rfl, ⟨HS.out.setS 7 _⟩⟩
                    case measure => simp [intOf]
                · obtain rfl : k = 8 := by omega
                  clear hlt hk
                  rw [← HBLK.out] at HS
                  obtain ⟨r0, r1, r2, r3, r4, r5, r6, r7⟩ := R
                  have hx0 := (cell_of HS.out.s (j := 0)).2 rfl
                  have hx1 := (cell_of HS.out.s (j := 1)).2 rfl
                  have hx2 := (cell_of HS.out.s (j := 2)).2 rfl
                  have hx3 := (cell_of HS.out.s (j := 3)).2 rfl
                  have hx4 := (cell_of HS.out.s (j := 4)).2 rfl
                  have hx5 := (cell_of HS.out.s (j := 5)).2 rfl
                  have hx6 := (cell_of HS.out.s (j := 6)).2 rfl
                  have hx7 := (cell_of HS.out.s (j := 7)).2 rfl
                  have hz0 := (cell_of HS.out.z (j := 0)).2 rfl
                  have hf0 := HS.out.frozenZ 0
                  have hz1 := (cell_of HS.out.z (j := 1)).2 rfl
                  have hf1 := HS.out.frozenZ 1
                  have hz2 := (cell_of HS.out.z (j := 2)).2 rfl
                  have hf2 := HS.out.frozenZ 2
                  have hz3 := (cell_of HS.out.z (j := 3)).2 rfl
                  have hf3 := HS.out.frozenZ 3
                  have hz4 := (cell_of HS.out.z (j := 4)).2 rfl
                  have hf4 := HS.out.frozenZ 4
                  have hz5 := (cell_of HS.out.z (j := 5)).2 rfl
                  have hf5 := HS.out.frozenZ 5
                  have hz6 := (cell_of HS.out.z (j := 6)).2 rfl
                  have hf6 := HS.out.frozenZ 6
                  have hz7 := (cell_of HS.out.z (j := 7)).2 rfl
                  have hf7 := HS.out.frozenZ 7
                  rw [show ((8 : Nat) : Int) = 8 from rfl]
                  clear HBLK
                  go_wp2
                  have HZ := Aside0.mk (HS.out.setZ8 r0 r1 r2 r3 r4 r5 r6 r7)
                  clear HS hx0 hx1 hx2 hx3 hx4 hx5 hx6 hx7 hz0 hz1 hz2 hz3 hz4 hz5 hz6 hz7 hf0 hf1 hf2 hf3 hf4 hf5 hf6 hf7
                  generalize World.setCell _ _ _ = w9 at HZ ⊢
                  (try simp only [Exit.inBlock, Exit.then])
                  refine bodyPost_ret (results_cell_row rfl _ _ (w.heap.size + 1) 59 (c8 (r0, r1, r2, r3, r4, r5, r6, r7)) (0, 0) _ rfl HZ.out.z Tryd.underlying59 rfl (by kernel_rfl)) rfl ?_
                  exact ⟨rfl, HZ.out.b⟩
end Go.Proofs.YtlojemnmdakfiaaDoor.Sha
end
