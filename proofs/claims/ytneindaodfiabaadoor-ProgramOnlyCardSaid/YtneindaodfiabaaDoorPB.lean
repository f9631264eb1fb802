/- What calls of Go functions of this seat come to, as the rows need it: under the conditions that each theorem names. -/
import Derived.Test.YtneindaodfiabaaDoorFPA
import Derived.Test.YtneindaodfiabaaDoorMay
import Derived.Test.YtneindaodfiabaaDoorRSame
namespace Go.Proofs.YtneindaodfiabaaDoor.Prog6
open Go.RowKit Go.Proofs.YtneindaodfiabaaDoorW.PrintWords Go.Proofs.YtneindaodfiabaaDoorW.PrintLast Go.Proofs.YtneindaodfiabaaDoorW.PrintMore
set_option linter.unusedVariables false
set_option linter.unusedSimpArgs false
open Go.Proofs.YtneindaodfiabaaDoor.Hand (formL rowL appendUint_calls appendBytes_calls formL_len)
def pby_T13 : Bool × List (List Nat × List Nat) := (true, [([], []), ([], []), ([1], [1]), ([2], [2]), ([0, 3], [0, 3]), ([], []), ([5], [5]), ([6], [6]), ([4, 7, 4], [4, 7]), ([8, 8, 0, 1, 2, 3, 4, 5, 6, 7, 8], [0, 8])])
def pby_B13 : List Nat := [0, 0, 2, 6, 15, 0, 32, 96, 255, 511]
theorem pby_tab13 : rtab .any (opsOf Tryd.f13 13) = pby_T13 := by kernel_rfl
theorem pby_bits13 : waitsOk pby_T13.2 pby_B13 = true := by kernel_rfl
set_option maxHeartbeats 3200000 in
set_option maxRecDepth 100000 in
theorem pbytes_calls (A : Option Addr) (c : Nat) (p : List Ins) (w : World) (hr : KP.C w A p.length p) (hc : p.length ≤ c) (hT : Tab w) (hx : ∀ x ∈ p, szOk x) :
    Calls Tryd.prog 13 #[.slice A p.length c] w fun e w' => ∃ v er, e = .returned (.tuple #[v, .int .i64 er]) ∧ (mayP p = false → er = 2 ∧ v = .slice none 0 0) ∧ (mayP p = true → er = 0 ∧ Kd.R RBy 5 w' w.heap.size (fun _ => True) v (progB p)) ∧ Below w.heap.size w w' := by
  have HR := Aside0.mk hr
  have HTAB := Aside0.mk hT
  have HSZ := Aside0.mk hx
  have hl63 : p.length ≤ 9223372036854775807 := hr.2.1
  clear hr hT hx
  go_enter Tryd.func13, Tryd.ntmps13
  go_wp2_with fail
  refine (may_calls A c p w HR.out hc HTAB.out HSZ.out).mono ?_
  rintro e w1 ⟨rfl, hb⟩
  have HB := Aside0.mk hb
  clear hb
  cases hm : mayP p with
  | false =>
    have HM := Aside0.mk hm
    clear hm
    go_wp2
    go_ret2
    exact ⟨_, _, rfl, fun _ => ⟨rfl, rfl⟩, (fun h => by rw [HM.out] at h; cases h), HB.out⟩
  | true =>
  obtain ⟨h30, hok⟩ := may_ok hm
  have HM := Aside0.mk hm
  have HOK := Aside0.mk hok
  have hwl : IntKind.u64.wrap (p.length : Int) = (p.length : Int) := by simp [IntKind.wrap, IntKind.bits, IntKind.signed]; omega
  clear hm hok
  go_wp2_with fail
  refine (appendUint_calls none 0 [] p.length _ ⟨rfl, by simp, fun h => absurd h (by simp)⟩ (Nat.le_refl _) (by omega) (by simp)).mono ?_
  rintro e w2 ⟨v2, rfl, ho, hb⟩
  rw [List.nil_append] at ho
  have HO2 := Aside0.mk (Kd.R_lower ho HB.out.size)
  have HB2 := Aside0.mk (below_step HB.out hb)
  clear ho hb HB hwl
  go_wp2
  go_loopw [4, 18] (fun v i wr => ∃ k : Nat, k ≤ p.length ∧ i = .int .i64 (k : Int) ∧ Aside0 (Kd.R RBy 5 wr w.heap.size (fun _ => True) v (formL p.length ++ ((p.take k).map insB).flatten)) ∧ Aside0 (Below w.heap.size w wr)) (fun _ i _ => p.length - (intOf i).toNat)
  case atStart => exact ⟨0, Nat.zero_le _, rfl, by simpa using HO2, HB2⟩
  case round =>
    clear HO2 HB2
    obtain ⟨k, hk, rfl, HO, HB⟩ := hrel
    by_cases hlt : k < p.length
    · have HLK := Aside0.mk (show (formL p.length ++ ((p.take k).map insB).flatten).length ≤ 6000 by
        have h1 := formL_len p.length (by omega)
        have h2 := len_flat (p := p.take k) (fun x hx => HOK.out x (List.mem_of_mem_take hx))
        rw [List.length_take] at h2
        simp only [List.length_append]
        omega)
      have HTK := Aside0.mk (show formL p.length ++ ((p.take (k + 1)).map insB).flatten = (formL p.length ++ ((p.take k).map insB).flatten) ++ insB p[k] by rw [List.take_succ_eq_append_getElem hlt]; simp only [List.map_append, List.map_cons, List.map_nil, List.flatten_append, List.flatten_cons, List.flatten_nil, List.append_nil, List.append_assoc])
      have HOX := Aside0.mk (HOK.out _ (List.getElem_mem hlt))
      obtain ⟨ad, rfl, x0, x1, x2, x3, x4, x5⟩ := row_cp (Kd.C_below HR.out HB.out) k hlt p[k] (List.getElem?_eq_getElem hlt)
      generalize p[k] = x at x0 x1 x2 x3 x4 x5 HTK HOX
      generalize formL p.length ++ ((p.take k).map insB).flatten = L at HO HTK HLK
      obtain ⟨A2, c2, rfl, hc2, hr2⟩ := Kd.R_reads HO.out
      have HC2 := Aside0.mk hr2
      clear hr2 HO
      go_upto_region 7 with (fail)
      have HBA := Aside0.mk ((Below.refl wr.heap.size wr).alloc (Nat.le_refl _) (.cells (cI x) 26 (0, 0)))
      have HX := Aside0.mk (show BoxI (wr.alloc (.cells (cI x) 26 (0, 0))) wr.heap.size x from heap_new _ _)
      replace HC2 := Aside0.mk (Kd.C_below HC2.out HBA.out)
      replace HB := Aside0.mk (below_step HB.out HBA.out)
      clear HBA
      generalize wr.alloc _ = wa at HX HB HC2 ⊢
      generalize wr.heap.size = b at HX ⊢
      obtain ⟨op, tA, tB, tC, N, M⟩ := x
      have hoI := HOX.out
      obtain ⟨op, rfl⟩ := Int.eq_ofNat_of_zero_le (show 0 ≤ op by have := hoI.1.1; simp only at this; omega)
      obtain ⟨N, rfl⟩ := Int.eq_ofNat_of_zero_le hoI.2.2.2.2.1.1
      obtain ⟨M, rfl⟩ := Int.eq_ofNat_of_zero_le hoI.2.2.2.2.2.1
      have HNM := Aside0.mk (show op ≤ 11 ∧ N ≤ 2000 ∧ M ≤ 2000 by have h1 := hoI.1.2; have h2 := hoI.2.2.2.2.1.2; have h3 := hoI.2.2.2.2.2.2; simp only at h1 h2 h3; omega)
      have HS40 := Aside0.mk (show tA.size ≤ 40 ∧ tB.size ≤ 40 ∧ tC.size ≤ 40 from ⟨hoI.2.1, hoI.2.2.1, hoI.2.2.2.1⟩)
      have hwo : IntKind.u64.wrap (op : Int) = (op : Int) := by have := HNM.out.1; simp [IntKind.wrap, IntKind.bits, IntKind.signed]; omega
      obtain ⟨b0, b1, b2, b3, b4, b5⟩ := HX.out.cu
      simp only [] at b0 b1 b2 b3 b4 b5
      clear hoI x0 x1 x2 x3 x4 x5
      go_wp2_with fail
      refine (appendUint_calls A2 c2 L op _ HC2.out hc2 (by have := HNM.out; omega) (by have := HLK.out; omega)).mono ?_
      rintro e w3 ⟨v3, rfl, ho, hb⟩
      have HO3 := Aside0.mk (Kd.R_lower ho HB.out.size)
      have HB3 := Aside0.mk (below_step HB.out hb)
      replace HX := Aside0.mk (HX.out.below hb)
      clear ho hb HB HC2 b0 b1 b2 b3 b4 b5 hwo
      obtain ⟨b0, b1, b2, b3, b4, b5⟩ := HX.out.cu
      simp only [] at b0 b1 b2 b3 b4 b5
      go_wp2
      obtain ⟨wo, hwo⟩ : ∃ wo, wo = wr := ⟨_, rfl⟩
      subst hwo
      have HLK3 := Aside0.mk (show (L ++ formL op).length ≤ 6010 by have := HLK.out; have := formL_len op (by have := HNM.out; omega); simp only [List.length_append]; omega)
      have HTL := Aside0.mk (show (L ++ formL op) ++ ([rowL (bytesOf tA), rowL (bytesOf tB), rowL (bytesOf tC)].take 3).flatten ++ (formL N ++ formL M) = L ++ insB ((op : Int), tA, tB, tC, (N : Int), (M : Int)) by simp [insB])
      clear b0 b1 b2 b3 b4 b5
      generalize L ++ formL op = L3 at HO3 HLK3 HTL
      go_loopw [4, 34] (fun v i wr => ∃ j : Nat, j ≤ 3 ∧ i = .int .i64 (j : Int) ∧ Aside0 (Kd.R RBy 5 wr w.heap.size (fun _ => True) v (L3 ++ ([rowL (bytesOf tA), rowL (bytesOf tB), rowL (bytesOf tC)].take j).flatten)) ∧ Aside0 (BoxI wr b ((op : Int), tA, tB, tC, (N : Int), (M : Int))) ∧ Aside0 (Below w.heap.size w wr)) (fun _ i _ => 3 - (intOf i).toNat)
      case atStart => exact ⟨0, Nat.zero_le _, rfl, by simpa using HO3, HX, HB3⟩
      case round =>
        clear HO3 HX HB3
        obtain ⟨j, hj, rfl, HO3, HX, HB3⟩ := hrel
        by_cases hj3 : j < 3
        · obtain ⟨s, hs, hs40, hsl⟩ : ∃ s : ByteArray, (∀ W : World, (Instr.index 49 (.agg #[.string tA, .string tB, .string tC]) (.int .i64 (j : Int))).run Tryd.prog W = .ok (.string s) W) ∧ s.size ≤ 40 ∧ [rowL (bytesOf tA), rowL (bytesOf tB), rowL (bytesOf tC)].take (j + 1) = [rowL (bytesOf tA), rowL (bytesOf tB), rowL (bytesOf tC)].take j ++ [rowL (bytesOf s)] := by
            have h := HS40.out
            rcases j with _ | _ | _ | j
            · exact ⟨tA, fun W => rfl, h.1, rfl⟩
            · exact ⟨tB, fun W => rfl, h.2.1, rfl⟩
            · exact ⟨tC, fun W => rfl, h.2.2, rfl⟩
            · omega
          have HSL := Aside0.mk (show L3 ++ ([rowL (bytesOf tA), rowL (bytesOf tB), rowL (bytesOf tC)].take (j + 1)).flatten = (L3 ++ ([rowL (bytesOf tA), rowL (bytesOf tB), rowL (bytesOf tC)].take j).flatten) ++ rowL (bytesOf s) by rw [hsl]; simp)
          have HLJ := Aside0.mk (show (L3 ++ ([rowL (bytesOf tA), rowL (bytesOf tB), rowL (bytesOf tC)].take j).flatten).length ≤ 7000 by
            have h1 := HLK3.out
            have h := HS40.out
            have f := fun s : ByteArray => fun h : s.size ≤ 40 => (show (rowL (bytesOf s)).length ≤ 49 by have := formL_len s.size (by omega); have e := bytesOf_length s; simp only [rowL, List.length_append, e]; omega)
            have fA := f tA h.1
            have fB := f tB h.2.1
            have fC := f tC h.2.2
            rcases j with _ | _ | _ | j
            · simp only [List.take_zero, List.flatten_nil, List.append_nil]; omega
            · simp only [List.take_succ_cons, List.take_zero, List.flatten_cons, List.flatten_nil, List.append_nil, List.length_append]; omega
            · simp only [List.take_succ_cons, List.take_zero, List.flatten_cons, List.flatten_nil, List.append_nil, List.length_append]; omega
            · omega)
          clear hsl
          generalize L3 ++ ([rowL (bytesOf tA), rowL (bytesOf tB), rowL (bytesOf tC)].take j).flatten = LJ at HO3 HSL HLJ
          have HS4 := Aside0.mk hs40
          obtain ⟨A4, c4, rfl, hc4, hr4⟩ := Kd.R_reads HO3.out
          have HC4 := Aside0.mk hr4
          have kb := fun W => print_bytes (P := Tryd.prog) 9 29 5 Tryd.underlying9 Tryd.underlying29 Tryd.underlying5 s W
          have hji : decide ((j : Int) < 3) = true := decide_eq_true (by omega)
          have hjd : decide (j < 3) = true := decide_eq_true hj3
          clear hr4 HO3 hs40
          go_upto_region 11 with (fail)
          go_wp2_with fail
          have happ := appendBytes_calls A4 c4 LJ (some ⟨wr.heap.size, 0, none⟩) (grownCap wr s.size 0 5) (bytesOf s) (Lib.bytesWorld wr 5 s) (Kd.C_below HC4.out (bytes_below (Below.refl _ _) (Nat.le_refl _) _ _)) hc4 (Kd.C_of_reads (h1 := fun _ => rfl) (by rw [bytesOf_length]; exact bytes_reads wr 5 s (by have := HS4.out; omega))) (by rw [bytesOf_length]; exact grownCap_ge _ _ _ _) (by rw [bytesOf_length]; have := HLJ.out; have := HS4.out; omega)
          rw [bytesOf_length] at happ
          refine happ.mono ?_
          rintro e w5 ⟨v5, rfl, ho, hb⟩
          have HBW := Aside0.mk ((bytes_below (Below.refl wr.heap.size wr) (Nat.le_refl _) 5 s).trans (hb.mono (by rw [Lib.bytesWorld_size]; omega)))
          have HO5 := Aside0.mk (Kd.R_lower ho (show w.heap.size ≤ _ by rw [Lib.bytesWorld_size]; have := HB3.out.size; omega))
          replace HX := Aside0.mk (HX.out.below HBW.out)
          replace HB3 := Aside0.mk (below_step HB3.out HBW.out)
          clear happ ho hb HBW HC4 kb hs
          go_wp2
          go_roundw
          case rel => exact ⟨j + 1, by omega, by go_num, by rw [HSL.out]; exact HO5, HX, HB3⟩
          case measure => simp [intOf]; omega
        · obtain rfl : j = 3 := by omega
          clear hj hj3
          obtain ⟨A4, c4, rfl, hc4, hr4⟩ := Kd.R_reads HO3.out
          have HC4 := Aside0.mk hr4
          have HL4 := Aside0.mk (show (L3 ++ ([rowL (bytesOf tA), rowL (bytesOf tB), rowL (bytesOf tC)].take 3).flatten).length ≤ 7000 by
            have h1 := HLK3.out
            have h := HS40.out
            have f := fun s : ByteArray => fun h : s.size ≤ 40 => (show (rowL (bytesOf s)).length ≤ 49 by have := formL_len s.size (by omega); have e := bytesOf_length s; simp only [rowL, List.length_append, e]; omega)
            have fA := f tA h.1
            have fB := f tB h.2.1
            have fC := f tC h.2.2
            simp only [List.take_succ_cons, List.take_zero, List.flatten_cons, List.flatten_nil, List.append_nil, List.length_append]; omega)
          clear hr4 HO3
          generalize L3 ++ ([rowL (bytesOf tA), rowL (bytesOf tB), rowL (bytesOf tC)].take 3).flatten = L4 at HC4 HL4 HTL hc4 ⊢
          have hwN : IntKind.u64.wrap (N : Int) = (N : Int) := by have := HNM.out; simp [IntKind.wrap, IntKind.bits, IntKind.signed]; omega
          have hwM : IntKind.u64.wrap (M : Int) = (M : Int) := by have := HNM.out; simp [IntKind.wrap, IntKind.bits, IntKind.signed]; omega
          go_upto_region 13 with (fail)
          have hS0 : Below wr.heap.size wr wr.drew := below_drew1 (Below.refl _ _)
          have HBR := HB3
          refine start_ (n := 10) (S := fun w' => Below wr.heap.size wr w') (ds := []) #[false, false, false, false, false, false, false, false, false, false] (by kernel_rfl) rfl rfl (by exact hS0) (fun hHeld => ?_)
          refine with_tabW pby_tab13 pby_bits13 (fun HT_ HW_ => ?_)
          refine pure_ (i := 0) (N := some 42) (v := ?_) (a' := ?_) #[true, false, false, false, false, false, false, false, false, false] rfl rfl (any_of HT_.out (by kernel_rfl)) (fun _ _ _ h => h) (Or.inl ⟨by rfl, ?_⟩) ?_ ?_
          rotate_left
          · intro w'
            go_simp
            with_reducible rfl
          rotate_left
          · simp only [Act.put, List.setIfInBounds_toArray, List.set_cons_zero, List.set_cons_succ, i64_w, i32_w]
            rfl
          refine pure_ (i := 1) (N := some 43) (v := ?_) (a' := ?_) #[true, true, false, false, false, false, false, false, false, false] rfl rfl (any_of HT_.out (by kernel_rfl)) (fun _ _ _ h => h) (Or.inl ⟨by rfl, ?_⟩) ?_ ?_
          rotate_left
          · intro w'
            go_simp
            with_reducible rfl
          rotate_left
          · simp only [Act.put, List.setIfInBounds_toArray, List.set_cons_zero, List.set_cons_succ, i64_w, i32_w]
            rfl
          refine pure_ (i := 5) (N := some 47) (v := ?_) (a' := ?_) #[true, true, false, false, false, true, false, false, false, false] rfl rfl (any_of HT_.out (by kernel_rfl)) (fun _ _ _ h => h) (Or.inl ⟨by rfl, ?_⟩) ?_ ?_
          rotate_left
          · intro w'
            go_simp
            with_reducible rfl
          rotate_left
          · simp only [Act.put, List.setIfInBounds_toArray, List.set_cons_zero, List.set_cons_succ, i64_w, i32_w]
            rfl
          refine take_ (i := 2) (N := some 44) (v := ?_) (a' := ?_) #[true, true, true, false, false, true, false, false, false, false] rfl rfl (take_ofW HT_.out HW_.out (by kernel_rfl)) (fun _ _ _ h => h) (Or.inl ⟨by rfl, ?_⟩) hHeld ?_ ?_
          rotate_left
          · intro w' hSt
            obtain ⟨b0, b1, b2, b3, b4, b5⟩ := (HX.out.below hSt).cu
            go_simp
            with_reducible rfl
          rotate_left
          · simp only [Act.put, List.setIfInBounds_toArray, List.set_cons_zero, List.set_cons_succ, i64_w, i32_w]
            rfl
          refine take_ (i := 6) (N := some 48) (v := ?_) (a' := ?_) #[true, true, true, false, false, true, true, false, false, false] rfl rfl (take_ofW HT_.out HW_.out (by kernel_rfl)) (fun _ _ _ h => h) (Or.inl ⟨by rfl, ?_⟩) hHeld ?_ ?_
          rotate_left
          · intro w' hSt
            obtain ⟨b0, b1, b2, b3, b4, b5⟩ := (HX.out.below hSt).cu
            go_simp
            with_reducible rfl
          rotate_left
          · simp only [Act.put, List.setIfInBounds_toArray, List.set_cons_zero, List.set_cons_succ, i64_w, i32_w]
            rfl
          refine pure_ (i := 3) (N := some 45) (v := ?_) (a' := ?_) #[true, true, true, true, false, true, true, false, false, false] rfl rfl (any_of HT_.out (by kernel_rfl)) (fun _ _ _ h => h) (Or.inl ⟨by rfl, ?_⟩) ?_ ?_
          rotate_left
          · intro w'
            go_simp
            with_reducible rfl
          rotate_left
          · simp only [Act.put, List.setIfInBounds_toArray, List.set_cons_zero, List.set_cons_succ, i64_w, i32_w]
            rfl
          refine pure_ (i := 7) (N := some 49) (v := ?_) (a' := ?_) #[true, true, true, true, false, true, true, true, false, false] rfl rfl (any_of HT_.out (by kernel_rfl)) (fun _ _ _ h => h) (Or.inl ⟨by rfl, ?_⟩) ?_ ?_
          rotate_left
          · intro w'
            go_simp
            with_reducible rfl
          rotate_left
          · simp only [Act.put, List.setIfInBounds_toArray, List.set_cons_zero, List.set_cons_succ, i64_w, i32_w]
            rfl
          refine one_ (i := 4) (N := some 46) #[true, true, true, true, true, true, true, true, false, false] rfl rfl (one_of HT_.out (by kernel_rfl)) (by decide) (fun K hK => ?_)
          refine goes_ Tryd.func24 (by kernel_rfl) rfl #[.slice A4 L4.length c4, .int .u64 N] (by rfl) rfl rfl (by (try simp only [List.map_toArray, List.map_cons, List.map_nil]); first | done | rfl) ?_
          refine (appendUint_calls A4 c4 L4 N _ (Kd.C_below HC4.out hHeld) hc4 (by have := HNM.out; omega) (by have := HL4.out; omega)).mono ?_
          rintro e w8 ⟨v8, rfl, ho, hb⟩
          refine ⟨_, rfl, ?_⟩
          have hS1 := below_step hHeld hb
          obtain ⟨A8, c8, rfl, hc8, hr8⟩ := Kd.R_reads ho
          have HO8 := Aside0.mk ho
          have HC8 := Aside0.mk hr8
          clear ho hb hr8
          refine hK.out _ _ (by exact hS1) (fun hHeld => ?_)
          clear hK K
          refine norm_ (a' := ?_) ?_ ?_
          rotate_left
          · first
            | (show Act.put _ (some 46) _ = _; simp only [Act.put, List.setIfInBounds_toArray, List.set_cons_zero, List.set_cons_succ, i64_w, i32_w]; rfl)
            | rfl
          refine one_ (i := 8) (N := some 50) #[true, true, true, true, true, true, true, true, true, false] rfl rfl (one_of HT_.out (by kernel_rfl)) (by decide) (fun K hK => ?_)
          refine goes_ Tryd.func24 (by kernel_rfl) rfl #[.slice A8 (L4 ++ formL N).length c8, .int .u64 M] (by rfl) rfl rfl (by (try simp only [List.map_toArray, List.map_cons, List.map_nil]); first | done | rfl) ?_
          refine (appendUint_calls A8 c8 (L4 ++ formL N) M _ HC8.out hc8 (by have := HNM.out; omega) (by have := HL4.out; have := formL_len N (by have := HNM.out; omega); simp only [List.length_append]; omega)).mono ?_
          rintro e w9 ⟨v9, rfl, ho, hb⟩
          refine ⟨_, rfl, ?_⟩
          have HO9 := Aside0.mk (Kd.R_lower ho (Nat.le_trans HBR.out.size hHeld.size))
          have hS1 := below_step hHeld hb
          clear ho hb
          refine hK.out _ _ (by exact hS1) (fun hHeld => ?_)
          clear hK K
          refine norm_ (a' := ?_) ?_ ?_
          rotate_left
          · first
            | (show Act.put _ (some 50) _ = _; simp only [Act.put, List.setIfInBounds_toArray, List.set_cons_zero, List.set_cons_succ, i64_w, i32_w]; rfl)
            | rfl
          refine pure_ (i := 9) (N := some 4) (v := ?_) (a' := ?_) #[true, true, true, true, true, true, true, true, true, true] rfl rfl (any_of HT_.out (by kernel_rfl)) (fun _ _ _ h => h) (Or.inl ⟨by rfl, ?_⟩) ?_ ?_
          rotate_left
          · intro w'
            go_simp
            with_reducible rfl
          rotate_left
          · simp only [Act.put, List.setIfInBounds_toArray, List.set_cons_zero, List.set_cons_succ, i64_w, i32_w]
            rfl
          refine done_ (done_of HT_.out (by kernel_rfl)) ?_
          replace HB3 := Aside0.mk (below_step HB3.out hHeld)
          have HEQ := Aside0.mk (show formL p.length ++ ((p.take (k + 1)).map insB).flatten = (L4 ++ formL N) ++ formL M by rw [HTK.out, ← HTL.out, List.append_assoc])
          clear hS0 hHeld HT_ HW_ HX HC4 HO8 HC8
          go_wp2
          go_roundw
          case rel => exact ⟨k + 1, by omega, by go_num, by rw [HEQ.out]; exact HO9, HB3⟩
          case measure => simp [intOf]; omega
    · obtain rfl : k = p.length := by omega
      have HV := Aside0.mk (show formL p.length ++ ((p.take p.length).map insB).flatten = progB p by rw [List.take_length]; rfl)
      rw [HV.out] at HO
      clear hlt hk
      go_wp2
      go_ret2
      exact ⟨_, _, rfl, (fun h => by rw [HM.out] at h; cases h), fun _ => ⟨rfl, HO.out⟩, HB.out⟩
end Go.Proofs.YtneindaodfiabaaDoor.Prog6
