/- What calls of Go functions of this seat come to, as the rows need it: under the conditions that each theorem names. -/
import Derived.Test.YtneindaodfiabaaDoorPB
import Derived.Test.YtneindaodfiabaaDoorRMay
namespace Go.Proofs.YtneindaodfiabaaDoor.Prog6
open Go.RowKit Go.Proofs.YtneindaodfiabaaDoorW.PrintWords Go.Proofs.YtneindaodfiabaaDoorW.PrintLast Go.Proofs.YtneindaodfiabaaDoorW.PrintMore
set_option linter.unusedVariables false
set_option linter.unusedSimpArgs false
open Go.Proofs.YtneindaodfiabaaDoor.Hand (formL rowL formL_len rform_calls)
section
variable {P : Program} {ops : Array Oper} {rest : List Oper} {o : Oper} {a : Act} {Q : Exit → Act → World → Prop}
theorem R_append_str {w0 W : World} (base : Nat) (hgd : o.guard = none) (s x : Operand) (t u e : TypeId)
    (ho : o.op = .call { callee := .builtin .append, args := #[s, x], argTypes := #[t, u] })
    (ht : P.underlying t = some (.slice e)) (hu : P.underlying u = some .string) (hinfo : (P.info? e).map (fun i => (i.zero, i.size, i.bytes)) = some (some (.int .u8 0), 1, 1))
    (v : Value) (xs : List Int) (y : ByteArray) (hs : a.eval s = v) (hx : a.eval x = .string y)
    (HO : Kd.R RBy e W base (fun _ => True) v xs) (HB : Below base w0 W) (hbase : base ≤ W.heap.size) (hl : xs.length + y.size ≤ 140737488355328)
    (h : ∀ v1 w1, Kd.R RBy e w1 base (fun _ => True) v1 (xs ++ bytesOf y) → Below base w0 w1 → W.grownBy w1 v.ownBlock → wpList P ops Q rest (a.put o.dst v1) w1) :
    wpList P ops Q (o :: rest) a W := by
  refine print_append_str (w0 := w0) base hgd s x t u e ho ht hu hinfo v xs y hs hx (Kd.own_of_R HO) HB hbase hl ?_
  intro v1 w1 hown hb hg
  exact h v1 w1 (Kd.R_of_own hown (fun _ _ => trivial)) hb hg
end
theorem keep_over {w w1 : World} {base q : Nat} {ok : Nat → Prop} {v : Value} {xs : List Int} {t : TypeId} {cells : Array Value} (h : Kd.R RBy 5 w base ok v xs) (hb : w.heap[q]? = some (.cells cells t (0, 0))) (ht : 5 ≠ t) (hg : w.grownBy w1 v.ownBlock) : w1.heap[q]? = some (.cells cells t (0, 0)) := by
  rw [hg.block q (Array.getElem?_eq_some_iff.1 hb).1 (Kd.R_ne h hb ht)]
  exact hb
set_option maxHeartbeats 3200000 in
set_option maxRecDepth 100000 in
theorem rpbytes_calls (A : Option Addr) (c : Nat) (p : List Ins) (w : World) (hr : KP.C w A p.length p) (hc : p.length ≤ c) (hm : mayP p = true) :
    Calls Tryd.prog 16 #[.slice A p.length c] w fun e w' => ∃ v, e = .returned v ∧ Kd.R RBy 5 w' w.heap.size (fun _ => True) v (progB p) ∧ Below w.heap.size w w' := by
  have HR := Aside0.mk hr
  have hl63 : p.length ≤ 9223372036854775807 := hr.2.1
  obtain ⟨h30, hok⟩ := may_ok hm
  have HOK := Aside0.mk hok
  have hwl : IntKind.u64.wrap (p.length : Int) = (p.length : Int) := by simp [IntKind.wrap, IntKind.bits, IntKind.signed]; omega
  clear hr hm hok
  go_enter Tryd.func16, Tryd.ntmps16
  go_wp2_with fail
  refine (rform_calls p.length _ (by omega)).mono ?_
  rintro e w2 ⟨v2, rfl, ho, hb⟩
  have HO2 := Aside0.mk ho
  have HB2 := Aside0.mk hb
  clear ho hb hwl
  go_wp2
  go_loopw [3, 4] (fun v i wr => ∃ k : Nat, k ≤ p.length ∧ i = .int .i64 (k : Int) ∧ Aside0 (Kd.R RBy 5 wr w.heap.size (fun _ => True) v (formL p.length ++ ((p.take k).map insB).flatten)) ∧ Aside0 (Below w.heap.size w wr)) (fun _ i _ => p.length - (intOf i).toNat)
  case atStart => exact ⟨0, Nat.zero_le _, rfl, by simpa using HO2, HB2⟩
  case round =>
    clear HO2 HB2
    obtain ⟨k, hk, rfl, HO, HB⟩ := hrel
    by_cases hlt : k < p.length
    · have HLK := Aside0.mk (show (formL p.length ++ ((p.take k).map insB).flatten).length ≤ 6000 by
        have h1 := formL_len p.length (by omega)
        have h2 := len_flat (p := p.take k) (fun x hx => HOK.out x (List.mem_of_mem_take hx))
        rw [List.length_take] at h2
        simp only [List.length_append]
        omega)
      have HTK := Aside0.mk (show formL p.length ++ ((p.take (k + 1)).map insB).flatten = (formL p.length ++ ((p.take k).map insB).flatten) ++ insB p[k] by rw [List.take_succ_eq_append_getElem hlt]; simp only [List.map_append, List.map_cons, List.map_nil, List.flatten_append, List.flatten_cons, List.flatten_nil, List.append_nil, List.append_assoc])
      have HOX := Aside0.mk (HOK.out _ (List.getElem_mem hlt))
      obtain ⟨ad, rfl, x0, x1, x2, x3, x4, x5⟩ := row_cp (Kd.C_below HR.out HB.out) k hlt p[k] (List.getElem?_eq_getElem hlt)
      generalize p[k] = x at x0 x1 x2 x3 x4 x5 HTK HOX
      generalize formL p.length ++ ((p.take k).map insB).flatten = L at HO HTK HLK
      go_upto_region 6 with (fail)
      have HBA := Aside0.mk ((Below.refl wr.heap.size wr).alloc (Nat.le_refl _) (.cells (cI x) 26 (0, 0)))
      have HX := Aside0.mk (show BoxI (wr.alloc (.cells (cI x) 26 (0, 0))) wr.heap.size x from heap_new _ _)
      replace HO := Aside0.mk (Kd.R_below HO.out HBA.out)
      replace HB := Aside0.mk (below_step HB.out HBA.out)
      clear HBA
      generalize wr.alloc _ = wa at HX HB HO ⊢
      generalize wr.heap.size = b at HX ⊢
      obtain ⟨op, tA, tB, tC, N, M⟩ := x
      have hoI := HOX.out
      obtain ⟨op, rfl⟩ := Int.eq_ofNat_of_zero_le (show 0 ≤ op by have := hoI.1.1; simp only at this; omega)
      obtain ⟨N, rfl⟩ := Int.eq_ofNat_of_zero_le hoI.2.2.2.2.1.1
      obtain ⟨M, rfl⟩ := Int.eq_ofNat_of_zero_le hoI.2.2.2.2.2.1
      have HNM := Aside0.mk (show op ≤ 11 ∧ N ≤ 2000 ∧ M ≤ 2000 by have h1 := hoI.1.2; have h2 := hoI.2.2.2.2.1.2; have h3 := hoI.2.2.2.2.2.2; simp only at h1 h2 h3; omega)
      have HS40 := Aside0.mk (show tA.size ≤ 40 ∧ tB.size ≤ 40 ∧ tC.size ≤ 40 from ⟨hoI.2.1, hoI.2.2.1, hoI.2.2.2.1⟩)
      have hwo : IntKind.u64.wrap (op : Int) = (op : Int) := by have := HNM.out.1; simp [IntKind.wrap, IntKind.bits, IntKind.signed]; omega
      obtain ⟨b0, b1, b2, b3, b4, b5⟩ := HX.out.cu
      simp only [] at b0 b1 b2 b3 b4 b5
      clear hoI x0 x1 x2 x3 x4 x5 HOX
      go_wp2_with fail
      refine (rform_calls op _ (by have := HNM.out; omega)).mono ?_
      rintro e w3 ⟨v3, rfl, ho, hb⟩
      obtain ⟨A3, c3, rfl, hc3, hr3⟩ := Kd.R_reads ho
      have HC3 := Aside0.mk hr3
      have HF3 := Aside0.mk (formL_len op (by have := HNM.out; omega))
      replace HO := Aside0.mk (Kd.R_below HO.out hb)
      replace HB := Aside0.mk (below_step HB.out hb)
      replace HX := Aside0.mk (HX.out.below hb)
      clear ho hb b0 b1 b2 b3 b4 b5 hwo hr3
      go_upto_region 7 with ((with_reducible refine gate_builtin (b := .append) (xs := #[.tmp 22, .tmp 26]) rfl ?_); at_builtin; refine Kd.R_append_rows RBy (w0 := w) w.heap.size rfl (.tmp 22) (.tmp 26) 29 5 (.int .u8 0) 1 rfl Tryd.underlying29 Hand.info5 rfl (by decide) (by omega) _ L (formL op) _ _ _ (fun _ => True) (fun _ => False) rfl rfl HO.out HC3.out (fun _ _ h => h) (fun _ h => h.elim) (fun _ _ => trivial) HB.out HB.out.size ?aL ?_; (case aL => have := HLK.out; have := HF3.out; omega); intro v4 w4 ho hb2 hg hat; have HO4 := Aside0.mk ho; have HB4 := Aside0.mk hb2; have HX4 := Aside0.mk (show BoxI w4 b _ from keep_over HO.out HX.out (by decide) hg); clear ho hb2 hg hat)
      clear HO HX HB HC3
      obtain ⟨b0, b1, b2, b3, b4, b5⟩ := HX4.out.cu
      simp only [] at b0 b1 b2 b3 b4 b5
      have HLK3 := Aside0.mk (show (L ++ formL op).length ≤ 6010 by have := HLK.out; have := HF3.out; simp only [List.length_append]; omega)
      have HTL := Aside0.mk (show (L ++ formL op) ++ ([rowL (bytesOf tA), rowL (bytesOf tB), rowL (bytesOf tC)].take 3).flatten ++ (formL N ++ formL M) = L ++ insB ((op : Int), tA, tB, tC, (N : Int), (M : Int)) by simp [insB])
      generalize L ++ formL op = L3 at HO4 HLK3 HTL
      go_wp2
      obtain ⟨w5, hw5⟩ : ∃ w5, w5 = w4.alloc (.cells #[.string tA, .string tB, .string tC] 9 (0, 0)) := ⟨_, rfl⟩
      rw [← hw5]
      have HBA := Aside0.mk (show Below w4.heap.size w4 w5 by rw [hw5]; exact (Below.refl w4.heap.size w4).alloc (Nat.le_refl _) _)
      have HSB := Aside0.mk (show w5.heap[w4.heap.size]? = some (.cells #[.string tA, .string tB, .string tC] 9 (0, 0)) by rw [hw5]; exact heap_new _ _)
      replace HO4 := Aside0.mk (Kd.R_below HO4.out HBA.out)
      replace HB4 := Aside0.mk (below_step HB4.out HBA.out)
      replace HX4 := Aside0.mk (HX4.out.below HBA.out)
      clear HBA hw5 b0 b1 b2 b3 b4 b5
      generalize w4.heap.size = sb at HSB ⊢
      obtain ⟨wo, hwo⟩ : ∃ wo, wo = wr := ⟨_, rfl⟩
      subst hwo
      go_loopw [3, 7] (fun v i wr => ∃ j : Nat, j ≤ 3 ∧ i = .int .i64 (j : Int) ∧ Aside0 (Kd.R RBy 5 wr w.heap.size (fun _ => True) v (L3 ++ ([rowL (bytesOf tA), rowL (bytesOf tB), rowL (bytesOf tC)].take j).flatten)) ∧ Aside0 (BoxI wr b ((op : Int), tA, tB, tC, (N : Int), (M : Int))) ∧ Aside0 (wr.heap[sb]? = some (.cells #[.string tA, .string tB, .string tC] 9 (0, 0))) ∧ Aside0 (Below w.heap.size w wr)) (fun _ i _ => 3 - (intOf i).toNat)
      case atStart => exact ⟨0, Nat.zero_le _, rfl, by simpa using HO4, HX4, HSB, HB4⟩
      case round =>
        clear HO4 HX4 HB4 HSB HF3 hc3
        obtain ⟨j, hj, rfl, HO, HX, HSB, HB⟩ := hrel
        by_cases hj3 : j < 3
        · obtain ⟨s, hs, hs40, hsl⟩ : ∃ s : ByteArray, (#[.string tA, .string tB, .string tC] : Array Value)[j]? = some (.string s) ∧ s.size ≤ 40 ∧ [rowL (bytesOf tA), rowL (bytesOf tB), rowL (bytesOf tC)].take (j + 1) = [rowL (bytesOf tA), rowL (bytesOf tB), rowL (bytesOf tC)].take j ++ [rowL (bytesOf s)] := by
            have h := HS40.out
            rcases j with _ | _ | _ | j
            · exact ⟨tA, rfl, h.1, rfl⟩
            · exact ⟨tB, rfl, h.2.1, rfl⟩
            · exact ⟨tC, rfl, h.2.2, rfl⟩
            · omega
          have HSL := Aside0.mk (show L3 ++ ([rowL (bytesOf tA), rowL (bytesOf tB), rowL (bytesOf tC)].take (j + 1)).flatten = ((L3 ++ ([rowL (bytesOf tA), rowL (bytesOf tB), rowL (bytesOf tC)].take j).flatten) ++ formL s.size) ++ bytesOf s by rw [hsl]; simp [rowL, bytesOf_length])
          have HLJ := Aside0.mk (show (L3 ++ ([rowL (bytesOf tA), rowL (bytesOf tB), rowL (bytesOf tC)].take j).flatten).length ≤ 7000 by
            have h1 := HLK3.out
            have h := HS40.out
            have f := fun s : ByteArray => fun h : s.size ≤ 40 => (show (rowL (bytesOf s)).length ≤ 49 by have := formL_len s.size (by omega); have e := bytesOf_length s; simp only [rowL, List.length_append, e]; omega)
            have fA := f tA h.1
            have fB := f tB h.2.1
            have fC := f tC h.2.2
            rcases j with _ | _ | _ | j
            · simp only [List.take_zero, List.flatten_nil, List.append_nil]; omega
            · simp only [List.take_succ_cons, List.take_zero, List.flatten_cons, List.flatten_nil, List.append_nil, List.length_append]; omega
            · simp only [List.take_succ_cons, List.take_zero, List.flatten_cons, List.flatten_nil, List.append_nil, List.length_append]; omega
            · omega)
          clear hsl
          generalize L3 ++ ([rowL (bytesOf tA), rowL (bytesOf tB), rowL (bytesOf tC)].take j).flatten = LJ at HO HSL HLJ
          have HS4 := Aside0.mk hs40
          have HSJ := Aside0.mk hs
          have hsc := (cell_of HSB.out (j := j)).2 hs
          have hji : decide ((j : Int) < 3) = true := decide_eq_true (by omega)
          have hjd : decide (j < 3) = true := decide_eq_true hj3
          have hws : IntKind.u64.wrap (s.size : Int) = (s.size : Int) := by simp [IntKind.wrap, IntKind.bits, IntKind.signed]; omega
          clear hs40 hs
          go_wp2_with fail
          refine (rform_calls s.size _ (by have := HS4.out; omega)).mono ?_
          rintro e w6 ⟨v6, rfl, ho, hb⟩
          obtain ⟨A6, c6, rfl, hc6, hr6⟩ := Kd.R_reads ho
          have HC6 := Aside0.mk hr6
          have HF6 := Aside0.mk (formL_len s.size (by have := HS4.out; omega))
          replace HO := Aside0.mk (Kd.R_below HO.out hb)
          replace HB := Aside0.mk (below_step HB.out hb)
          replace HX := Aside0.mk (HX.out.below hb)
          replace HSB := Aside0.mk (heap_keep HSB.out hb)
          clear ho hb hws hr6 hsc
          go_upto_region 12 with (((with_reducible refine gate_builtin (b := .append) (xs := #[.tmp 39, .tmp 46]) rfl ?_); at_builtin; refine Kd.R_append_rows RBy (w0 := w) w.heap.size rfl (.tmp 39) (.tmp 46) 29 5 (.int .u8 0) 1 rfl Tryd.underlying29 Hand.info5 rfl (by decide) (by omega) _ (LJ) (formL s.size) _ _ _ (fun _ => True) (fun _ => False) rfl rfl HO.out HC6.out (fun _ _ h => h) (fun _ h => h.elim) (fun _ _ => trivial) HB.out HB.out.size ?aL ?_; (case aL => have := HLJ.out; have := HF6.out; omega); intro v7 w7 ho hb2 hg hat; have HO7 := Aside0.mk ho; have HB7 := Aside0.mk hb2; have HX7 := Aside0.mk (show BoxI w7 b _ from keep_over HO.out HX.out (by decide) hg); have HSB7 := Aside0.mk (keep_over HO.out HSB.out (by decide) hg); have hsc := (cell_of HSB7.out (j := j)).2 HSJ.out; clear ho hb2 hg hat))
          clear HO HX HB HSB HC6
          have HL7 := Aside0.mk (show (LJ ++ formL s.size).length + s.size ≤ 7100 by have := HLJ.out; have := HF6.out; have := HS4.out; simp only [List.length_append]; omega)
          generalize LJ ++ formL s.size = L7 at HO7 HSL HL7
          go_wp2_with ((with_reducible refine gate_builtin (b := .append) (xs := #[.tmp 48, .tmp 52]) rfl ?_); at_builtin; refine R_append_str (w0 := w) w.heap.size rfl (.tmp 48) (.tmp 52) 29 9 5 rfl Tryd.underlying29 Tryd.underlying9 Hand.info5 _ L7 s rfl rfl HO7.out HB7.out HB7.out.size ?aL ?_; (case aL => have := HL7.out; omega); intro v8 w8 ho hb2 hg; have HO8 := Aside0.mk ho; have HB8 := Aside0.mk hb2; have HX8 := Aside0.mk (show BoxI w8 b _ from keep_over HO7.out HX7.out (by decide) hg); have HSB8 := Aside0.mk (keep_over HO7.out HSB7.out (by decide) hg); clear ho hb2 hg)
          go_roundw
          case rel => exact ⟨j + 1, by omega, by go_num, by rw [HSL.out]; exact HO8, HX8, HSB8, HB8⟩
          case measure => simp [intOf]; omega
        · obtain rfl : j = 3 := by omega
          clear hj hj3 HSB
          have HL4 := Aside0.mk (show (L3 ++ ([rowL (bytesOf tA), rowL (bytesOf tB), rowL (bytesOf tC)].take 3).flatten).length ≤ 7000 by
            have h1 := HLK3.out
            have h := HS40.out
            have f := fun s : ByteArray => fun h : s.size ≤ 40 => (show (rowL (bytesOf s)).length ≤ 49 by have := formL_len s.size (by omega); have e := bytesOf_length s; simp only [rowL, List.length_append, e]; omega)
            have fA := f tA h.1
            have fB := f tB h.2.1
            have fC := f tC h.2.2
            simp only [List.take_succ_cons, List.take_zero, List.flatten_cons, List.flatten_nil, List.append_nil, List.length_append]; omega)
          generalize L3 ++ ([rowL (bytesOf tA), rowL (bytesOf tB), rowL (bytesOf tC)].take 3).flatten = L4 at HO HL4 HTL
          have hwN : IntKind.u64.wrap (N : Int) = (N : Int) := by have := HNM.out; simp [IntKind.wrap, IntKind.bits, IntKind.signed]; omega
          have hwM : IntKind.u64.wrap (M : Int) = (M : Int) := by have := HNM.out; simp [IntKind.wrap, IntKind.bits, IntKind.signed]; omega
          obtain ⟨b0, b1, b2, b3, b4, b5⟩ := HX.out.cu
          simp only [] at b0 b1 b2 b3 b4 b5
          go_wp2_with fail
          refine (rform_calls N _ (by have := HNM.out; omega)).mono ?_
          rintro e w6 ⟨v6, rfl, ho, hb⟩
          obtain ⟨A6, c6, rfl, hc6, hr6⟩ := Kd.R_reads ho
          have HC6 := Aside0.mk hr6
          have HF6 := Aside0.mk (formL_len N (by have := HNM.out; omega))
          replace HO := Aside0.mk (Kd.R_below HO.out hb)
          replace HB := Aside0.mk (below_step HB.out hb)
          replace HX := Aside0.mk (HX.out.below hb)
          clear ho hb hwN hr6 b0 b1 b2 b3 b4 b5
          go_upto_region 14 with (((with_reducible refine gate_builtin (b := .append) (xs := #[.tmp 54, .tmp 58]) rfl ?_); at_builtin; refine Kd.R_append_rows RBy (w0 := w) w.heap.size rfl (.tmp 54) (.tmp 58) 29 5 (.int .u8 0) 1 rfl Tryd.underlying29 Hand.info5 rfl (by decide) (by omega) _ (L4) (formL N) _ _ _ (fun _ => True) (fun _ => False) rfl rfl HO.out HC6.out (fun _ _ h => h) (fun _ h => h.elim) (fun _ _ => trivial) HB.out HB.out.size ?aL ?_; (case aL => have := HL4.out; have := HF6.out; omega); intro v7 w7 ho hb2 hg hat; have HO7 := Aside0.mk ho; have HB7 := Aside0.mk hb2; have HX7 := Aside0.mk (show BoxI w7 b _ from keep_over HO.out HX.out (by decide) hg); obtain ⟨b0, b1, b2, b3, b4, b5⟩ := HX7.out.cu; simp only [] at b0 b1 b2 b3 b4 b5; clear ho hb2 hg hat))
          clear HO HX HB HC6
          have HL7 := Aside0.mk (show (L4 ++ formL N).length ≤ 7100 by have := HL4.out; have := HF6.out; simp only [List.length_append]; omega)
          have HEQ := Aside0.mk (show formL p.length ++ ((p.take (k + 1)).map insB).flatten = (L4 ++ formL N) ++ formL M by rw [HTK.out, ← HTL.out, List.append_assoc])
          generalize L4 ++ formL N = L7 at HO7 HL7 HEQ
          go_wp2_with fail
          refine (rform_calls M _ (by have := HNM.out; omega)).mono ?_
          rintro e w8 ⟨v8, rfl, ho, hb⟩
          obtain ⟨A8, c8, rfl, hc8, hr8⟩ := Kd.R_reads ho
          have HC8 := Aside0.mk hr8
          have HF8 := Aside0.mk (formL_len M (by have := HNM.out; omega))
          replace HO7 := Aside0.mk (Kd.R_below HO7.out hb)
          replace HB7 := Aside0.mk (below_step HB7.out hb)
          clear ho hb hwM hr8 b0 b1 b2 b3 b4 b5 HX7
          go_wp2_with (((with_reducible refine gate_builtin (b := .append) (xs := #[.tmp 60, .tmp 64]) rfl ?_); at_builtin; refine Kd.R_append_rows RBy (w0 := w) w.heap.size rfl (.tmp 60) (.tmp 64) 29 5 (.int .u8 0) 1 rfl Tryd.underlying29 Hand.info5 rfl (by decide) (by omega) _ (L7) (formL M) _ _ _ (fun _ => True) (fun _ => False) rfl rfl HO7.out HC8.out (fun _ _ h => h) (fun _ h => h.elim) (fun _ _ => trivial) HB7.out HB7.out.size ?aL ?_; (case aL => have := HL7.out; have := HF8.out; omega); intro v9 w9 ho hb2 hg hat; have HO9 := Aside0.mk ho; have HB9 := Aside0.mk hb2; clear ho hb2 hg hat))
          go_roundw
          case rel => exact ⟨k + 1, by omega, by go_num, by rw [HEQ.out]; exact HO9, HB9⟩
          case measure => simp [intOf]; omega
    · obtain rfl : k = p.length := by omega
      have HV := Aside0.mk (show formL p.length ++ ((p.take p.length).map insB).flatten = progB p by rw [List.take_length]; rfl)
      rw [HV.out] at HO
      clear hlt hk
      go_wp2
      go_ret
      exact ⟨_, rfl, HO.out, HB.out⟩
end Go.Proofs.YtneindaodfiabaaDoor.Prog6
