/- What calls of Go functions of this seat come to, as the rows need it: under the conditions that each theorem names. -/
import Derived.Test.YtaheoifjihkipaaAsO
import Derived.Test.YtaheoifjihkipaaReg
import Derived.Deep.QuietTactic
import Derived.BigQuiet
import Derived.StillTailTactics
namespace Go.Proofs.Ytaheoifjihkipaa.As
open Go.RowKit Go.Proofs.YtaheoifjihkipaaW.PrintWords Go.Proofs.YtaheoifjihkipaaW.PrintLast Go.Proofs.YtaheoifjihkipaaW.PrintMore
set_option linter.unusedVariables false
set_option linter.unusedSimpArgs false
theorem T3.below {w w' : World} {g : Nat} {x : U} (h : T3 w g x) (hb : Below w.heap.size w w') : T3 w' g x := heap_keep h hb
theorem info3 : (Try.prog.info? 71).map (·.size) = some 3 := by kernel_rfl
theorem T3.load {w : World} {g : Nat} {x : U} (h : T3 w g x) : (Instr.loadAt 71 (.pointer (some ⟨g, 0, none⟩))).run Try.prog w = .ok (.agg #[.int .i64 x.1, .int .i64 x.2.1, .int .i64 x.2.2]) w :=
  Reg.run_loadAt_row g _ _ _ _ _ h Try.underlying71 rfl info3
theorem store3 {P : Program} {ops : Array Oper} {rest : List Oper} {o : Oper} {a : Act} {Q : Exit → Act → World → Prop} {w : World} (hgd : o.guard = none) (ty : TypeId) (x y : Operand) (ho : o.op = .store ty x y) (g : Nat) (v0 v : U)
    (hx : a.eval x = .pointer (some ⟨g, 0, none⟩)) (hy : a.eval y = .agg #[.int .i64 v.1, .int .i64 v.2.1, .int .i64 v.2.2]) (hT : T3 w g v0) (hi : (P.info? ty).map (·.size) = some 3)
    (h : ∀ w', T3 w' g v → (∀ w0, Below g w0 w → Below g w0 w') → wpList P ops Q rest (a.put o.dst undef) w') : wpList P ops Q (o :: rest) a w :=
  wpList_store_row hgd ty x y ho g _ hx hy _ _ hT hi rfl (by simp [Value.oneCell']) (h _ (setRow_heap w g _ _ _ _ hT) (fun w0 hb =>
    ⟨hb.os, hb.tape, hb.output, by simpa using hb.size, fun k hk => (setRow_other w g k _ (by omega)).trans (hb.block k hk)⟩))
set_option maxHeartbeats 3200000 in
set_option maxRecDepth 100000 in
theorem best_calls {p gc gd gm cc cd n m cnt : Nat} {win tm : Int} {S : Nat → U} {D : Nat → Int} {T : Nat → Nat → Int} (i : Nat) (hi : i < n) (w : World) (h : Pl w p gc gd gm cc cd n m win tm S D) (ht : Tm w gm cnt T) :
    Calls Try.prog 31 #[.pointer (some ⟨p, 0, none⟩), .int .i64 (i : Int)] w fun e w' => e = .returned (.int .i64 (bestF S D T win n i m)) ∧ Below w.heap.size w w' := by
  have HP := Aside0.mk h
  have HT := Aside0.mk ht
  have hm := h.m1
  have hn := h.n1
  clear h ht
  go_enter Try.func31, Try.ntmps31
  have hc := HP.out.blk.c1
  go_wp2
  go_step3
  go_wp2
  go_step3
  obtain ⟨g0, hg0⟩ : ∃ g0, w.heap.size = g0 := ⟨_, rfl⟩
  have HG0 := Aside0.mk hg0
  obtain ⟨w0, hw0⟩ : ∃ w0, w.alloc (.cells #[.int .i64 0, .int .i64 0, .int .i64 0] 71) = w0 := ⟨_, rfl⟩
  have hb0 : Below w.heap.size w w0 := by rw [← hw0]; exact (Below.refl _ _).alloc (Nat.le_refl _) _
  have HT0 : Aside0 (T3 w0 g0 (0, 0, 0)) := ⟨by rw [← hw0, ← hg0]; exact heap_new _ _⟩
  have HB0 := Aside0.mk hb0
  rw [hw0, hg0]
  have hc0 := (HP.out.below HB0.out).blk.c1
  clear hw0 hg0 hb0 hc
  go_wp2
  go_loopw [5, 17] (fun b v wr => ∃ k : Nat, k ≤ m ∧ v = .int .i64 (k : Int) ∧ b = .int .i64 (bestF S D T win n i k) ∧ Aside0 (Below w.heap.size w wr) ∧ Aside0 (∃ x, T3 wr g0 x ∧ (0 ≤ bestF S D T win n i k → x = ownF S D T n i (bestF S D T win n i k).toNat))) (fun _ v _ => m - (intOf v).toNat)
  case atStart => exact ⟨0, Nat.zero_le _, rfl, rfl, HB0, ⟨_, HT0.out, fun h => by unfold bestF at h; omega⟩⟩
  case round =>
    obtain ⟨k, hk, rfl, rfl, HB, HX⟩ := hrel
    by_cases hlt : k < m
    · have hd := (HP.out.below HB.out).de.cu k hlt
      have HR := Aside0.mk (bestF_rng S D T win n i k)
      have HS := Aside0.mk (show bestF S D T win n i (k + 1) = if mayF S D win n k ∧ (bestF S D T win n i k < 0 ∨ cmp3 (ownF S D T n i k) (ownF S D T n i (bestF S D T win n i k).toNat) < 0) then (k : Int) else bestF S D T win n i k from rfl)
      generalize bestF S D T win n i k = b at HX HR HS ⊢
      go_wp2_with fail
      refine (load_calls (k : Int) _ (HP.out.below HB.out)).mono ?_
      rintro e w1 ⟨rfl, hb⟩
      have HB1 := Aside0.mk (below_step HB.out hb)
      obtain ⟨x, hx, hxe⟩ := HX.out
      have HX1 := Aside0.mk (show T3 w1 g0 x from heap_keep hx hb)
      have HXE := Aside0.mk hxe
      clear HX hx hxe hb HB hd
      have hll := loadF_le S (k : Int) n
      have HO := Aside0.mk (show ownF S D T n i k = (T i k, (loadF S (k : Int) n : Int), D k) from rfl)
      generalize hL : loadF S (k : Int) n = L at HO hll ⊢
      replace hL := Aside0.mk hL
      have hcw := (HP.out.below HB1.out).blk.c3
      have hcm := (HP.out.below HB1.out).blk.c2
      have HTL := Aside0.mk ((HT.out.below HB1.out).look (i := i) (k := k) (by omega) (by omega))
      by_cases h1 : D k < 3
      case neg =>
        have e1 : decide (D k ≥ 3) = true := decide_eq_true (by omega)
        replace HS := Aside0.mk (HS.out.trans (if_neg (fun h => h1 h.1.1)))
        clear h1
        go_wp2
        go_roundw
        case rel => exact ⟨k + 1, by omega, by first | rfl | go_num, by rw [HS.out], HB1, ⟨x, HX1.out, by rw [HS.out]; exact HXE.out⟩⟩
        case measure => simp [intOf]; omega
      have e1 : decide (D k ≥ 3) = false := decide_eq_false (by omega)
      by_cases h2 : (L : Int) < win
      case neg =>
        have e2 : decide ((L : Int) ≥ win) = true := decide_eq_true (by omega)
        replace HS := Aside0.mk (HS.out.trans (if_neg (fun h => h2 (by have := h.1.2; rw [hL.out] at this; exact this))))
        clear h1 h2
        go_wp2
        go_roundw
        case rel => exact ⟨k + 1, by omega, by first | rfl | go_num, by rw [HS.out], HB1, ⟨x, HX1.out, by rw [HS.out]; exact HXE.out⟩⟩
        case measure => simp [intOf]; omega
      have e2 : decide ((L : Int) ≥ win) = false := decide_eq_false (by omega)
      have HMAY : Aside0 (mayF S D win n k) := ⟨h1, by rw [hL.out]; exact h2⟩
      have htl := HTL.out
      clear h1 h2
      go_upto_region 9 with (fail)
      obtain ⟨g1, hg1⟩ : ∃ g1, w1.heap.size = g1 := ⟨_, rfl⟩
      obtain ⟨w2, hw2⟩ : ∃ w2, w1.alloc (.cells #[.int .i64 (T i k), .int .i64 (L : Int), .int .i64 (D k)] 71) = w2 := ⟨_, rfl⟩
      have hb2 : Below w1.heap.size w1 w2 := by rw [← hw2]; exact (Below.refl _ _).alloc (Nat.le_refl _) _
      have HT2 : Aside0 (T3 w2 g1 (T i k, (L : Int), D k)) := ⟨by rw [← hw2, ← hg1]; exact heap_new _ _⟩
      have HX2 : Aside0 (T3 w2 g0 x) := ⟨heap_keep HX1.out hb2⟩
      have HB2 := Aside0.mk (below_step HB1.out hb2)
      have hne : g0 ≠ g1 := by
        have := (Array.getElem?_eq_some_iff.1 HX1.out).1
        omega
      have HNE := Aside0.mk hne
      rw [hw2, hg1]
      clear hw2 hg1 hb2 htl hcw hcm e1 e2 HX1 HB1 HTL hne
      by_cases h3 : 0 ≤ b
      case neg =>
        have e3 : decide (b ≥ 0) = false := decide_eq_false (by omega)
        replace HS := Aside0.mk (HS.out.trans (if_pos ⟨HMAY.out, Or.inl (by omega)⟩))
        go_upto_region 12 with (fail)
        refine Reg.region_tail 3 (by kernel_rfl) (by kernel_rfl) (fun w3 hb3 => ?_)
        simp only [List.take_succ_cons, List.take_zero, List.drop_succ_cons, List.drop_zero]
        have hl1 := (HT2.out.below hb3).load
        have HT3 := Aside0.mk (HX2.out.below hb3)
        have HB3 := Aside0.mk (below_step HB2.out hb3)
        clear hb3
        still_step
        refine Reg.still_load (by rfl) (by rfl) (by rfl) hl1 ?_
        simp only [Act.put, List.setIfInBounds_toArray, List.set_cons_zero, List.set_cons_succ, i64_w, i32_w]
        still_step
        refine wpStill_nil ?_
        go_wp2_with (refine store3 (by rfl) 71 (.tmp 6) (.tmp 55) rfl g0 _ (T i k, (L : Int), D k) rfl rfl HT3.out info3 ?_; intro w4 ht4 hb4; replace hb4 := hb4 w (by rw [← HG0.out]; exact HB3.out); rw [← HG0.out] at hb4; have HT4 := Aside0.mk ht4; have HB4 := Aside0.mk hb4; clear ht4 hb4)
        go_roundw
        case rel => exact ⟨k + 1, by omega, by first | rfl | go_num, by rw [HS.out], HB4, ⟨_, HT4.out, fun _ => by rw [HS.out, Int.toNat_natCast, HO.out]⟩⟩
        case measure => simp [intOf]; omega
      have e3 : decide (b ≥ 0) = true := decide_eq_true (by omega)
      go_upto_region 10 with (fail)
      go_quiet ((go_at_call 43; exact Calls.quiet_of_same (compare_calls g1 g0 _ _ _ HT2.out HX2.out)))
      have HT2' := Aside0.mk (HT2.out.below (pw_below_drewN (Below.refl w2.heap.size w2) nq))
      have HX2' := Aside0.mk (HX2.out.below (pw_below_drewN (Below.refl w2.heap.size w2) nq))
      have HB2' := Aside0.mk (pw_below_drewN HB2.out nq)
      clear HT2 HX2 HB2
      generalize w2.drewN nq = w2 at HT2' HX2' HB2' ⊢
      have HT2 := HT2'
      have HX2 := HX2'
      have HB2 := HB2'
      clear HT2' HX2' HB2'
      have HXN := Aside0.mk (HXE.out h3)
      have HZ := Aside0.mk (show cmp3 (T i k, (L : Int), D k) x = cmp3 (ownF S D T n i k) (ownF S D T n i b.toNat) by rw [HO.out, ← HXN.out])
      generalize cmp3 (T i k, (L : Int), D k) x = z at HZ ⊢
      by_cases h4 : z < 0
      case neg =>
        have e4 : decide (z ≥ 0) = true := decide_eq_true (by omega)
        replace HS := Aside0.mk (HS.out.trans (if_neg (fun h => h.2.elim (fun hh => by omega) (fun hh => h4 (by rw [HZ.out]; exact hh)))))
        clear h4
        go_wp2
        go_roundw
        case rel => exact ⟨k + 1, by omega, by first | rfl | go_num, by rw [HS.out], HB2, ⟨x, HX2.out, by rw [HS.out]; exact HXE.out⟩⟩
        case measure => simp [intOf]; omega
      have e4 : decide (z ≥ 0) = false := decide_eq_false (by omega)
      replace HS := Aside0.mk (HS.out.trans (if_pos ⟨HMAY.out, Or.inr (by rw [← HZ.out]; exact h4)⟩))
      clear h4
      go_upto_region 12 with (fail)
      refine Reg.region_tail 3 (by kernel_rfl) (by kernel_rfl) (fun w3 hb3 => ?_)
      simp only [List.take_succ_cons, List.take_zero, List.drop_succ_cons, List.drop_zero]
      have hl1 := (HT2.out.below hb3).load
      have HT3 := Aside0.mk (HX2.out.below hb3)
      have HB3 := Aside0.mk (below_step HB2.out hb3)
      clear hb3
      still_step
      refine Reg.still_load (by rfl) (by rfl) (by rfl) hl1 ?_
      simp only [Act.put, List.setIfInBounds_toArray, List.set_cons_zero, List.set_cons_succ, i64_w, i32_w]
      still_step
      refine wpStill_nil ?_
      go_wp2_with (refine store3 (by rfl) 71 (.tmp 6) (.tmp 55) rfl g0 _ (T i k, (L : Int), D k) rfl rfl HT3.out info3 ?_; intro w4 ht4 hb4; replace hb4 := hb4 w (by rw [← HG0.out]; exact HB3.out); rw [← HG0.out] at hb4; have HT4 := Aside0.mk ht4; have HB4 := Aside0.mk hb4; clear ht4 hb4)
      go_roundw
      case rel => exact ⟨k + 1, by omega, by first | rfl | go_num, by rw [HS.out], HB4, ⟨_, HT4.out, fun _ => by rw [HS.out, Int.toNat_natCast, HO.out]⟩⟩
      case measure => simp [intOf]; omega
    · obtain rfl : m = k := by omega
      go_wp2
      rw [Exit.noGoto_ret]
      go_ret
      exact ⟨rfl, HB.out⟩
end Go.Proofs.Ytaheoifjihkipaa.As
