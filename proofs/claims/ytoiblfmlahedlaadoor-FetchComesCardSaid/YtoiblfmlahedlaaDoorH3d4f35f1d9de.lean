/- What calls of Go functions of this seat come to, as the rows need it: under the conditions that each theorem names. -/
import Derived.Test.YtoiblfmlahedlaaDoorHf0472deeed51
import Derived.Test.YtoiblfmlahedlaaDoorHca706633e090
import Derived.Deep.QuietTactic
import Derived.BigQuiet
import Derived.StillTailTactics
import Derived.Laws.MakeOwn
section
namespace Go.Proofs.YtoiblfmlahedlaaDoor.As
open Go.RowKit Go.Proofs.YtoiblfmlahedlaaDoorW.PrintWords Go.Proofs.YtoiblfmlahedlaaDoorW.PrintLast Go.Proofs.YtoiblfmlahedlaaDoorW.PrintMore
set_option linter.unusedVariables false
set_option linter.unusedSimpArgs false
set_option maxRecDepth 100000
theorem T3.below {w w' : World} {g : Nat} {x : U} (h : T3 w g x) (hb : Below w.heap.size w w') : T3 w' g x := heap_keep h hb
theorem info3 : (Tryd.prog.info? 138).map (·.size) = some 3 := by kernel_rfl
theorem T3.load {w : World} {g : Nat} {x : U} (h : T3 w g x) : (Instr.loadAt 138 (.pointer (some ⟨g, 0, none⟩))).run Tryd.prog w = .ok (.agg #[.int .i64 x.1, .int .i64 x.2.1, .int .i64 x.2.2]) w :=
  Reg.run_loadAt_row g _ _ _ _ _ h Tryd.underlying138 rfl info3
theorem store3 {P : Program} {ops : Array Oper} {rest : List Oper} {o : Oper} {a : Act} {Q : Exit → Act → World → Prop} {w : World} (hgd : o.guard = none) (ty : TypeId) (x y : Operand) (ho : o.op = .store ty x y) (g : Nat) (v0 v : U)
    (hx : a.eval x = .pointer (some ⟨g, 0, none⟩)) (hy : a.eval y = .agg #[.int .i64 v.1, .int .i64 v.2.1, .int .i64 v.2.2]) (hT : T3 w g v0) (hi : (P.info? ty).map (·.size) = some 3)
    (h : ∀ w', T3 w' g v → (∀ w0, Below g w0 w → Below g w0 w') → wpList P ops Q rest (a.put o.dst undef) w') : wpList P ops Q (o :: rest) a w :=
  wpList_store_row hgd ty x y ho g _ hx hy _ _ hT hi rfl (by simp [Value.oneCell']) (h _ (setRow_heap w g _ _ _ _ hT) (fun w0 hb =>
    ⟨hb.os, hb.tape, hb.output, by simpa using hb.size, fun k hk => (setRow_other w g k _ (by omega)).trans (hb.block k hk)⟩))
set_option maxHeartbeats 3200000 in
set_option maxRecDepth 100000 in
theorem best_calls {p gc gd gm cc cd n m cnt : Nat} {win tm : Int} {S : Nat → U} {D : Nat → Int} {T : Nat → Nat → Int} (i : Nat) (hi : i < n) (w : World) (h : Pl w p gc gd gm cc cd n m win tm S D) (ht : Tm w gm cnt T) :
    Calls Tryd.prog 63 #[.pointer (some ⟨p, 0, none⟩), .int .i64 (i : Int)] w fun e w' => e = .returned (.int .i64 (bestF S D T win n i m)) ∧ Below w.heap.size w w' := by
  have HP := Aside0.mk h
  have HT := Aside0.mk ht
  have hm := h.m1
  have hn := h.n1
  clear h ht
  go_enter Tryd.func63, Tryd.ntmps63
  have hc := HP.out.blk.c1
  go_wp2
  go_step3
  go_wp2
  go_step3
  obtain ⟨g0, hg0⟩ : ∃ g0, w.heap.size = g0 := ⟨_, rfl⟩
  have HG0 := Aside0.mk hg0
  obtain ⟨w0, hw0⟩ : ∃ w0, w.alloc (.cells #[.int .i64 0, .int .i64 0, .int .i64 0] 138) = w0 := ⟨_, rfl⟩
  have hb0 : Below w.heap.size w w0 := by rw [← hw0]; exact (Below.refl _ _).alloc (Nat.le_refl _) _
  have HT0 : Aside0 (T3 w0 g0 (0, 0, 0)) := ⟨by rw [← hw0, ← hg0]; exact heap_new _ _⟩
  have HB0 := Aside0.mk hb0
  rw [hw0, hg0]
  have hc0 := (HP.out.below HB0.out).blk.c1
  clear hw0 hg0 hb0 hc
  go_wp2
  go_loopw [5, 17] (fun b v wr => ∃ k : Nat, k ≤ m ∧ v = .int .i64 (k : Int) ∧ b = .int .i64 (bestF S D T win n i k) ∧ Aside0 (Below w.heap.size w wr) ∧ Aside0 (∃ x, T3 wr g0 x ∧ (0 ≤ bestF S D T win n i k → x = ownF S D T n i (bestF S D T win n i k).toNat))) (fun _ v _ => m - (intOf v).toNat)
  case atStart => exact ⟨0, Nat.zero_le _, rfl, rfl, HB0, ⟨_, HT0.out, fun h => by unfold bestF at h; omega⟩⟩
  case round =>
    obtain ⟨k, hk, rfl, rfl, HB, HX⟩ := hrel
    by_cases hlt : k < m
    · have hd := (HP.out.below HB.out).de.cu k hlt
      have HR := Aside0.mk (bestF_rng S D T win n i k)
      have HS := Aside0.mk (show bestF S D T win n i (k + 1) = if mayF S D win n k ∧ (bestF S D T win n i k < 0 ∨ cmp3 (ownF S D T n i k) (ownF S D T n i (bestF S D T win n i k).toNat) < 0) then (k : Int) else bestF S D T win n i k from rfl)
      generalize bestF S D T win n i k = b at HX HR HS ⊢
      go_wp2_with fail
      refine (load_calls (k : Int) _ (HP.out.below HB.out)).mono ?_
      rintro e w1 ⟨rfl, hb⟩
      have HB1 := Aside0.mk (below_step HB.out hb)
      obtain ⟨x, hx, hxe⟩ := HX.out
      have HX1 := Aside0.mk (show T3 w1 g0 x from heap_keep hx hb)
      have HXE := Aside0.mk hxe
      clear HX hx hxe hb HB hd
      have hll := loadF_le S (k : Int) n
      have HO := Aside0.mk (show ownF S D T n i k = (T i k, (loadF S (k : Int) n : Int), D k) from rfl)
      generalize hL : loadF S (k : Int) n = L at HO hll ⊢
      replace hL := Aside0.mk hL
      have hcw := (HP.out.below HB1.out).blk.c3
      have hcm := (HP.out.below HB1.out).blk.c2
      have HTL := Aside0.mk ((HT.out.below HB1.out).look (i := i) (k := k) (by omega) (by omega))
      by_cases h1 : D k < 3
      case neg =>
        have e1 : decide (D k ≥ 3) = true := decide_eq_true (by omega)
        replace HS := Aside0.mk (HS.out.trans (if_neg (fun h => h1 h.1.1)))
        clear h1
        go_wp2
        go_roundw
        case rel => exact ⟨k + 1, by omega, by first | rfl | go_num, by rw [HS.out], HB1, ⟨x, HX1.out, by rw [HS.out]; exact HXE.out⟩⟩
        case measure => simp [intOf]; omega
      have e1 : decide (D k ≥ 3) = false := decide_eq_false (by omega)
      by_cases h2 : (L : Int) < win
      case neg =>
        have e2 : decide ((L : Int) ≥ win) = true := decide_eq_true (by omega)
        replace HS := Aside0.mk (HS.out.trans (if_neg (fun h => h2 (by have := h.1.2; rw [hL.out] at this; exact this))))
        clear h1 h2
        go_wp2
        go_roundw
        case rel => exact ⟨k + 1, by omega, by first | rfl | go_num, by rw [HS.out], HB1, ⟨x, HX1.out, by rw [HS.out]; exact HXE.out⟩⟩
        case measure => simp [intOf]; omega
      have e2 : decide ((L : Int) ≥ win) = false := decide_eq_false (by omega)
      have HMAY : Aside0 (mayF S D win n k) := ⟨h1, by rw [hL.out]; exact h2⟩
      have htl := HTL.out
      clear h1 h2
      go_upto_region 9 with (fail)
      obtain ⟨g1, hg1⟩ : ∃ g1, w1.heap.size = g1 := ⟨_, rfl⟩
      obtain ⟨w2, hw2⟩ : ∃ w2, w1.alloc (.cells #[.int .i64 (T i k), .int .i64 (L : Int), .int .i64 (D k)] 138) = w2 := ⟨_, rfl⟩
      have hb2 : Below w1.heap.size w1 w2 := by rw [← hw2]; exact (Below.refl _ _).alloc (Nat.le_refl _) _
      have HT2 : Aside0 (T3 w2 g1 (T i k, (L : Int), D k)) := ⟨by rw [← hw2, ← hg1]; exact heap_new _ _⟩
      have HX2 : Aside0 (T3 w2 g0 x) := ⟨heap_keep HX1.out hb2⟩
      have HB2 := Aside0.mk (below_step HB1.out hb2)
      have hne : g0 ≠ g1 := by
        have := (Array.getElem?_eq_some_iff.1 HX1.out).1
        omega
      have HNE := Aside0.mk hne
      rw [hw2, hg1]
      clear hw2 hg1 hb2 htl hcw hcm e1 e2 HX1 HB1 HTL hne
      by_cases h3 : 0 ≤ b
      case neg =>
        have e3 : decide (b ≥ 0) = false := decide_eq_false (by omega)
        replace HS := Aside0.mk (HS.out.trans (if_pos ⟨HMAY.out, Or.inl (by omega)⟩))
        go_upto_region 12 with (fail)
        refine Reg.region_tail 3 (by kernel_rfl) (by kernel_rfl) (fun w3 hb3 => ?_)
        simp only [List.take_succ_cons, List.take_zero, List.drop_succ_cons, List.drop_zero]
        have hl1 := (HT2.out.below hb3).load
        have HT3 := Aside0.mk (HX2.out.below hb3)
        have HB3 := Aside0.mk (below_step HB2.out hb3)
        clear hb3
        still_step
        refine Reg.still_load (by rfl) (by rfl) (by rfl) hl1 ?_
        simp only [Act.put, List.setIfInBounds_toArray, List.set_cons_zero, List.set_cons_succ, i64_w, i32_w]
        still_step
        refine wpStill_nil ?_
        go_wp2_with (refine store3 (by rfl) 138 (.tmp 6) (.tmp 55) rfl g0 _ (T i k, (L : Int), D k) rfl rfl HT3.out info3 ?_; intro w4 ht4 hb4; replace hb4 := hb4 w (by rw [← HG0.out]; exact HB3.out); rw [← HG0.out] at hb4; have HT4 := Aside0.mk ht4; have HB4 := Aside0.mk hb4; clear ht4 hb4)
        go_roundw
        case rel => exact ⟨k + 1, by omega, by first | rfl | go_num, by rw [HS.out], HB4, ⟨_, HT4.out, fun _ => by rw [HS.out, Int.toNat_natCast, HO.out]⟩⟩
        case measure => simp [intOf]; omega
      have e3 : decide (b ≥ 0) = true := decide_eq_true (by omega)
      go_upto_region 10 with (fail)
      go_quiet ((go_at_call 91; exact Calls.quiet_of_same (compare_calls g1 g0 _ _ _ HT2.out HX2.out)))
      have HT2' := Aside0.mk (HT2.out.below (pw_below_drewN (Below.refl w2.heap.size w2) nq))
      have HX2' := Aside0.mk (HX2.out.below (pw_below_drewN (Below.refl w2.heap.size w2) nq))
      have HB2' := Aside0.mk (pw_below_drewN HB2.out nq)
      clear HT2 HX2 HB2
      generalize w2.drewN nq = w2 at HT2' HX2' HB2' ⊢
      have HT2 := HT2'
      have HX2 := HX2'
      have HB2 := HB2'
      clear HT2' HX2' HB2'
      have HXN := Aside0.mk (HXE.out h3)
      have HZ := Aside0.mk (show cmp3 (T i k, (L : Int), D k) x = cmp3 (ownF S D T n i k) (ownF S D T n i b.toNat) by rw [HO.out, ← HXN.out])
      generalize cmp3 (T i k, (L : Int), D k) x = z at HZ ⊢
      by_cases h4 : z < 0
      case neg =>
        have e4 : decide (z ≥ 0) = true := decide_eq_true (by omega)
        replace HS := Aside0.mk (HS.out.trans (if_neg (fun h => h.2.elim (fun hh => by omega) (fun hh => h4 (by rw [HZ.out]; exact hh)))))
        clear h4
        go_wp2
        go_roundw
        case rel => exact ⟨k + 1, by omega, by first | rfl | go_num, by rw [HS.out], HB2, ⟨x, HX2.out, by rw [HS.out]; exact HXE.out⟩⟩
        case measure => simp [intOf]; omega
      have e4 : decide (z ≥ 0) = false := decide_eq_false (by omega)
      replace HS := Aside0.mk (HS.out.trans (if_pos ⟨HMAY.out, Or.inr (by rw [← HZ.out]; exact h4)⟩))
      clear h4
      go_upto_region 12 with (fail)
      refine Reg.region_tail 3 (by kernel_rfl) (by kernel_rfl) (fun w3 hb3 => ?_)
      simp only [List.take_succ_cons, List.take_zero, List.drop_succ_cons, List.drop_zero]
      have hl1 := (HT2.out.below hb3).load
      have HT3 := Aside0.mk (HX2.out.below hb3)
      have HB3 := Aside0.mk (below_step HB2.out hb3)
      clear hb3
      still_step
      refine Reg.still_load (by rfl) (by rfl) (by rfl) hl1 ?_
      simp only [Act.put, List.setIfInBounds_toArray, List.set_cons_zero, List.set_cons_succ, i64_w, i32_w]
      still_step
      refine wpStill_nil ?_
      go_wp2_with (refine store3 (by rfl) 138 (.tmp 6) (.tmp 55) rfl g0 _ (T i k, (L : Int), D k) rfl rfl HT3.out info3 ?_; intro w4 ht4 hb4; replace hb4 := hb4 w (by rw [← HG0.out]; exact HB3.out); rw [← HG0.out] at hb4; have HT4 := Aside0.mk ht4; have HB4 := Aside0.mk hb4; clear ht4 hb4)
      go_roundw
      case rel => exact ⟨k + 1, by omega, by first | rfl | go_num, by rw [HS.out], HB4, ⟨_, HT4.out, fun _ => by rw [HS.out, Int.toNat_natCast, HO.out]⟩⟩
      case measure => simp [intOf]; omega
    · obtain rfl : m = k := by omega
      go_wp2
      rw [Exit.noGoto_ret]
      go_ret
      exact ⟨rfl, HB.out⟩
end Go.Proofs.YtoiblfmlahedlaaDoor.As
end
section
namespace Go.Proofs.YtoiblfmlahedlaaDoor.As
open Go.RowKit Go.Proofs.YtoiblfmlahedlaaDoorW.PrintWords Go.Proofs.YtoiblfmlahedlaaDoorW.PrintLast Go.Proofs.YtoiblfmlahedlaaDoorW.PrintMore
set_option linter.unusedVariables false
set_option linter.unusedSimpArgs false
set_option maxRecDepth 100000
def openF (S : Nat → U) : Nat → Nat → Nat
  | 0, i => i
  | f + 1, i => if (S i).1 = 0 then i else openF S f (i + 1)
theorem openF_spec (S : Nat → U) : ∀ f i, i ≤ openF S f i ∧ openF S f i ≤ i + f ∧ (∀ j, i ≤ j → j < openF S f i → (S j).1 ≠ 0) ∧ (openF S f i < i + f → (S (openF S f i)).1 = 0)
  | 0, i => ⟨Nat.le_refl _, Nat.le_refl _, fun j h1 h2 => by unfold openF at h2; omega, fun h => by unfold openF at h; omega⟩
  | f + 1, i => by
    unfold openF
    by_cases h : (S i).1 = 0
    · rw [if_pos h]
      exact ⟨Nat.le_refl _, by omega, fun j h1 h2 => by omega, fun _ => h⟩
    · rw [if_neg h]
      obtain ⟨a, b, c, d⟩ := openF_spec S f (i + 1)
      refine ⟨by omega, by omega, fun j h1 h2 => ?_, fun h2 => d (by omega)⟩
      by_cases e : j = i
      · rw [e]; exact h
      · exact c j (by omega) h2
theorem openF_eq {S : Nat → U} {n i : Nat} (hi : i < n) (h0 : (S i).1 = 0) (hj : ∀ j, j < i → (S j).1 ≠ 0) : openF S n 0 = i := by
  obtain ⟨_, b, c, d⟩ := openF_spec S n 0
  rcases Nat.lt_trichotomy (openF S n 0) i with h | h | h
  · exact absurd (d (by omega)) (hj _ h)
  · exact h
  · exact absurd h0 (c i (by omega) h)
theorem openF_none {S : Nat → U} {n : Nat} (hj : ∀ j, j < n → (S j).1 ≠ 0) : openF S n 0 = n := by
  obtain ⟨_, b, c, d⟩ := openF_spec S n 0
  by_cases h : openF S n 0 < n
  · exact absurd (d (by omega)) (hj _ h)
  · omega
abbrev St := (Nat → U) × (Nat → Int) × (Nat → Nat → Int)
def nextF (now win tm : Int) (n m : Nat) (s : St) : (Int × Int × Bool) × St :=
  let l := lateF now tm s.1 s.2.1 n
  let i := openF l.1 n 0
  let k := bestF l.1 l.2 s.2.2 win n i m
  if i < n ∧ 0 ≤ k then (((i : Int), k, true), (upd l.1 i (1, k, now), l.2, updT s.2.2 i k.toNat (s.2.2 i k.toNat + 1))) else ((0, 0, false), (l.1, l.2, s.2.2))
structure PW (w : World) (p gc gd gm cc cd n m : Nat) (win tm : Int) (c : Nat) (s : St) : Prop where
  pl : Pl w p gc gd gm cc cd n m win tm s.1 s.2.1
  mp : Tm w gm c s.2.2
  good : Good n m s.1 s.2.1 (200 * c)
  tb : ∀ i k, 0 ≤ s.2.2 i k ∧ s.2.2 i k ≤ c
  t1 : 1 ≤ tm
  t2 : tm ≤ 1000000
theorem Tm.chg {w w' : World} {a b g cnt : Nat} {T : Nat → Nat → Int} (h : Tm w g cnt T) (hc : Chg a b b w w') (ha : g ≠ a) (hb : g ≠ b) : Tm w' g cnt T := by
  obtain ⟨D, h1, h2⟩ := h
  have hlt := h1.lt
  obtain ⟨es, clock, x, F, hs, hD⟩ := h1
  exact ⟨D, ⟨es, clock, (hc.block g hlt ha hb hb).trans x, F, hs, hD⟩, h2⟩
theorem Tm.more {w : World} {g c c' : Nat} {T : Nat → Nat → Int} (h : Tm w g c T) (hc : c ≤ c') : Tm w g c' T := by
  obtain ⟨D, h1, h2⟩ := h
  obtain ⟨es, clock, x, F, hs, hD⟩ := h1
  exact ⟨D, ⟨es, clock, x, F, by omega, hD⟩, h2⟩
theorem Pl.grown {w w' : World} {p gc gd gm cc cd n m : Nat} {win tm : Int} {S : Nat → U} {D : Nat → Int} (h : Pl w p gc gd gm cc cd n m win tm S D) (hg : w.grownBy w' (some gm)) : Pl w' p gc gd gm cc cd n m win tm S D := by
  have hk : ∀ (k : Nat) (o : Obj), k ≠ gm → w.heap[k]? = some o → w'.heap[k]? = some o := fun k o hk ho => (hg.block k (Array.getElem?_eq_some_iff.1 ho).1 (fun e => hk (by injection e))).trans ho
  obtain ⟨cs, a, b, c⟩ := h.ch
  obtain ⟨ds, a', b', c'⟩ := h.de
  exact ⟨hk _ _ h.e4.symm h.blk, ⟨cs, hk _ _ h.e5.symm a, b, c⟩, ⟨ds, hk _ _ h.e6.symm a', b', c'⟩, h.n1, h.m1, h.e1, h.e2, h.e3, h.e4, h.e5, h.e6⟩
theorem Chg.of_grown {a b c : Nat} {w w' : World} (h : w.grownBy w' (some c)) : Chg a b c w w' := ⟨h.os, h.tape, h.output, h.size, fun k hk _ _ h3 => h.block k hk (fun e => h3 (by injection e))⟩
theorem Chg.wide {a b c : Nat} {w w' : World} (h : Chg a b b w w') : Chg a b c w w' := ⟨h.os, h.tape, h.output, h.size, fun k hk h1 h2 _ => h.block k hk h1 h2 h2⟩
theorem lateF_good {n m : Nat} {S : Nat → U} {D : Nat → Int} {B : Int} (h : Good n m S D B) (now tm : Int) : ∀ i, Good n m (lateF now tm S D i).1 (lateF now tm S D i).2 (B + i)
  | 0 => ⟨h.1, fun k => by have := h.2 k; exact ⟨this.1, by show D k ≤ _; omega⟩⟩
  | i + 1 => by
    have h1 := lateF_good h now tm i
    refine ⟨?_, fun k => lateF_D h now tm (i + 1) k⟩
    unfold lateF
    split
    · intro j hj hs
      by_cases e : j = i
      · subst e
        simp only [upd_same] at hs
        cases hs
      · simp only [upd_other _ _ _ _ e] at hs ⊢
        exact h1.1 j hj hs
    · exact h1.1
theorem wf_i64 {x : Int} (h : -9223372036854775808 ≤ x) (h' : x ≤ 9223372036854775807) : (Lit.int .i64 x).wf = true := by
  simp [Lit.wf, IntKind.min, IntKind.max, IntKind.signed, IntKind.bits]; omega
end Go.Proofs.YtoiblfmlahedlaaDoor.As
end
section
namespace Go.Proofs.YtoiblfmlahedlaaDoor.As
open Go.RowKit Go.Proofs.YtoiblfmlahedlaaDoorW.PrintWords Go.Proofs.YtoiblfmlahedlaaDoorW.PrintLast Go.Proofs.YtoiblfmlahedlaaDoorW.PrintMore
set_option linter.unusedVariables false
set_option linter.unusedSimpArgs false
set_option maxRecDepth 100000
theorem lateGood_put {n m : Nat} {S : Nat → U} {D : Nat → Int} {B now : Int} (h : Good n m S D B) (i : Nat) (hi : i < n) (k : Nat) (hk : k < m) (hn : -9223372036854775808 ≤ now ∧ now ≤ 9223372036854775807) : Good n m (upd S i (1, (k : Int), now)) D B := by
  refine ⟨fun j hj hs => ?_, h.2⟩
  by_cases e : j = i
  · subst e
    rw [upd_same]
    exact ⟨⟨by show (0 : Int) ≤ k; omega, by show (k : Int) < m; omega⟩, hn.1, hn.2⟩
  · rw [upd_other _ _ _ _ e] at hs ⊢
    exact h.1 j hj hs
def NxS (w : World) (p gm i k : Nat) (x : Int) (w' : World) : Prop := w'.cell? ⟨p, 2, none⟩ = some (.map (some gm)) ∧ (Instr.lookup 102 (.map (some gm)) (.agg #[.int .i64 (i : Int), .int .i64 (k : Int)]) false).run Tryd.prog w' = .ok (.int .i64 x) w' ∧ w.grownBy w' (some gm)
theorem PW.next {w : World} {p gc gd gm cc cd n m c c' : Nat} {win tm : Int} {S S' : Nat → U} {D D' : Nat → Int} {T T' : Nat → Nat → Int} {B : Int} (h : PW w p gc gd gm cc cd n m win tm c (S, D, T)) {w' : World} (hpl : Pl w' p gc gd gm cc cd n m win tm S' D') (hm : Tm w' gm c' T') (hg : Good n m S' D' B) (hB : B ≤ 200 * c + n) (hc : c' ≤ c + 1)
    (ht : ∀ i k, 0 ≤ T' i k ∧ T' i k ≤ c + 1) : PW w' p gc gd gm cc cd n m win tm (c + 1) (S', D', T') :=
  ⟨hpl, hm.more hc, ⟨hg.1, fun k => ⟨(hg.2 k).1, by have := (hg.2 k).2; have := hpl.n1; show D' k ≤ _; omega⟩⟩, fun i k => by have := ht i k; show 0 ≤ T' i k ∧ T' i k ≤ _; omega, h.t1, h.t2⟩
def nx_T10 : Bool × List (List Nat × List Nat) := (true, [([], []), ([0], [0]), ([1], [1]), ([2], [2]), ([], []), ([], []), ([4, 5], [4, 5]), ([3, 6], [3, 6]), ([7], [7]), ([3, 6, 0, 1, 2, 3, 4, 5, 6], [3, 6]), ([9], [9]), ([3, 10, 8, 9, 0, 1, 2, 3, 4, 5, 6, 7, 8, 9, 10], [3, 8, 10])])
def nx_B10 : List Nat := [0, 1, 3, 7, 0, 0, 48, 127, 255, 127, 639, 2047]
theorem nx_tab10 : rtab .any (opsOf Tryd.f35 10) = nx_T10 := by kernel_rfl
theorem nx_bits10 : waitsOk nx_T10.2 nx_B10 = true := by kernel_rfl
set_option maxHeartbeats 3200000 in
set_option maxRecDepth 100000 in
theorem next_calls {p gc gd gm cc cd n m c : Nat} {win tm : Int} {s : St} (now : Int) (w : World) (h : PW w p gc gd gm cc cd n m win tm c s) (hc : c ≤ 4000000) (hnow : -9223372036854775808 ≤ now ∧ now ≤ 9223372036854775807) :
    Calls Tryd.prog 35 #[.pointer (some ⟨p, 0, none⟩), .int .i64 now] w fun e w' => e = .returned (.tuple #[.int .i64 (nextF now win tm n m s).1.1, .int .i64 (nextF now win tm n m s).1.2.1, .bool (nextF now win tm n m s).1.2.2]) ∧
      PW w' p gc gd gm cc cd n m win tm (c + 1) (nextF now win tm n m s).2 ∧ Chg gc gd gm w w' := by
  have H := Aside0.mk h
  have HN := Aside0.mk hnow
  have hm := h.pl.m1
  have hn := h.pl.n1
  clear h hnow
  obtain ⟨S, D, T⟩ := s
  go_enter Tryd.func35, Tryd.ntmps35
  go_wp2_with fail
  refine (ready_calls p gc gd gm cc cd n m win tm w H.out.pl.blk).mono ?_
  rintro e w1 ⟨rfl, hw⟩
  replace hw := hw.symm
  subst hw
  go_wp2_with fail
  refine (late_calls now w H.out.pl H.out.good (by omega) HN.out ⟨H.out.t1, H.out.t2⟩).mono ?_
  rintro e w1 ⟨⟨v, rfl⟩, hpl, hch⟩
  have HPL1 := Aside0.mk hpl
  have HTM1 := Aside0.mk (H.out.mp.chg hch hpl.e5 hpl.e6)
  have HCH1 := Aside0.mk (hch.wide (c := gm))
  have HGD := Aside0.mk (lateF_good H.out.good now tm n)
  have HF := Aside0.mk (show nextF now win tm n m (S, D, T) = if openF (lateF now tm S D n).1 n 0 < n ∧ 0 ≤ bestF (lateF now tm S D n).1 (lateF now tm S D n).2 T win n (openF (lateF now tm S D n).1 n 0) m then ((((openF (lateF now tm S D n).1 n 0 : Nat) : Int), bestF (lateF now tm S D n).1 (lateF now tm S D n).2 T win n (openF (lateF now tm S D n).1 n 0) m, true), (upd (lateF now tm S D n).1 (openF (lateF now tm S D n).1 n 0) (1, bestF (lateF now tm S D n).1 (lateF now tm S D n).2 T win n (openF (lateF now tm S D n).1 n 0) m, now), (lateF now tm S D n).2, updT T (openF (lateF now tm S D n).1 n 0) (bestF (lateF now tm S D n).1 (lateF now tm S D n).2 T win n (openF (lateF now tm S D n).1 n 0) m).toNat (T (openF (lateF now tm S D n).1 n 0) (bestF (lateF now tm S D n).1 (lateF now tm S D n).2 T win n (openF (lateF now tm S D n).1 n 0) m).toNat + 1))) else ((0, 0, false), ((lateF now tm S D n).1, (lateF now tm S D n).2, T)) from rfl)
  generalize (lateF now tm S D n).1 = S1 at HPL1 HGD HF
  generalize (lateF now tm S D n).2 = D1 at HPL1 HGD HF
  generalize hR : nextF now win tm n m (S, D, T) = R at HF ⊢
  replace hR := Aside0.mk hR
  have hc1 := HPL1.out.blk.c0
  clear hpl hch
  go_wp2_with fail
  refine (idxC_calls w1 HPL1.out.ch hn).mono ?_
  rintro e w2 ⟨r, rfl, hf, hb⟩
  have HPL := Aside0.mk (HPL1.out.below hb)
  have HTM := Aside0.mk (HTM1.out.below hb)
  have HCH := Aside0.mk (HCH1.out.trans (Chg.of_below hb))
  have HFS := Aside0.mk hf
  clear hb hf HPL1 HTM1 HCH1 hc1
  rcases HFS.out with ⟨rfl, hno⟩ | ⟨i, hi, rfl, hy, hno⟩
  · have hop := openF_none (S := S1) (n := n) (fun j hj => by have := hno j hj; simpa using this)
    have HF2 := Aside0.mk (HF.out.trans (if_neg (fun h => by omega)))
    clear hop hno HFS
    go_wp2
    go_ret3
    rw [hR.out, HF2.out]
    exact ⟨rfl, H.out.next HPL.out HTM.out HGD.out (by omega) (by omega) (fun a b => by have := H.out.tb a b; simp only [] at this; omega), HCH.out⟩
  have hop := openF_eq hi (by simpa using hy) (fun j hj => by have := hno j hj; simpa using this)
  have HF2 := HF.out
  rw [hop] at HF2
  clear HF HFS hno hy hop
  have HF := Aside0.mk HF2
  clear HF2
  have HBR := Aside0.mk (bestF_rng S1 D1 T win n i m)
  have e0 : decide ((i : Int) < 0) = false := decide_eq_false (by omega)
  go_wp2_with fail
  refine (best_calls i hi w2 HPL.out HTM.out).mono ?_
  rintro e w3 ⟨rfl, hb⟩
  have HPL' := Aside0.mk (HPL.out.below hb)
  have HTM' := Aside0.mk (HTM.out.below hb)
  have HCH' := Aside0.mk (HCH.out.trans (Chg.of_below hb))
  clear hb HPL HTM HCH
  have HPL := HPL'
  have HTM := HTM'
  have HCH := HCH'
  clear HPL' HTM' HCH'
  generalize bestF S1 D1 T win n i m = b at HF HBR ⊢
  by_cases hb0 : b < 0
  · have e1 : decide (b < 0) = true := decide_eq_true hb0
    have HF2 := Aside0.mk (HF.out.trans (if_neg (fun h => by omega)))
    clear hb0
    go_wp2
    go_ret3
    rw [hR.out, HF2.out]
    exact ⟨rfl, H.out.next HPL.out HTM.out HGD.out (by omega) (by omega) (fun a b => by have := H.out.tb a b; simp only [] at this; omega), HCH.out⟩
  have e1 : decide (b < 0) = false := decide_eq_false hb0
  obtain ⟨k, rfl⟩ := Int.eq_ofNat_of_zero_le (show 0 ≤ b by omega)
  have hk : k < m := by have := HBR.out; omega
  have HF2 := Aside0.mk (HF.out.trans (if_pos ⟨hi, by omega⟩))
  rw [Int.toNat_natCast] at HF2
  have htb := H.out.tb i k
  simp only [] at htb
  have hwr : Go.RowKit.wrap64 (T i k + 1) = T i k + 1 := by
    unfold Go.RowKit.wrap64
    omega
  have HWF := Aside0.mk (wf_i64 (x := T i k + 1) (by omega) (by omega))
  have HTB := Aside0.mk htb
  clear htb hb0 HF HBR
  go_upto_region 10 with (fail)
  have hS0 : NxS w3 p gm i k (T i k) w3.drew := ⟨HPL.out.blk.c2, (HTM.out.below (below_drew1 (Below.refl w3.heap.size w3))).look (i := i) (k := k) (by omega) (by omega), ⟨rfl, rfl, rfl, Nat.le_refl _, fun _ _ _ => rfl⟩⟩
  have hPd : Aside0 (Pl w3.drew p gc gd gm cc cd n m win tm S1 D1) := ⟨HPL.out.below (below_drew1 (Below.refl w3.heap.size w3))⟩
  have hCd : Aside0 (Chg gc gd gm w w3.drew) := ⟨HCH.out.trans (Chg.of_below (below_drew1 (Below.refl w3.heap.size w3)))⟩
  have hTd : Aside0 (Tm w3.drew gm c T) := ⟨HTM.out.below (below_drew1 (Below.refl w3.heap.size w3))⟩
  refine start_ (n := 12) (S := fun w' => NxS w3 p gm i k (T i k) w') (ds := [11]) #[false, false, false, false, false, false, false, false, false, false, false, false] (by kernel_rfl) rfl rfl (by exact hS0) (fun hHeld => ?_)
  refine with_tabW nx_tab10 nx_bits10 (fun HT_ HW_ => ?_)
  generalize w3.drew = wd at hHeld hS0 hTd hPd hCd ⊢
  refine pure_ (i := 0) (N := some 27) (v := ?_) (a' := ?_) #[true, false, false, false, false, false, false, false, false, false, false, false] rfl rfl (any_of HT_.out (by kernel_rfl)) (fun _ _ _ h => h) (Or.inl ⟨by rfl, ?_⟩) ?_ ?_
  rotate_left
  · intro w'
    go_simp
    with_reducible rfl
  rotate_left
  · simp only [Act.put, List.setIfInBounds_toArray, List.set_cons_zero, List.set_cons_succ, i64_w, i32_w]
    rfl
  refine pure_ (i := 1) (N := some 28) (v := ?_) (a' := ?_) #[true, true, false, false, false, false, false, false, false, false, false, false] rfl rfl (any_of HT_.out (by kernel_rfl)) (fun _ _ _ h => h) (Or.inl ⟨by rfl, ?_⟩) ?_ ?_
  rotate_left
  · intro w'
    go_simp
    with_reducible rfl
  rotate_left
  · simp only [Act.put, List.setIfInBounds_toArray, List.set_cons_zero, List.set_cons_succ, i64_w, i32_w]
    rfl
  refine pure_ (i := 2) (N := some 29) (v := ?_) (a' := ?_) #[true, true, true, false, false, false, false, false, false, false, false, false] rfl rfl (any_of HT_.out (by kernel_rfl)) (fun _ _ _ h => h) (Or.inl ⟨by rfl, ?_⟩) ?_ ?_
  rotate_left
  · intro w'
    go_simp
    with_reducible rfl
  rotate_left
  · simp only [Act.put, List.setIfInBounds_toArray, List.set_cons_zero, List.set_cons_succ, i64_w, i32_w]
    rfl
  refine take_ (i := 3) (N := some 30) (v := ?_) (a' := ?_) #[true, true, true, true, false, false, false, false, false, false, false, false] rfl rfl (take_ofW HT_.out HW_.out (by kernel_rfl)) (fun _ _ _ h => h) (Or.inl ⟨by rfl, ?_⟩) hHeld ?_ ?_
  rotate_left
  · intro w' hSt
    have hx0 := hSt.1
    go_simp
    with_reducible rfl
  rotate_left
  · simp only [Act.put, List.setIfInBounds_toArray, List.set_cons_zero, List.set_cons_succ, i64_w, i32_w]
    rfl
  refine pure_ (i := 4) (N := some 31) (v := ?_) (a' := ?_) #[true, true, true, true, true, false, false, false, false, false, false, false] rfl rfl (any_of HT_.out (by kernel_rfl)) (fun _ _ _ h => h) (Or.inl ⟨by rfl, ?_⟩) ?_ ?_
  rotate_left
  · intro w'
    go_simp
    with_reducible rfl
  rotate_left
  · simp only [Act.put, List.setIfInBounds_toArray, List.set_cons_zero, List.set_cons_succ, i64_w, i32_w]
    rfl
  refine pure_ (i := 5) (N := some 32) (v := ?_) (a' := ?_) #[true, true, true, true, true, true, false, false, false, false, false, false] rfl rfl (any_of HT_.out (by kernel_rfl)) (fun _ _ _ h => h) (Or.inl ⟨by rfl, ?_⟩) ?_ ?_
  rotate_left
  · intro w'
    go_simp
    with_reducible rfl
  rotate_left
  · simp only [Act.put, List.setIfInBounds_toArray, List.set_cons_zero, List.set_cons_succ, i64_w, i32_w]
    rfl
  refine pure_ (i := 6) (N := some 33) (v := ?_) (a' := ?_) #[true, true, true, true, true, true, true, false, false, false, false, false] rfl rfl (any_of HT_.out (by kernel_rfl)) (fun _ _ _ h => h) (Or.inl ⟨by rfl, ?_⟩) ?_ ?_
  rotate_left
  · intro w'
    go_simp
    with_reducible rfl
  rotate_left
  · simp only [Act.put, List.setIfInBounds_toArray, List.set_cons_zero, List.set_cons_succ, i64_w, i32_w]
    rfl
  refine take_ (i := 7) (N := some 34) (v := ?_) (a' := ?_) #[true, true, true, true, true, true, true, true, false, false, false, false] rfl rfl (take_ofW HT_.out HW_.out (by kernel_rfl)) (fun _ _ _ h => h) (Or.inl ⟨by rfl, ?_⟩) hHeld ?_ ?_
  rotate_left
  · intro w' hSt
    have hx0 := hSt.2.1
    go_simp
    with_reducible rfl
  rotate_left
  · simp only [Act.put, List.setIfInBounds_toArray, List.set_cons_zero, List.set_cons_succ, i64_w, i32_w]
    rfl
  refine pure_ (i := 8) (N := some 35) (v := ?_) (a' := ?_) #[true, true, true, true, true, true, true, true, true, false, false, false] rfl rfl (any_of HT_.out (by kernel_rfl)) (fun _ _ _ h => h) (Or.inl ⟨by rfl, ?_⟩) ?_ ?_
  rotate_left
  · intro w'
    go_simp
    with_reducible rfl
  rotate_left
  · simp only [Act.put, List.setIfInBounds_toArray, List.set_cons_zero, List.set_cons_succ, i64_w, i32_w]
    rfl
  refine one_ (i := 9) (N := some 36) #[true, true, true, true, true, true, true, true, true, true, false, false] rfl rfl (one_of HT_.out (by kernel_rfl)) (by decide) (fun K hK => ?_)
  obtain ⟨v0, st, w6, hrun, hgr, hlk, hst⟩ := Tm.inc hTd.out (i := i) (k := k) (by omega) (by omega) (by unfold maxLen; omega)
  refine value_ (v := .tuple #[v0, goInt st]) (w1 := w6) (by rfl) rfl ?_ ?_
  · go_simp
  have HST := Aside0.mk hst
  have HLK := Aside0.mk hlk
  have HGR := Aside0.mk hgr
  have HB5 := Aside0.mk hHeld
  clear hrun hgr hlk hst
  refine hK.out _ _ (by exact ⟨HGR.out.cell HB5.out.1 (fun e => HPL.out.e4 (by injection e with e; exact e.symm)), HLK.out, HB5.out.2.2.trans HGR.out⟩) (fun hHeld => ?_)
  clear hK K
  refine norm_ (a' := ?_) ?_ ?_
  rotate_left
  · first
    | (show Act.put _ (some 36) _ = _; simp only [Act.put, List.setIfInBounds_toArray, List.set_cons_zero, List.set_cons_succ, i64_w, i32_w]; rfl)
    | rfl
  refine pure_ (i := 10) (N := some 37) (v := ?_) (a' := ?_) #[true, true, true, true, true, true, true, true, true, true, true, false] rfl rfl (any_of HT_.out (by kernel_rfl)) (fun _ _ _ h => h) (Or.inl ⟨by rfl, ?_⟩) ?_ ?_
  rotate_left
  · intro w'
    go_simp
    with_reducible rfl
  rotate_left
  · simp only [Act.put, List.setIfInBounds_toArray, List.set_cons_zero, List.set_cons_succ, i64_w, i32_w]
    rfl
  refine last_ (i := 11) (N := none) #[true, true, true, true, true, true, true, true, true, true, true, true] rfl rfl (one_of HT_.out (by kernel_rfl)) (by decide) (fun K hK => ?_)
  obtain ⟨w7, hrun, htm, hgr⟩ := HST.out _ HWF.out
  simp only [goInt] at hrun
  refine skip_ (w1 := w7) (by rfl) rfl ?_ ?_
  · go_simp
  have HTM7 := Aside0.mk htm
  have HPL7 := Aside0.mk (hPd.out.grown hgr)
  have HCH7 := Aside0.mk (hCd.out.trans (Chg.of_grown hgr))
  clear hrun htm hgr
  refine hK.out _ _ ?_
  clear hK K
  refine norm_ (a' := ?_) ?_ ?_
  rotate_left
  · first
    | (show Act.put _ none _ = _; simp only [Act.put, List.setIfInBounds_toArray, List.set_cons_zero, List.set_cons_succ, i64_w, i32_w]; rfl)
    | rfl
  refine done_ (done_of HT_.out (by kernel_rfl)) ?_
  clear hTd hPd hCd HTM HPL HCH HST HLK HGR HB5 hHeld HT_ HW_ hS0 hwr HTB HWF e0 e1
  have y0 := HPL7.out.blk.c0
  have HCS := Aside0.mk (HPL7.out.ch.cu i hi)
  have z0 := HPL7.out.ch.fz (i * 3)
  have z1 := HPL7.out.ch.fz (i * 3 + 1)
  have z2 := HPL7.out.ch.fz (i * 3 + 2)
  obtain ⟨y1, y2, y3⟩ := HCS.out
  have HPZ := Aside0.mk (HPL7.out.put i hi (1, (k : Int), now))
  have HCZ := Aside0.mk (HCH7.out.trans (put3_chg w7 gc i (1, (k : Int), now) gd gm))
  have HTZ := Aside0.mk (HTM7.out.chg (put3_chg w7 gc i (1, (k : Int), now) gd gd) HPL7.out.e5 HPL7.out.e6)
  go_wp2
  go_ret3
  rw [hR.out, HF2.out]
  exact ⟨rfl, H.out.next HPZ.out HTZ.out (lateGood_put HGD.out i hi k hk HN.out) (by omega) (by omega) (fun a b => by
    have := H.out.tb a b
    have := H.out.tb i k
    simp only [] at *
    show 0 ≤ updT T i k (T i k + 1) a b ∧ updT T i k (T i k + 1) a b ≤ _
    unfold updT
    split <;> omega), HCZ.out⟩
end Go.Proofs.YtoiblfmlahedlaaDoor.As
end
section
namespace Go.Proofs.YtoiblfmlahedlaaDoor.As
open Go.RowKit Go.Proofs.YtoiblfmlahedlaaDoorW.PrintWords Go.Proofs.YtoiblfmlahedlaaDoorW.PrintLast Go.Proofs.YtoiblfmlahedlaaDoorW.PrintMore
set_option linter.unusedVariables false
set_option linter.unusedSimpArgs false
set_option maxRecDepth 100000
theorem in_yes (n a b : Int) (w : World) (h : a ≤ n ∧ n ≤ b) : Calls Tryd.prog 58 #[.int .i64 n, .int .i64 a, .int .i64 b] w fun e w' => e = .returned (.bool true) ∧ w' = w := by
  have e1 : decide (n ≥ a) = true := decide_eq_true h.1
  have e2 : decide (n ≤ b) = true := decide_eq_true h.2
  clear h
  go_enter Tryd.func58, Tryd.ntmps58
  go_wp2
  go_ret
  exact ⟨rfl, rfl⟩
theorem in_no (n a b : Int) (w : World) (h : ¬ (a ≤ n ∧ n ≤ b)) : Calls Tryd.prog 58 #[.int .i64 n, .int .i64 a, .int .i64 b] w fun e w' => e = .returned (.bool false) ∧ w' = w := by
  by_cases h1 : a ≤ n
  · have e1 : decide (n ≥ a) = true := decide_eq_true h1
    have e2 : decide (n ≤ b) = false := decide_eq_false (fun h2 => h ⟨h1, h2⟩)
    clear h h1
    go_enter Tryd.func58, Tryd.ntmps58
    go_wp2
    go_ret
    exact ⟨rfl, rfl⟩
  · have e1 : decide (n ≥ a) = false := decide_eq_false h1
    clear h h1
    go_enter Tryd.func58, Tryd.ntmps58
    go_wp2
    go_ret
    exact ⟨rfl, rfl⟩
def inB (n a b : Int) : Bool := decide (a ≤ n ∧ n ≤ b)
theorem in_calls (n a b : Int) (w : World) : Calls Tryd.prog 58 #[.int .i64 n, .int .i64 a, .int .i64 b] w fun e w' => e = .returned (.bool (inB n a b)) ∧ w' = w := by
  by_cases h : a ≤ n ∧ n ≤ b
  · rw [show inB n a b = true from decide_eq_true h]; exact in_yes n a b w h
  · rw [show inB n a b = false from decide_eq_false h]; exact in_no n a b w h
def mayB (n m win tm : Int) : Bool := inB n 0 100 && inB m 0 64 && inB win 1 100 && inB tm 1 1000000
end Go.Proofs.YtoiblfmlahedlaaDoor.As
end
