/- What calls of Go functions of this seat come to, as the rows need it: under the conditions that each theorem names. -/
import Derived.Test.YtneindaodfiabaaDoorRSame
namespace Go.Proofs.YtneindaodfiabaaDoor.Prog6
open Go.RowKit Go.Proofs.YtneindaodfiabaaDoorW.PrintWords Go.Proofs.YtneindaodfiabaaDoorW.PrintLast Go.Proofs.YtneindaodfiabaaDoorW.PrintMore
set_option linter.unusedVariables false
set_option linter.unusedSimpArgs false
def seq_T6 : Bool × List (List Nat × List Nat) := (true, [([], []), ([], []), ([0, 1], [0, 1]), ([2], [2]), ([], []), ([], []), ([4, 5], [4, 5]), ([6], [6]), ([3, 7], [3, 7])])
def seq_B6 : List Nat := [0, 0, 3, 7, 0, 0, 48, 112, 255]
theorem seq_tab6 : rtab .any (opsOf Tryd.f27 6) = seq_T6 := by kernel_rfl
theorem seq_bits6 : waitsOk seq_T6.2 seq_B6 = true := by kernel_rfl
set_option maxHeartbeats 1600000 in
set_option maxRecDepth 100000 in
theorem equal_calls (A B : Option Addr) (c d : Nat) (p q : List Ins) (w : World) (hp : KP.C w A p.length p) (hq : KP.C w B q.length q) (hc : p.length ≤ c) (hd : q.length ≤ d) :
    Calls Tryd.prog 27 #[.slice A p.length c, .slice B q.length d] w fun e w' => e = .returned (.bool (decide (p = q))) ∧ Below w.heap.size w w' := by
  have HP := Aside0.mk hp
  have HQ := Aside0.mk hq
  have hp63 : p.length ≤ 9223372036854775807 := hp.2.1
  have hq63 : q.length ≤ 9223372036854775807 := hq.2.1
  clear hp hq
  by_cases hl : p.length = q.length
  case neg =>
    have h1 : ((p.length : Int) != (q.length : Int)) = true := by rw [bne_iff_ne]; omega
    have h2 : ((p.length : Int) == (q.length : Int)) = false := by rw [beq_eq_false_iff_ne]; omega
    have h3 : (p.length == q.length) = false := by rw [beq_eq_false_iff_ne]; exact hl
    have HV := Aside0.mk (show decide (p = q) = false from decide_eq_false (fun h => hl (by rw [h])))
    clear hl
    go_enter Tryd.func27, Tryd.ntmps27
    go_wp2
    go_ret
    exact ⟨by rw [HV.out]; rfl, Below.refl _ _⟩
  have h1 : ((p.length : Int) != (q.length : Int)) = false := by rw [bne_eq_false_iff_eq]; omega
  have h2 : ((p.length : Int) == (q.length : Int)) = true := by rw [beq_iff_eq]; omega
  have h3 : (p.length == q.length) = true := by rw [beq_iff_eq]; exact hl
  have HL := Aside0.mk hl
  clear hl
  go_enter Tryd.func27, Tryd.ntmps27
  go_wp2
  go_loopw [13] (fun v wr => ∃ k : Nat, k ≤ p.length ∧ v = .int .i64 (k : Int) ∧ Aside0 (p.take k = q.take k) ∧ Aside0 (Below w.heap.size w wr)) (fun i _ => p.length - (intOf i).toNat)
  case atStart => exact ⟨0, Nat.zero_le _, rfl, ⟨rfl⟩, ⟨Below.refl _ _⟩⟩
  case round =>
    obtain ⟨k, hk, rfl, HT, HB⟩ := hrel
    clear h1 h2 h3
    by_cases hlt : k < p.length
    · have hltq : k < q.length := by have := HL.out; omega
      obtain ⟨ad, rfl, x0, x1, x2, x3, x4, x5⟩ := row_cp (Kd.C_below HP.out HB.out) k hlt p[k] (List.getElem?_eq_getElem hlt)
      obtain ⟨ae, rfl, y0, y1, y2, y3, y4, y5⟩ := row_cp (Kd.C_below HQ.out HB.out) k hltq q[k] (List.getElem?_eq_getElem hltq)
      have HTP := Aside0.mk (List.take_succ_eq_append_getElem hlt)
      have HTQ := Aside0.mk (List.take_succ_eq_append_getElem hltq)
      have HNE := Aside0.mk (show p[k] ≠ q[k] → decide (p = q) = false from fun h => decide_eq_false (fun e => h (by subst e; rfl)))
      have HXE := Aside0.mk (show p[k]? = some p[k] from List.getElem?_eq_getElem hlt)
      have HYE := Aside0.mk (show q[k]? = some q[k] from List.getElem?_eq_getElem hltq)
      clear x0 x1 x2 x3 x4 x5 y0 y1 y2 y3 y4 y5
      generalize p[k] = x at HTP HNE HXE
      generalize q[k] = y at HTQ HNE HYE
      go_upto_region 6 with (fail)
      have hS0 : Below wr.heap.size wr wr.drew := below_drew1 (Below.refl _ _)
      refine start_ (n := 9) (S := fun w' => Below wr.heap.size wr w') (ds := []) #[false, false, false, false, false, false, false, false, false] (by kernel_rfl) rfl rfl (by exact hS0) (fun hHeld => ?_)
      refine with_tabW seq_tab6 seq_bits6 (fun HT_ HW_ => ?_)
      refine pure_ (i := 0) (N := some 16) (v := ?_) (a' := ?_) #[true, false, false, false, false, false, false, false, false] rfl rfl (any_of HT_.out (by kernel_rfl)) (fun _ _ _ h => h) (Or.inl ⟨by rfl, ?_⟩) ?_ ?_
      rotate_left
      · intro w'
        go_simp
        with_reducible rfl
      rotate_left
      · simp only [Act.put, List.setIfInBounds_toArray, List.set_cons_zero, List.set_cons_succ, i64_w, i32_w]
        rfl
      refine pure_ (i := 1) (N := some 17) (v := ?_) (a' := ?_) #[true, true, false, false, false, false, false, false, false] rfl rfl (any_of HT_.out (by kernel_rfl)) (fun _ _ _ h => h) (Or.inl ⟨by rfl, ?_⟩) ?_ ?_
      rotate_left
      · intro w'
        go_simp
        with_reducible rfl
      rotate_left
      · simp only [Act.put, List.setIfInBounds_toArray, List.set_cons_zero, List.set_cons_succ, i64_w, i32_w]
        rfl
      refine pure_ (i := 2) (N := some 18) (v := ?_) (a' := ?_) #[true, true, true, false, false, false, false, false, false] rfl rfl (any_of HT_.out (by kernel_rfl)) (fun _ _ _ h => h) (Or.inl ⟨by rfl, ?_⟩) ?_ ?_
      rotate_left
      · intro w'
        go_simp
        with_reducible rfl
      rotate_left
      · simp only [Act.put, List.setIfInBounds_toArray, List.set_cons_zero, List.set_cons_succ, i64_w, i32_w]
        rfl
      refine pure_ (i := 4) (N := some 20) (v := ?_) (a' := ?_) #[true, true, true, false, true, false, false, false, false] rfl rfl (any_of HT_.out (by kernel_rfl)) (fun _ _ _ h => h) (Or.inl ⟨by rfl, ?_⟩) ?_ ?_
      rotate_left
      · intro w'
        go_simp
        with_reducible rfl
      rotate_left
      · simp only [Act.put, List.setIfInBounds_toArray, List.set_cons_zero, List.set_cons_succ, i64_w, i32_w]
        rfl
      refine pure_ (i := 5) (N := some 21) (v := ?_) (a' := ?_) #[true, true, true, false, true, true, false, false, false] rfl rfl (any_of HT_.out (by kernel_rfl)) (fun _ _ _ h => h) (Or.inl ⟨by rfl, ?_⟩) ?_ ?_
      rotate_left
      · intro w'
        go_simp
        with_reducible rfl
      rotate_left
      · simp only [Act.put, List.setIfInBounds_toArray, List.set_cons_zero, List.set_cons_succ, i64_w, i32_w]
        rfl
      refine pure_ (i := 6) (N := some 22) (v := ?_) (a' := ?_) #[true, true, true, false, true, true, true, false, false] rfl rfl (any_of HT_.out (by kernel_rfl)) (fun _ _ _ h => h) (Or.inl ⟨by rfl, ?_⟩) ?_ ?_
      rotate_left
      · intro w'
        go_simp
        with_reducible rfl
      rotate_left
      · simp only [Act.put, List.setIfInBounds_toArray, List.set_cons_zero, List.set_cons_succ, i64_w, i32_w]
        rfl
      refine take_ (i := 3) (N := some 19) (v := ?_) (a' := ?_) #[true, true, true, true, true, true, true, false, false] rfl rfl (take_ofW HT_.out HW_.out (by kernel_rfl)) (fun _ _ _ h => h) (Or.inl ⟨by rfl, ?_⟩) hHeld ?_ ?_
      rotate_left
      · intro w' hSt
        obtain ⟨ad_, hA_, x0, x1, x2, x3, x4, x5⟩ := row_cp (Kd.C_below HP.out (below_step HB.out hSt)) k hlt x HXE.out
        cases hA_
        go_simp
        with_reducible rfl
      rotate_left
      · simp only [Act.put, List.setIfInBounds_toArray, List.set_cons_zero, List.set_cons_succ, i64_w, i32_w]
        rfl
      refine take_ (i := 7) (N := some 23) (v := ?_) (a' := ?_) #[true, true, true, true, true, true, true, true, false] rfl rfl (take_ofW HT_.out HW_.out (by kernel_rfl)) (fun _ _ _ h => h) (Or.inl ⟨by rfl, ?_⟩) hHeld ?_ ?_
      rotate_left
      · intro w' hSt
        obtain ⟨ad_, hA_, y0, y1, y2, y3, y4, y5⟩ := row_cp (Kd.C_below HQ.out (below_step HB.out hSt)) k hltq y HYE.out
        cases hA_
        go_simp
        with_reducible rfl
      rotate_left
      · simp only [Act.put, List.setIfInBounds_toArray, List.set_cons_zero, List.set_cons_succ, i64_w, i32_w]
        rfl
      refine pure_ (i := 8) (N := some 24) (v := ?_) (a' := ?_) #[true, true, true, true, true, true, true, true, true] rfl rfl (any_of HT_.out (by kernel_rfl)) (fun _ _ _ h => h) (Or.inl ⟨by rfl, ?_⟩) ?_ ?_
      rotate_left
      · intro w'
        refine (exec_neqI (r := decide (x = y)) rfl rfl rfl (by kernel_rfl) (by rw [← eqIns_iff]; exact eqI x y w')).trans ?_
        with_reducible rfl
      rotate_left
      · simp only [Act.put, List.setIfInBounds_toArray, List.set_cons_zero, List.set_cons_succ, i64_w, i32_w]
        rfl
      refine done_ (done_of HT_.out (by kernel_rfl)) ?_
      have HBz := Aside0.mk (below_step HB.out hHeld)
      clear hS0 hHeld HT_ HW_ HB
      by_cases hxy : x = y
      case neg =>
        have HV := Aside0.mk (HNE.out hxy)
        have e0 : decide (x = y) = false := decide_eq_false hxy
        rw [e0]
        clear hxy e0
        go_wp2
        go_ret
        exact ⟨by rw [HV.out]; rfl, HBz.out⟩
      have e0 : decide (x = y) = true := decide_eq_true hxy
      rw [e0]
      have HT1 := Aside0.mk (show p.take (k + 1) = q.take (k + 1) by rw [HTP.out, HTQ.out, HT.out, hxy])
      clear hxy e0 HT
      go_wp2
      go_roundw
      case rel => exact ⟨k + 1, by omega, by go_num, HT1, HBz⟩
      case measure => simp [intOf]; omega
    · obtain rfl : k = p.length := by omega
      have HV := Aside0.mk (show decide (p = q) = true from decide_eq_true (by have h := HT.out; rw [List.take_length, HL.out, List.take_length] at h; exact h))
      clear hlt hk
      go_wp2
      go_ret
      exact ⟨by rw [HV.out]; rfl, HB.out⟩
theorem psame_calls (A B : Option Addr) (c d : Nat) (p q : List Ins) (w : World) (hp : KP.C w A p.length p) (hq : KP.C w B q.length q) (hc : p.length ≤ c) (hd : q.length ≤ d) :
    Calls Tryd.prog 15 #[.slice A p.length c, .slice B q.length d] w fun e w' => e = .returned (.bool (decide (p = q))) ∧ Below w.heap.size w w' := by
  have H := Aside0.mk (equal_calls A B c d p q w hp hq hc hd)
  have hp63 : p.length ≤ 9223372036854775807 := hp.2.1
  have hq63 : q.length ≤ 9223372036854775807 := hq.2.1
  clear hp hq
  generalize decide (p = q) = z at H ⊢
  go_enter Tryd.func15, Tryd.ntmps15
  go_wp2_with fail
  refine H.out.mono ?_
  rintro e w1 ⟨rfl, hb⟩
  clear H
  go_wp2
  go_ret
  exact ⟨rfl, hb⟩
end Go.Proofs.YtneindaodfiabaaDoor.Prog6
