/- What calls of Go functions of this seat come to, as the rows need it: under the conditions that each theorem names. -/
import Derived.Test.YtebjibkgefgalaaDoorJForm
import Derived.RangeFuncNested
import Derived.RangeFuncBound
import Derived.RangeFuncCalls
import Derived.RangeFuncLeaves
import Derived.Shelf.Abstract
import Derived.Shelf.RegionOpen
import Derived.OwnWalkIn
import Derived.TacticsInMore
import Derived.LoopNIn
import Derived.LoopIn
namespace Go.Proofs.YtebjibkgefgalaaDoor.Jr
open Go.RowKit Go.Proofs.YtebjibkgefgalaaDoorW.PrintWords Go.Proofs.YtebjibkgefgalaaDoorW.PrintLast Go.Proofs.YtebjibkgefgalaaDoorW.PrintMore
set_option linter.unusedVariables false
set_option linter.unusedSimpArgs false
open Go.Shelf
open Go.Proofs.YtebjibkgefgalaaDoor.Hand (B formL rowL bytes_calls formL_len info5 uintL_ok bytesL bytesL_eq)
open Go.Proofs.YtebjibkgefgalaaDoor.Sha (shaI shaI_len vd cb cb_size cb_one infoDg dg_start Tab Sum_calls C_cb heap_new heap_keep)
attribute [local go_sem] Oper.semAt_some
theorem toList_eq {a b : ByteArray} (h : a.toList = b.toList) : a = b := by
  rw [ByteArray.toList_eq, ByteArray.toList_eq] at h
  obtain ⟨⟨x⟩⟩ := a
  obtain ⟨⟨y⟩⟩ := b
  simp at h
  rw [h]
theorem bytesOf_str (l : List Int) (h : bys l) : bytesOf (strOfNums l) = l := by
  simp only [strOfNums, bytesOf, List.map_map]
  have : ∀ x ∈ l, (((UInt8.ofNat x.toNat).toNat : Nat) : Int) = x := fun x hx => by
    have := h x hx
    rw [UInt8.toNat_ofNat']
    omega
  conv => rhs; rw [← List.map_id l]
  exact List.map_congr_left this
theorem str_eqB {a b : List Int} (ha : bys a) (hb : bys b) : ((strOfNums a).toList == (strOfNums b).toList) = decide (a = b) := by
  rw [Bool.eq_iff_iff, beq_iff_eq, decide_eq_true_eq]
  refine ⟨fun h => ?_, fun h => by rw [h]⟩
  have := toList_eq h
  rw [← bytesOf_str a ha, ← bytesOf_str b hb, this]
theorem mid_eq (b : List Int) (n : Nat) : (b.take (n + 8)).drop n = (b.drop n).take 8 := by rw [List.drop_take]; congr 1; omega
def jal_T4 : Bool × List (List Nat × List Nat) := (true, [([], []), ([0], [0]), ([], []), ([], []), ([], []), ([4], [4]), ([2, 3, 5], [2, 3, 5]), ([6], [6]), ([1, 7], [1, 7])])
def jal_B4 : List Nat := [0, 1, 0, 0, 0, 16, 60, 124, 255]
theorem jal_tab4 : rtab .any (opsOf Tryd.f29 4) = jal_T4 := by kernel_rfl
theorem jal_bits4 : waitsOk jal_T4.2 jal_B4 = true := by kernel_rfl
set_option maxHeartbeats 3200000 in
set_option maxRecDepth 100000 in
/-- The iterator over the records of bytes, whatever its rounds do, so long as they keep J. -/
theorem all1_calls (l b1 : Nat) (A : Option Addr) (c : Nat) (b : List Int) (hb : bys b) (hL : b.length < 140737488355300) (hc : b.length ≤ c) (w0 : World) (hr : B.C w0 A b.length b) (hT : Tab w0)
    (J : List (List Int) → Nat → World → Prop) (hJ : ∀ pre a W W', J pre a W → Below W.heap.size W W' → J pre a W')
    (hJi : ∀ pre a W, J pre a W → W.cell? ⟨b1, 0, none⟩ = some (.slice A b.length c) ∧ Below w0.heap.size w0 W)
    (hY : ∀ pre a a' x v Wb W, J pre a Wb → Below Wb.heap.size Wb W → Kd.R B 5 W Wb.heap.size (fun _ => True) v x → okR x → a' ≤ b.length → pre.length < b.length → YieldAt Fence.wide 1 Tryd.prog l #[.int .i64 ((a' : Nat) : Int), v] W fun e W' => e = .returned (.bool true) ∧ J (pre ++ [x]) a' W')
    (w : World) (h0 : J [] 0 w) :
    Calls Tryd.prog 29 #[.func (.yield l) #[] #[], .pointer (some ⟨b1, 0, none⟩)] w fun e w' => (∃ v, e = .returned v) ∧ J (readJ b).1 (readJ b).2 w' := by
  have HY := Aside0.mk hb
  have HLL := Aside0.mk hL
  have HR := Aside0.mk hr
  have HTAB := Aside0.mk hT
  have HJ := Aside0.mk hJ
  have HJI := Aside0.mk hJi
  have HYY := Aside0.mk hY
  have HJ0 := Aside0.mk h0
  have hl63 : b.length ≤ 9223372036854775807 := hr.2.1
  clear hr hT hJ hJi hY h0 hb hL
  go_enter Tryd.func29, Tryd.ntmps29
  go_wp2
  go_loopw [3] (fun v wr => ∃ (pre : List (List Int)) (a : Nat), v = .int .i64 (a : Int) ∧ Aside0 (Got b pre a) ∧ Aside0 (pre.length ≤ a) ∧ Aside0 (J pre a wr)) (fun v _ => b.length - (intOf v).toNat)
  case atStart => exact ⟨[], 0, rfl, ⟨Got.start b⟩, ⟨Nat.le_refl _⟩, HJ0⟩
  case round =>
    clear HJ0
    obtain ⟨pre, a, rfl, HG, HPA, HJW⟩ := hrel
    obtain ⟨hcell, hbel⟩ := HJI.out _ _ _ HJW.out
    have HB := Aside0.mk hbel
    have hag : a ≤ b.length := HG.out.1
    clear hbel
    go_wp2_with fail
    refine (bytes_calls A c b (a : Int) 8000 _ (Kd.C_below HR.out HB.out) hc HY.out HLL.out (by omega)).mono ?_
    rintro e w1 ⟨v, rfl, ho, hb⟩
    have HST := Aside0.mk (show stepJ b a = if (bytesL b (a : Nat) 8000).2.2 ≠ 0 ∨ (bytesL b (a : Nat) 8000).1.length = 0 ∨ (b.length : Int) - (bytesL b (a : Nat) 8000).2.1 < 8 then none
      else if chk (bytesL b (a : Nat) 8000).1 ≠ (b.drop (bytesL b (a : Nat) 8000).2.1.toNat).take 8 then none
      else some ((bytesL b (a : Nat) 8000).1, (bytesL b (a : Nat) 8000).2.1.toNat + 8) from rfl)
    have HIN := Aside0.mk (fun h => Hand.bytesL_inv b a 8000 HY.out (by have := HLL.out; omega) h)
    have HBD := Aside0.mk hb
    have HJ1 := Aside0.mk (HJ.out _ _ _ _ HJW.out hb)
    clear hb
    obtain ⟨x, nx, er, hx⟩ : ∃ x nx er, bytesL b (a : Int) 8000 = (x, nx, er) := ⟨_, _, _, rfl⟩
    rw [hx] at ho HST HIN ⊢
    replace HST := Aside0.mk (show stepJ b a = if er ≠ 0 ∨ x.length = 0 ∨ (b.length : Int) - nx < 8 then none else if chk x ≠ (b.drop nx.toNat).take 8 then none else some (x, nx.toNat + 8) from HST.out)
    replace HIN := Aside0.mk (show er = 0 → _ from HIN.out)
    have HO := Aside0.mk (show Kd.R B 5 w1 wr.heap.size (fun _ => True) v x from ho)
    clear ho hx
    obtain ⟨A1, c1, rfl, hc1, hr1⟩ := Kd.R_reads HO.out
    have HX := Aside0.mk hr1
    have hx63 : x.length ≤ 9223372036854775807 := hr1.2.1
    clear hr1
    by_cases he : er = 0
    case neg =>
      have HV := Aside0.mk (HG.out.stop (by rw [HST.out, if_pos (.inl he)]))
      have e1 : (er != 0) = true := by rw [bne_iff_ne]; exact he
      have e2 : (er == 0) = false := by rw [beq_eq_false_iff_ne]; exact he
      clear he
      go_wp2
      refine bodyPost_ret (results_none rfl _ _ _) rfl ?_
      rw [HV.out]
      exact ⟨⟨_, rfl⟩, HJ1.out⟩
    subst he
    obtain ⟨y, hy, hyl, hy8, hye, _, hyd⟩ := HIN.out rfl
    obtain ⟨rfl, rfl⟩ : x = y ∧ nx = (a : Int) + (rowL y).length := by
      have h1 := congrArg Prod.fst hye
      have h2 := congrArg (fun p => p.2.1) hye
      exact ⟨h1, h2⟩
    obtain ⟨n, hn⟩ : ∃ n, n = a + (rowL x).length := ⟨_, rfl⟩
    have hnn : (a : Int) + ((rowL x).length : Int) = (n : Int) := by omega
    have hnb : n ≤ b.length := by
      have h1 := congrArg List.length hyd
      have h2 := (rowL_len x (by omega)).1
      simp only [List.length_append, List.length_drop] at h1
      omega
    have hna : a < n := by have h2 := (rowL_len x (by omega)).1; omega
    rw [hnn] at HST ⊢
    replace HST := Aside0.mk (show stepJ b a = if x.length = 0 ∨ (b.length : Int) - (n : Int) < 8 then none else if chk x ≠ (b.drop n).take 8 then none else some (x, n + 8) by rw [HST.out]; simp)
    have HYB := Aside0.mk hy
    have HNA := Aside0.mk hna
    clear hye hyd HIN hn hnn hyl hy hna
    have hbl := HLL.out
    by_cases hx0 : x.length = 0
    · have HV := Aside0.mk (HG.out.stop (by rw [HST.out, if_pos (.inl hx0)]))
      have e1 : ((x.length : Int) == 0) = true := by rw [beq_iff_eq]; omega
      have e2 : (x.length == 0) = true := by rw [beq_iff_eq]; exact hx0
      clear hx0
      go_wp2
      refine bodyPost_ret (results_none rfl _ _ _) rfl ?_
      rw [HV.out]
      exact ⟨⟨_, rfl⟩, HJ1.out⟩
    have e1 : ((x.length : Int) == 0) = false := by rw [beq_eq_false_iff_ne]; omega
    have e2 : (x.length == 0) = false := by rw [beq_eq_false_iff_ne]; exact hx0
    have hcell1 := (HJI.out _ _ _ HJ1.out).1
    have hwn : Go.RowKit.wrap64 ((b.length : Int) - (n : Int)) = (b.length : Int) - (n : Int) := by unfold Go.RowKit.wrap64; omega
    by_cases h8 : (b.length : Int) - (n : Int) < 8
    · have HV := Aside0.mk (HG.out.stop (by rw [HST.out, if_pos (.inr h8)]))
      have e3 : decide ((b.length : Int) - (n : Int) < 8) = true := decide_eq_true h8
      clear h8
      go_wp2
      refine bodyPost_ret (results_none rfl _ _ _) rfl ?_
      rw [HV.out]
      exact ⟨⟨_, rfl⟩, HJ1.out⟩
    have e3 : decide ((b.length : Int) - (n : Int) < 8) = false := decide_eq_false h8
    have h8n : n + 8 ≤ b.length := by omega
    replace HST := Aside0.mk (show stepJ b a = if chk x ≠ (b.drop n).take 8 then none else some (x, n + 8) by rw [HST.out, if_neg (by rintro (h | h) <;> omega)])
    clear h8
    go_wp2_with fail
    refine (Sum_calls A1 c1 x _ HX.out hc1 HYB.out (HTAB.out.below (below_step HB.out HBD.out)) (by omega)).mono ?_
    rintro e w2 ⟨rfl, hb⟩
    have HB2 := Aside0.mk hb
    have HJ2a := Aside0.mk (HJ.out _ _ _ _ HJ1.out hb)
    have HO2a := Aside0.mk (Kd.R_below HO.out hb)
    have HBB := Aside0.mk (below_step HBD.out hb)
    clear hb e1 e2 e3 hwn hcell hcell1 hx63
    have HSL := Aside0.mk (shaI_len x)
    have HCH := Aside0.mk (show bys ((shaI x).take 8) from fun y hy => Sha.shaI_bytes x y (List.mem_of_mem_take hy))
    replace HST := Aside0.mk (show stepJ b a = if (shaI x).take 8 ≠ (b.drop n).take 8 then none else some (x, n + 8) from HST.out)
    generalize shaI x = D at HSL HCH HST ⊢
    go_upto_region 4 with (first | (obtain ⟨w4, hw4, HB4, HD4, HZ4⟩ := dg_start w2; rw [hw4]; clear hw4; refine wpList_store_row rfl 41 (.tmp 7) (.tmp 30) rfl w2.heap.size (cb D) rfl rfl 41 _ HD4.out (infoDg _ HSL.out) (by rw [cb_size, cb_size, HSL.out]; simp) (cb_one _) ?_))
    obtain ⟨w5, hw5⟩ : ∃ w5, w4.setRow w2.heap.size (cb D) = w5 := ⟨_, rfl⟩
    rw [hw5]
    have HD2 := Aside0.mk (show w5.heap[w2.heap.size]? = some (.cells (cb D) 41 (0, 0)) by rw [← hw5]; exact setRow_heap _ _ _ _ _ _ HD4.out)
    have HB25 := Aside0.mk (show Below w2.heap.size w2 w5 by rw [← hw5]; exact below_setRow HB4.out (Nat.le_refl _) _)
    have HJ2 := Aside0.mk (HJ.out _ _ _ _ HJ2a.out HB25.out)
    have HO2 := Aside0.mk (Kd.R_below HO2a.out HB25.out)
    replace HBB := Aside0.mk (below_step HBB.out HB25.out)
    clear HD4 HB4 HZ4 hw5 HB25 HJ2a HO2a HB2 HJ1 HO HX hc1
    generalize w2.heap.size = g at HD2 ⊢
    obtain ⟨A7, c7, hmid, hmr, hmc⟩ := Sha.midB A c b n (n + 8) (by omega) h8n hc
    have hwn8 : Go.RowKit.wrap64 ((n : Int) + 8) = ((n + 8 : Nat) : Int) := by unfold Go.RowKit.wrap64; omega
    have HM7a := hmr _ (Kd.C_below HR.out (below_step HB.out HBB.out))
    rw [mid_eq] at hmid HM7a hmc
    have HM7 := Aside0.mk HM7a
    have HMB := Aside0.mk (show bys ((b.drop n).take 8) from Hand.bytes_take (Hand.bytes_drop HY.out n) 8)
    have hEQ := str_eqB HCH.out HMB.out
    obtain ⟨z, hz⟩ : ∃ z, decide (D.take 8 = (b.drop n).take 8) = z := ⟨_, rfl⟩
    rw [hz] at hEQ
    have HEQ := Aside0.mk hEQ
    replace HST := Aside0.mk (show stepJ b a = if z = false then none else some (x, n + 8) by
      rw [HST.out, ← hz]
      by_cases h : D.take 8 = (b.drop n).take 8
      · rw [if_neg (fun h2 => h2 h), decide_eq_true h, if_neg (by simp)]
      · rw [if_pos h, decide_eq_false h, if_pos rfl])
    clear HM7a hmr hz hEQ HCH HMB
    generalize (b.drop n).take 8 = M8 at hmid HM7 hmc HEQ
    replace hmid : ∀ W : World, (Instr.slice 22 (.slice A b.length c) (some (.int .i64 (n : Int))) (some (.int .i64 ((n : Int) + 8))) none).run Tryd.prog W = .ok (.slice A7 M8.length c7) W := hmid
    have hS0 : Below w5.heap.size w5 w5.drew := below_drew1 (Below.refl _ _)
    refine start_ (n := 9) (S := fun w' => Below w5.heap.size w5 w') (ds := []) #[false, false, false, false, false, false, false, false, false] (by kernel_rfl) rfl rfl (by exact hS0) (fun hHeld => ?_)
    refine with_tabW jal_tab4 jal_bits4 (fun HT_ HW_ => ?_)
    generalize w5.drew = w6 at hHeld hS0 ⊢
    refine pure_ (i := 0) (N := some 31) (v := ?_) (a' := ?_) #[true, false, false, false, false, false, false, false, false] rfl rfl (any_of HT_.out (by kernel_rfl)) (fun _ _ _ h => h) (Or.inl ⟨by rfl, ?_⟩) ?_ ?_
    rotate_left
    · intro w'
      go_simp
      with_reducible rfl
    rotate_left
    · simp only [Act.put, List.setIfInBounds_toArray, List.set_cons_zero, List.set_cons_succ, i64_w, i32_w]
      rfl
    refine take_ (i := 1) (N := some 32) (v := ?_) (a' := ?_) #[true, true, false, false, false, false, false, false, false] rfl rfl (take_ofW HT_.out HW_.out (by kernel_rfl)) (fun _ _ _ h => h) (Or.inl ⟨by rfl, ?_⟩) hHeld ?_ ?_
    rotate_left
    · intro w' hSt
      have hcv : (convert 22 9 (.slice (some ⟨g, 0, none⟩) 8 32)).run Tryd.prog w' = .ok (.string (strOfNums (D.take 8))) w' := Kd.C_string Tryd.underlying22 Tryd.underlying5 Tryd.underlying9 (C_cb8 (heap_keep HD2.out hSt) HSL.out)
      go_simp
      with_reducible rfl
    rotate_left
    · simp only [Act.put, List.setIfInBounds_toArray, List.set_cons_zero, List.set_cons_succ, i64_w, i32_w]
      rfl
    refine take_ (i := 2) (N := some 33) (v := ?_) (a' := ?_) #[true, true, true, false, false, false, false, false, false] rfl rfl (take_ofW HT_.out HW_.out (by kernel_rfl)) (fun _ _ _ h => h) (Or.inl ⟨by rfl, ?_⟩) hHeld ?_ ?_
    rotate_left
    · intro w' hSt
      have hcl := (HJI.out _ _ _ (HJ.out _ _ _ _ HJ2.out hSt)).1
      go_simp
      with_reducible rfl
    rotate_left
    · simp only [Act.put, List.setIfInBounds_toArray, List.set_cons_zero, List.set_cons_succ, i64_w, i32_w]
      rfl
    refine pure_ (i := 3) (N := some 34) (v := ?_) (a' := ?_) #[true, true, true, true, false, false, false, false, false] rfl rfl (any_of HT_.out (by kernel_rfl)) (fun _ _ _ h => h) (Or.inl ⟨by rfl, ?_⟩) ?_ ?_
    rotate_left
    · intro w'
      go_simp
      with_reducible rfl
    rotate_left
    · simp only [Act.put, List.setIfInBounds_toArray, List.set_cons_zero, List.set_cons_succ, i64_w, i32_w]
      rfl
    refine pure_ (i := 4) (N := some 35) (v := ?_) (a' := ?_) #[true, true, true, true, true, false, false, false, false] rfl rfl (any_of HT_.out (by kernel_rfl)) (fun _ _ _ h => h) (Or.inl ⟨by rfl, ?_⟩) ?_ ?_
    rotate_left
    · intro w'
      go_simp
      with_reducible rfl
    rotate_left
    · simp only [Act.put, List.setIfInBounds_toArray, List.set_cons_zero, List.set_cons_succ, i64_w, i32_w]
      rfl
    refine pure_ (i := 5) (N := some 36) (v := ?_) (a' := ?_) #[true, true, true, true, true, true, false, false, false] rfl rfl (any_of HT_.out (by kernel_rfl)) (fun _ _ _ h => h) (Or.inl ⟨by rfl, ?_⟩) ?_ ?_
    rotate_left
    · intro w'
      go_simp
      with_reducible rfl
    rotate_left
    · simp only [Act.put, List.setIfInBounds_toArray, List.set_cons_zero, List.set_cons_succ, i64_w, i32_w]
      rfl
    refine pure_ (i := 6) (N := some 37) (v := ?_) (a' := ?_) #[true, true, true, true, true, true, true, false, false] rfl rfl (any_of HT_.out (by kernel_rfl)) (fun _ _ _ h => h) (Or.inl ⟨by rfl, ?_⟩) ?_ ?_
    rotate_left
    · intro w'
      go_simp
      with_reducible rfl
    rotate_left
    · simp only [Act.put, List.setIfInBounds_toArray, List.set_cons_zero, List.set_cons_succ, i64_w, i32_w]
      rfl
    refine take_ (i := 7) (N := some 38) (v := ?_) (a' := ?_) #[true, true, true, true, true, true, true, true, false] rfl rfl (take_ofW HT_.out HW_.out (by kernel_rfl)) (fun _ _ _ h => h) (Or.inl ⟨by rfl, ?_⟩) hHeld ?_ ?_
    rotate_left
    · intro w' hSt
      have hcv : (convert 22 9 (.slice A7 M8.length c7)).run Tryd.prog w' = .ok (.string (strOfNums M8)) w' := Kd.C_string Tryd.underlying22 Tryd.underlying5 Tryd.underlying9 (Kd.C_below HM7.out hSt)
      go_simp
      with_reducible rfl
    rotate_left
    · simp only [Act.put, List.setIfInBounds_toArray, List.set_cons_zero, List.set_cons_succ, i64_w, i32_w]
      rfl
    refine pure_ (i := 8) (N := some 39) (v := ?_) (a' := ?_) #[true, true, true, true, true, true, true, true, true] rfl rfl (any_of HT_.out (by kernel_rfl)) (fun _ _ _ h => h) (Or.inl ⟨by rfl, ?_⟩) ?_ ?_
    rotate_left
    · intro w'
      go_simp
      rw [HEQ.out]
    rotate_left
    · simp only [Act.put, List.setIfInBounds_toArray, List.set_cons_zero, List.set_cons_succ, i64_w, i32_w]
      rfl
    refine done_ (done_of HT_.out (by kernel_rfl)) ?_
    have HJ6 := Aside0.mk (HJ.out _ _ _ _ HJ2.out hHeld)
    have HO6 := Aside0.mk (Kd.R_below HO2.out hHeld)
    have HB6 := Aside0.mk (below_step HBB.out hHeld)
    clear hS0 hHeld HT_ HW_ HJ2 HO2 HBB HM7 HEQ hmid hmc HD2
    cases z with
    | false =>
      have HV := Aside0.mk (HG.out.stop (by rw [HST.out, if_pos rfl]))
      go_wp2
      refine bodyPost_ret (results_none rfl _ _ _) rfl ?_
      rw [HV.out]
      exact ⟨⟨_, rfl⟩, HJ6.out⟩
    | true =>
    replace HST := Aside0.mk (show stepJ b a = some (x, n + 8) by rw [HST.out, if_neg (by simp)])
    have HG2 := Aside0.mk (HG.out.step HY.out (by have := HLL.out; omega) HST.out)
    obtain ⟨hok, _⟩ := stepJ_some HY.out (by have := HLL.out; omega) HST.out
    have HYA := Aside0.mk (HYY.out pre a (n + 8) x _ wr _ HJW.out HB6.out HO6.out hok h8n (by have := HPA.out; have := HNA.out; omega))
    clear hok
    go_upto_region 6 with (fail)
    obtain ⟨fn, tmps, assign, body, hy, hRI⟩ := HYA.out
    replace hy : (Instr.yield l #[.int .i64 ((n : Int) + 8), .slice A1 x.length c1]).run Tryd.prog w6 = .ok (.round l fn tmps assign body) w6 := hy
    have HRI := Aside0.mk hRI
    clear hRI HYA
    refine (wpIn_wide (n := 2)).1 ?_
    gi_wp2
    refine HRI.out.mono ?_
    rintro e W3 ⟨rfl, hJ3⟩
    have HJ3 := Aside0.mk hJ3
    clear hJ3 hy
    gi_wp2
    go_wp2
    go_roundw
    case rel => exact ⟨pre ++ [x], n + 8, by first | rfl | go_num, HG2, ⟨by have := HPA.out; have := HNA.out; simp; omega⟩, HJ3⟩
    case measure => have := HNA.out; simp [intOf]; omega
end Go.Proofs.YtebjibkgefgalaaDoor.Jr
