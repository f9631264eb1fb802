/- What calls of Go functions of this seat come to, as the rows need it: under the conditions that each theorem names. -/
import Derived.Test.YtllcofllnjgkcaaDoorRefQ
namespace Go.Proofs.YtllcofllnjgkcaaDoor.Ref
open Go.RowKit Go.Proofs.YtllcofllnjgkcaaDoorW.PrintWords Go.Proofs.YtllcofllnjgkcaaDoorW.PrintLast Go.Proofs.YtllcofllnjgkcaaDoorW.PrintMore
set_option linter.unusedVariables false
set_option linter.unusedSimpArgs false
open Go.Proofs.YtllcofllnjgkcaaDoor.Sha
theorem rowR_at {w : World} {A : Option Addr} {n : Nat} {xs : List (List (List Int))} (h : Kd.C KR w A n xs) (k : Nat) (hk : k < n) : ∃ ad A0 c0, A = some ad ∧ w.cell? (ad.add k) = some (.slice A0 (xs.getD k []).length c0) ∧ (xs.getD k []).length ≤ c0 ∧ KD.C w A0 (xs.getD k []).length (xs.getD k []) := by
  obtain ⟨ad, c, e, _, hK, hc0⟩ := Kd.C_get h ([] : List (List Int)) (k : Int) (by omega) (by omega)
  have hc : ∀ j u, c[j]? = some u → w.cell? (ad.add (k * 1 + j)) = some u := hc0
  obtain ⟨A0, c0, rfl, l0, g0⟩ := hK
  simp only [Int.toNat_natCast] at l0 g0 hc
  exact ⟨ad, A0, c0, e, by have hq := hc 0 _ rfl; rwa [Nat.mul_one, Nat.add_zero] at hq, l0, g0⟩
theorem last_cons {α : Type} (x : α) (xs : List α) (d : α) : (x :: xs).getD xs.length d = (x :: xs).getLast (by simp) := by
  rw [List.getD_eq_getElem?_getD, List.getLast_eq_getElem]
  simp
/-- The last row is the climb's end. -/
theorem rows_last (n : Nat) : ∀ rows : List (List Int), rows.length ≤ n → (rows :: rowsP rows).getD (rowsP rows).length [] = climb rows
  | rows, h => by
    by_cases h1 : rows.length ≤ 1
    · rw [rowsP_end h1, climb_end h1]
      rfl
    · match n with
      | 0 => omega
      | n + 1 =>
        have hl := upL_len rows
        have ih := rows_last n (upL rows) (by omega)
        have e : rowsP rows = _ := rowsP_up h1
        rw [e, climb_up h1, ← ih]
        simp
theorem climb_row {rows : List (List Int)} (n : Nat) (hn : rows.length ≤ n) (h : isRow rows) (h1 : 1 ≤ rows.length) : isRow (climb rows) ∧ 1 ≤ (climb rows).length ∧ (climb rows).length ≤ 1 := by
  induction n generalizing rows with
  | zero => omega
  | succ n ih =>
    by_cases h2 : rows.length ≤ 1
    · rw [climb_end h2]
      exact ⟨h, h1, h2⟩
    · rw [climb_up h2]
      have hl := upL_len rows
      exact ih (by omega) (upL_row h) (by omega)
set_option maxHeartbeats 1600000 in
set_option maxRecDepth 100000 in
theorem rroot_calls (gh : Nat) (A : Option Addr) (c : Nat) (l : List Int) (w : World) (hg : w.heap[gh]? = some (.cells hk 54 (0, 0))) (hr : B.C w A l.length l) (hc : l.length ≤ c) (hb : Sha.bytes l) (hl : l.length < 10000000) :
    Calls Tryd.prog 15 #[.pointer (some ⟨gh, 0, none⟩), .slice A l.length c] w fun e w' => e = .returned (vd (rootOf l)) ∧ Below w.heap.size w w' := by
  have HR := Aside0.mk hr
  have HY := Aside0.mk hb
  have HG := Aside0.mk hg
  have HLL := Aside0.mk (show 1 ≤ (leavesL l).length by rw [leavesL_len]; exact count_pos _)
  have HCR := Aside0.mk (climb_row (rows := leavesL l) _ (Nat.le_refl _) (leaves_D l) HLL.out)
  have HLA := Aside0.mk (rows_last _ (leavesL l) (Nat.le_refl _))
  have HRO := Aside0.mk (show rootOf l = shaI (2 :: (be8 l.length ++ (climb (leavesL l)).getD 0 [])) from rfl)
  have HLR := Aside0.mk (show (rowsL l).length = (rowsP (leavesL l)).length + 1 from rfl)
  have HLQ := Aside0.mk (show rowsL l = leavesL l :: rowsP (leavesL l) from rfl)
  rw [← HLQ.out] at HLA
  generalize rootOf l = RT at HRO ⊢
  clear hr hb hg HLL HLQ
  go_enter Tryd.func15, Tryd.ntmps15
  go_upto_region 1 with (fail)
  obtain ⟨w1, hw1, HB1, HD, HZ1⟩ := dg_start w
  rw [hw1]
  clear hw1
  go_wp2_with fail
  refine (rows_calls gh A c l _ (heap_keep HG.out HB1.out) (Kd.C_below HR.out HB1.out) hc HY.out hl).mono ?_
  rintro e w2 ⟨v, rfl, ho, hb⟩
  obtain ⟨A3, c3, rfl, hc3, hr3⟩ := Kd.R_reads ho
  have HB2 := Aside0.mk (below_step HB1.out hb)
  have HD2 := Aside0.mk (heap_keep HD.out hb)
  obtain ⟨q, hq⟩ : ∃ q, q = (rowsP (leavesL l)).length := ⟨_, rfl⟩
  rw [← hq] at HLA HLR
  have hlr : (rowsL l).length = q + 1 := HLR.out
  obtain ⟨ad, A0, c0, rfl, hx0, hc0, hr0⟩ := rowR_at hr3 q (by omega)
  rw [HLA.out] at hx0 hc0 hr0
  have hn1 : (climb (leavesL l)).length = 1 := by have := HCR.out; omega
  rw [hn1] at hx0 hc0 hr0
  obtain ⟨ad0, rfl, _, _⟩ := row_ld hr0 0 (by omega)
  have HX := Aside0.mk (show ∀ w' : World, Below w2.heap.size w2 w' → ∀ D, (climb (leavesL l)).getD 0 [] = D → (Instr.loadAt 32 (.pointer (some ad0))).run Tryd.prog w' = .ok (vd D) w' from fun w' h D hD => by have := row_load' hr0 h 0 (by omega) hD; rwa [Nat.zero_mul, Addr.add_zero'] at this)
  have HTD := Aside0.mk (isRow_getD HCR.out.1 0 (by omega))
  generalize (climb (leavesL l)).getD 0 [] = D at HX HTD HRO
  replace HX := Aside0.mk (HX.out w2 (Below.refl _ _) D rfl)
  have hq9 : q ≤ 9223372036854775806 := by have := ho; have := hr3.2.1; omega
  generalize rowsL l = RL at *
  clear ho hb hr3 hr0 HB1 HD HLA hn1 HCR hq HLR
  have hqi : (RL.length : Int) - 1 = (q : Int) := by omega
  have hql : q < RL.length := by omega
  go_wp2_with (first | ((with_reducible refine gate_dst (N := 19) rfl ?_); refine wpList_load_at rfl (ty := 32) (x := .tmp 18) (p := .pointer (some ad0)) (v := vd D) rfl rfl HX.out ?_))
  refine (rootB_calls l.length D _ (by omega) HTD.out.1).mono ?_
  rintro e w3 ⟨A7, c7, rfl, hc7, hC7, hb⟩
  have HB3 := Aside0.mk (below_step HB2.out hb)
  have HD3 := Aside0.mk (heap_keep HD2.out hb)
  have HXB := Aside0.mk (show Sha.bytes (2 :: (be8 l.length ++ D)) from fun x hx => by
    rcases List.mem_cons.1 hx with rfl | hx
    · omega
    · exact bytes_app (be8_bytes _) HTD.out.2 x hx)
  have HXN := Aside0.mk (show (2 :: (be8 l.length ++ D)).length < 100000000 by simp [HTD.out.1, be8])
  generalize (2 :: (be8 l.length ++ D) : List Int) = X at *
  clear hb hx0
  go_wp2_with fail
  refine (hsum_calls gh A7 c7 X _ (heap_keep HG.out HB3.out) hC7 hc7 HXB.out HXN.out).mono ?_
  rintro e w4 ⟨rfl, hb⟩
  rw [← HRO.out]
  have HB4 := Aside0.mk (below_step HB3.out hb)
  have HD4 := Aside0.mk (heap_keep HD3.out hb)
  have HSL := Aside0.mk (show RT.length = 32 by rw [HRO.out]; exact shaI_len _)
  clear hb
  go_wp2_with (first | (refine wpList_store_row rfl 32 (.tmp 4) (.tmp 21) rfl w.heap.size (cb RT) rfl rfl 32 _ HD4.out (infoDg _ HSL.out) (by rw [cb_size, cb_size, HSL.out]; simp) (cb_one _) ?_))
  (try simp only [Exit.inBlock, Exit.then])
  exact dg_ret rfl rfl HSL.out (setRow_heap _ _ _ _ _ _ HD4.out) rfl ⟨rfl, below_setRow HB4.out (Nat.le_refl _) _⟩
end Go.Proofs.YtllcofllnjgkcaaDoor.Ref
