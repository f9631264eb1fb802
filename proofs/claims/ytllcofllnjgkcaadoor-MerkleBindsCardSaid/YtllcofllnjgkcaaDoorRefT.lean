/- What calls of Go functions of this seat come to, as the rows need it: under the conditions that each theorem names. -/
import Derived.Test.YtllcofllnjgkcaaDoorRefS
import Derived.Test.YtllcofllnjgkcaaDoorChkC
namespace Go.Proofs.YtllcofllnjgkcaaDoor.Ref
open Go.RowKit Go.Proofs.YtllcofllnjgkcaaDoorW.PrintWords Go.Proofs.YtllcofllnjgkcaaDoorW.PrintLast Go.Proofs.YtllcofllnjgkcaaDoorW.PrintMore
set_option linter.unusedVariables false
set_option linter.unusedSimpArgs false
open Go.Proofs.YtllcofllnjgkcaaDoor.Sha
theorem rsize2 (n i : Nat) (w : World) (hn : n < 9223372036854775808) (hi : 64 * i ≤ n) : Calls Tryd.prog 33 #[.int .i64 n, .int .i64 i] w fun e w' => e = .returned (.int .i64 ((sizeN n i : Nat) : Int)) ∧ w' = w := by
  obtain ⟨q, hq⟩ : ∃ q, q = 64 * i := ⟨_, rfl⟩
  obtain ⟨d, hd⟩ : ∃ d, d = n - 64 * i := ⟨_, rfl⟩
  have h1 : IntKind.i64.wrap (64 * (i : Int)) = (q : Int) := by rw [IntKind.wrap_i64]; omega
  have h2 : IntKind.i64.wrap ((n : Int) - (q : Int)) = (d : Int) := by rw [IntKind.wrap_i64]; omega
  have hsd : sizeN n i = min 64 d := by rw [hd]; rfl
  rw [hsd]
  clear hq hd hi hn hsd
  by_cases h : 64 < d
  · have HV := Aside0.mk (show min 64 d = 64 by omega)
    rw [HV.out]
    have hi64 : (d : Int) > 64 := by omega
    clear HV
    go_enter Tryd.func33, Tryd.ntmps33
    go_wp2
    go_ret
    exact ⟨rfl, rfl⟩
  · have HV := Aside0.mk (show min 64 d = d by omega)
    rw [HV.out]
    have hi64 : ¬ (d : Int) > 64 := by omega
    clear HV
    go_enter Tryd.func33, Tryd.ntmps33
    go_wp2
    go_ret
    exact ⟨rfl, rfl⟩
abbrev KS : Kd (List Int) := Kd.slice 5 B
theorem pathR_step {n i : Nat} (d : List Int) {q : List (List Int)} (h : ¬ n ≤ 1) (h2 : ¬ n ≤ oth i) (hq : 0 < q.length) :
    pathR n i d q = (pathR ((n + 1) / 2) (i / 2) (if i % 2 = 0 then pairI d (q.getD 0 []) else pairI (q.getD 0 []) d) (q.drop 1)).map fun r => ((if i % 2 = 0 then 1 :: (d ++ q.getD 0 []) else 1 :: (q.getD 0 [] ++ d)) :: r.1, r.2) := by
  cases q with
  | nil => simp at hq
  | cons x r => rw [pathR_cons d x r h h2]; rfl
/-- Rows ahead of a way up. -/
def ahead (rows : List (List Int)) (r : Option (List (List Int) × List Int × List (List Int))) : Option (List (List Int) × List Int × List (List Int)) := r.map fun r => (rows ++ r.1, r.2)
theorem ahead_none (rows : List (List Int)) : ahead rows none = none := rfl
theorem ahead_end (rows : List (List Int)) (t : List Int) (q : List (List Int)) : ahead rows (some ([], t, q)) = some (rows, t, q) := by simp [ahead]
theorem ahead_cons (rows : List (List Int)) (x : List Int) (r : Option (List (List Int) × List Int × List (List Int))) : ahead rows (r.map fun r => (x :: r.1, r.2)) = ahead (rows ++ [x]) r := by
  cases r with
  | none => rfl
  | some r => simp [ahead]
/-- What path tells. -/
def pathT (n : Nat) : Option (List (List Int) × List Int × List (List Int)) → List (List Int) × Bool
  | none => ([], false)
  | some (rows, t, q) => (rows ++ [2 :: (be8 n ++ t)], decide (q.length = 0))
def pathV (n i : Nat) (l : List Int) (p : List (List Int)) : List (List Int) × Bool := pathT n (ahead [0 :: (be8 i ++ l)] (pathR (countN n) i (leafI i l) p))
theorem R_row {α : Type} {d : Kd α} {e base : Nat} {ok : Nat → Prop} {w : World} {v : Value} {xs : List α} {g t : Nat} {cells : Array Value} (h : d.R e w base ok v xs) (hb : w.heap[g]? = some (.cells cells t (0, 0))) (ht : ∀ q, q ∈ e :: d.E → q ≠ t) (cs : Array Value) : d.R e (w.setRow g cs) base ok v xs :=
  Kd.R_mono (Kd.R_step (Kd.R_types h hb ht) (fun k hk _ => setRow_other w g k cs hk.2)) (fun _ hk => hk.1)
theorem heap_over {α : Type} {d : Kd α} {e base : Nat} {ok : Nat → Prop} {w w1 : World} {v : Value} {xs : List α} {g t : Nat} {cells : Array Value} (h : d.R e w base ok v xs) (hb : w.heap[g]? = some (.cells cells t (0, 0))) (ht : e ≠ t) (hg : w.grownBy w1 v.ownBlock) : w1.heap[g]? = some (.cells cells t (0, 0)) := by
  rw [hg.block g (Array.getElem?_eq_some_iff.1 hb).1 (Kd.R_ne h hb ht)]
  exact hb
theorem leafL_bytes {l : List Int} (i : Nat) (h : Sha.bytes l) : Sha.bytes (0 :: (be8 i ++ l)) := fun x hx => by
  rcases List.mem_cons.1 hx with rfl | hx
  · omega
  · exact bytes_app (be8_bytes i) h x hx
theorem nodeL_bytes {a b : List Int} (h : Sha.bytes a) (g : Sha.bytes b) : Sha.bytes (1 :: (a ++ b)) := fun x hx => by
  rcases List.mem_cons.1 hx with rfl | hx
  · omega
  · exact bytes_app h g x hx
def pta_T10 : Bool × List (List Nat × List Nat) := (true, [([], []), ([], []), ([], []), ([1, 2], [1, 2]), ([3], [3]), ([0, 4], [0, 4]), ([5, 5, 0, 1, 2, 3, 4, 5], [5])])
def pta_B10 : List Nat := [0, 0, 0, 6, 14, 31, 63]
theorem pta_tab10 : rtab .any (opsOf Tryd.f37 10) = pta_T10 := by kernel_rfl
theorem pta_bits10 : waitsOk pta_T10.2 pta_B10 = true := by kernel_rfl
def ptb_T12 : Bool × List (List Nat × List Nat) := (true, [([], []), ([], []), ([0, 1], [0, 1]), ([2], [2]), ([], []), ([3, 4], [3, 4]), ([5, 5, 0, 1, 2, 3, 4, 5], [5])])
def ptb_B12 : List Nat := [0, 0, 3, 7, 0, 31, 63]
theorem ptb_tab12 : rtab .any (opsOf Tryd.f37 12) = ptb_T12 := by kernel_rfl
theorem ptb_bits12 : waitsOk ptb_T12.2 ptb_B12 = true := by kernel_rfl
set_option maxHeartbeats 3200000 in
set_option maxRecDepth 100000 in
theorem path_calls (gh n i : Nat) (A A' : Option Addr) (c c' : Nat) (l : List Int) (p : List (List Int)) (w : World) (hg : w.heap[gh]? = some (.cells hk 54 (0, 0))) (hn : n < 9223372036854775808) (hi : i < countN n)
    (hr : B.C w A l.length l) (hc : l.length ≤ c) (hb : Sha.bytes l) (hl : l.length < 10000000) (hp : KD.C w A' p.length p) (hc' : p.length ≤ c') (hpr : isRow p) (hpl : p.length < 1000000) :
    Calls Tryd.prog 37 #[.pointer (some ⟨gh, 0, none⟩), .int .i64 n, .int .i64 i, .slice A l.length c, .slice A' p.length c'] w fun e w' => ∃ v, e = .returned (.tuple #[v, .bool (pathV n i l p).2]) ∧ Kd.R KS 22 w' w.heap.size (fun _ => True) v (pathV n i l p).1 ∧ Below w.heap.size w w' := by
  have HR := Aside0.mk hr
  have HY := Aside0.mk hb
  have HP := Aside0.mk hp
  have HPR := Aside0.mk hpr
  have HG0 := Aside0.mk hg
  have HM := Aside0.mk hn
  have HL := Aside0.mk hl
  have HC := Aside0.mk (fun w => rcount_calls n w hn)
  have HJN := Aside0.mk (show i < countN n ∧ countN n ≤ 144115188075855872 ∧ i < 9223372036854775808 from ⟨hi, by unfold countN; omega, by unfold countN at hi; omega⟩)
  have hN1 := count_pos n
  clear hr hb hp hpr hg hn hi hl
  have HRES := Aside0.mk (show pathT n (ahead [0 :: (be8 i ++ l)] (pathR (countN n) i (leafI i l) p)) = pathV n i l p from rfl)
  generalize pathV n i l p = RES at HRES ⊢
  have HLFB := Aside0.mk (leafL_bytes i HY.out)
  have HLFE := Aside0.mk (show shaI (0 :: (be8 i ++ l)) = leafI i l from rfl)
  have HLFL := Aside0.mk (show (0 :: (be8 i ++ l)).length < 100000000 by have := HL.out; simp [be8]; omega)
  have HD0 := Aside0.mk (show isD (leafI i l) by unfold leafI; exact sha_D _)
  go_enter Tryd.func37, Tryd.ntmps37
  go_wp2_with fail
  refine (leafB_calls i A c l _ HJN.out.2.2 HR.out hc HL.out).mono ?_
  rintro e w1 ⟨v1, rfl, ho, hb⟩
  have HB1 := Aside0.mk hb
  generalize hLF : (0 :: (be8 i ++ l) : List Int) = LF at *
  generalize hdd : leafI i l = d0 at *
  have HO1 := Aside0.mk ho
  obtain ⟨A1, c1, rfl, hc1, hC1⟩ := RB_reads ho
  have HC1 := Aside0.mk hC1
  clear ho hb hC1 hLF hdd
  go_upto_region 2 with (first | ((with_reducible refine gate_dst (N := 21) rfl ?_); refine Kd.R_lit KS (w0 := w) w.heap.size 22 ?hg (N := 21) ?hd (xs := [LF]) (inner := [.slice A1 LF.length c1]) (ok := fun _ => True) (okp := fun _ => True) ?hr ?hp (fun _ hk => hk) trivial HB1.out HB1.out.size (by simp) ?_; (case hd => rfl); (case hg => rfl); (case hr => first | (go_simp; done) | (go_simp; rfl)); (case hp => exact Reps.one ⟨_, rfl, HO1.out⟩ (Reps.none _ _)); intro v2 w2 ho hb1 hg hnew; have HQ := Aside0.mk ho; have HBQ := Aside0.mk hb1; clear ho hb1 hg hnew))
  obtain ⟨A2, c2, rfl, hc2, hr2⟩ := Kd.R_reads HQ.out
  obtain ⟨ad2, A3, c3, rfl, hcell, hc3, hC3⟩ := row_at hr2 0 (by simp)
  replace hC3 : B.C w2 A3 LF.length LF := hC3
  replace hcell : w2.cell? ad2 = some (.slice A3 LF.length c3) := by rw [show ad2 = ad2.add 0 by simp [Addr.add_zero']]; exact hcell
  replace hc3 : LF.length ≤ c3 := hc3
  have HC3 := Aside0.mk hC3
  clear hr2 hC3 HO1 HC1
  go_wp2_with fail
  refine (hsum_calls gh A3 c3 LF _ (heap_keep HG0.out HBQ.out) HC3.out hc3 HLFB.out HLFL.out).mono ?_
  rintro e w3 ⟨rfl, hb⟩
  rw [HLFE.out]
  have HB3 := Aside0.mk (below_step HBQ.out hb)
  replace HQ := Aside0.mk (Kd.R_below HQ.out hb)
  clear hb hcell
  go_upto_region 3 with (first | (obtain ⟨w4, hw4, HB4, HD4, HZ4⟩ := dg_start w3; rw [hw4]; clear hw4; refine wpList_store_row rfl 32 (.tmp 13) (.tmp 26) rfl w3.heap.size (cb d0) rfl rfl 32 _ HD4.out (infoDg _ HD0.out.1) (by rw [cb_size, cb_size, HD0.out.1]; simp) (cb_one _) ?_))
  obtain ⟨w5, hw5, HG5, HB5, HQ5⟩ : ∃ w5, w4.setRow w3.heap.size (cb d0) = w5 ∧ Aside0 (w5.heap[w3.heap.size]? = some (.cells (cb d0) 32 (0, 0))) ∧ Aside0 (Below w.heap.size w w5) ∧ Aside0 (Kd.R KS 22 w5 w.heap.size (fun _ => True) (.slice (some ad2) [LF].length c2) [LF]) :=
    ⟨_, rfl, ⟨setRow_heap _ _ _ _ _ _ HD4.out⟩, ⟨below_setRow (below_step HB3.out HB4.out) HB3.out.size _⟩, ⟨R_row (Kd.R_below HQ.out HB4.out) HD4.out (by decide) _⟩⟩
  rw [hw5]
  have HGE := Aside0.mk HB3.out.size
  clear hw5 HB4 HD4 HZ4 HB3 HQ
  generalize w3.heap.size = g at *
  go_wp2_with fail
  refine (HC.out _).mono ?_
  rintro e w6 ⟨rfl, hw⟩
  replace hw := hw.symm
  subst hw
  have hjN := HJN.out.1
  have HN2 := Aside0.mk HJN.out.2.1
  clear HJN HC
  generalize countN n = N0 at HRES HN2 hjN hN1 ⊢
  have HRES2 := Aside0.mk (show ∃ r, r = ahead [LF] (pathR N0 i d0 p) ∧ pathT n r = RES from ⟨_, rfl, HRES.out⟩)
  obtain ⟨R0, hR0, hRR⟩ := HRES2.out
  have HR0 := Aside0.mk (show ahead [LF] (pathR N0 i d0 (p.drop 0)) = R0 from hR0.symm)
  have HRR := Aside0.mk hRR
  clear hR0 hRR HRES HRES2
  go_wp2_with fail
  go_loopw [2, 12, 14, 15] (fun vi vo vn va wr => ∃ (N I at0 : Nat) (d : List Int) (rows : List (List Int)), vi = .int .i64 (I : Int) ∧ vn = .int .i64 (N : Int) ∧ va = .int .i64 (at0 : Int) ∧ Aside0 (N ≤ 144115188075855872) ∧ I < N ∧ at0 ≤ p.length ∧ Aside0 (rows.length ≤ at0 + 1) ∧ Aside0 (isD d) ∧ Aside0 (ahead rows (pathR N I d (p.drop at0)) = R0) ∧ Aside0 (wr.heap[g]? = some (.cells (cb d) 32 (0, 0))) ∧ Aside0 (Kd.R KS 22 wr w.heap.size (fun _ => True) vo rows) ∧ Aside0 (Below w.heap.size w wr)) (fun _ _ v _ _ => (intOf v).toNat)
  case atStart => exact ⟨N0, i, 0, d0, [LF], rfl, rfl, rfl, HN2, hjN, Nat.zero_le _, ⟨by simp⟩, HD0, HR0, HG5, HQ5, HB5⟩
  case round =>
    clear HN2 hjN hN1 HD0 HR0 HG5 HQ5 HB5 hc
    obtain ⟨N, I, at0, d, rows, rfl, rfl, rfl, HN, hI, hat, HRL, HD, HPT, HG, HO, HB⟩ := hrel
    have HLG := Aside0.mk (ldg HG.out HD.out.1)
    by_cases hn1 : 1 < N
    · have e1 : decide ((N : Int) > 1) = true := decide_eq_true (by omega)
      have HN57 := Aside0.mk (show (N : Int) + 1 ≤ 144115188075855873 by have := HN.out; omega)
      have hN2 : (N + 1) / 2 < N ∧ I / 2 < (N + 1) / 2 := by omega
      have HNN := Aside0.mk (show (N + 1) / 2 ≤ 144115188075855872 by have := HN.out; omega)
      by_cases hal : N ≤ oth I
      · have hev : I % 2 = 0 ∧ I + 1 = N := by unfold oth at hal; split at hal <;> omega
        have e5 : ((I : Int) % 2 == 0) = true := by simpa using (show (I : Int) % 2 = 0 by omega)
        have e6 : ((I : Int) == (N : Int) - 1) = true := by simpa using (show (I : Int) = (N : Int) - 1 by omega)
        have HPT2 := Aside0.mk (by have h := HPT.out; rw [pathR_alone d _ (by omega) hal] at h; exact h)
        clear hev hal
        have hN57 := HN57.out
        go_wp2
        go_roundw
        case rel => exact ⟨(N + 1) / 2, I / 2, at0, d, rows, by go_num, by go_num, rfl, HNN, hN2.2, hat, HRL, HD, HPT2, HG, HO, HB⟩
        case measure => simp [intOf]; omega
      · have HEA := Aside0.mk hal
        go_upto_region 6 with (fail)
        go_cut [16] (fun v wc => v = .bool false ∧ wc = wr)
        case first =>
          by_cases hpar : I % 2 = 0
          · have e5 : ((I : Int) % 2 == 0) = true := by simpa using (show (I : Int) % 2 = 0 by omega)
            have e6 : ((I : Int) == (N : Int) - 1) = false := by
              rw [beq_eq_false_iff_ne]
              intro h3
              apply hal
              unfold oth
              rw [if_pos hpar]
              omega
            clear hpar hal
            have hN57 := HN57.out
            go_wp2
            go_meet
            exact ⟨rfl, rfl⟩
          · have e5 : ((I : Int) % 2 == 0) = false := by rw [beq_eq_false_iff_ne]; omega
            clear hpar hal
            go_wp2
            go_meet
            exact ⟨rfl, rfl⟩
        case rest =>
          obtain ⟨rfl, hwc⟩ := hcut
          replace hwc := hwc.symm
          subst hwc
          clear hal
          by_cases hap : at0 < p.length
          · have e7 : decide ((at0 : Int) ≥ (p.length : Int)) = false := decide_eq_false (by omega)
            have e8 : decide (p.length ≤ at0) = false := decide_eq_false (by omega)
            have HPT2 := Aside0.mk (by have h := HPT.out; rw [pathR_step d (by omega) HEA.out (by rw [List.length_drop]; omega), ahead_cons] at h; exact h)
            have HDR := Aside0.mk (show (p.drop at0).drop 1 = p.drop (at0 + 1) by rw [List.drop_drop])
            have HGD := Aside0.mk (show (p.drop at0).getD 0 [] = p.getD at0 [] by simp [List.getD_eq_getElem?_getD])
            rw [HDR.out, HGD.out] at HPT2
            obtain ⟨ad, rfl, _, _⟩ := row_ld HP.out at0 hap
            have HXD := Aside0.mk (isRow_getD HPR.out at0 hap)
            generalize hxe : p.getD at0 [] = x at HXD HPT2
            have HX := Aside0.mk (show ∀ w' : World, Below wr.heap.size wr w' → (Instr.loadAt 32 (.pointer (some (ad.add (at0 * 32))))).run Tryd.prog w' = .ok (vd x) w' from fun w' h => row_load' HP.out (below_step HB.out h) at0 hap hxe)
            clear hxe HDR HGD HPT HEA
            go_upto_region 10 with (fail)
            have hS0 : Below wr.heap.size wr wr.drew := below_drew1 (Below.refl _ _)
            refine start_ (n := 7) (S := fun w' => Below wr.heap.size wr w') (ds := []) #[false, false, false, false, false, false, false] (by kernel_rfl) rfl rfl (by exact hS0) (fun hHeld => ?_)
            refine with_tabW pta_tab10 pta_bits10 (fun HT_ HW_ => ?_)
            refine pure_ (i := 1) (N := some 47) (v := ?_) (a' := ?_) #[false, true, false, false, false, false, false] rfl rfl (any_of HT_.out (by kernel_rfl)) (fun _ _ _ h => h) (Or.inl ⟨by rfl, ?_⟩) ?_ ?_
            rotate_left
            · intro w'
              go_simp
              with_reducible rfl
            rotate_left
            · simp only [Act.put, List.setIfInBounds_toArray, List.set_cons_zero, List.set_cons_succ, i64_w, i32_w]
              rfl
            refine pure_ (i := 2) (N := some 48) (v := ?_) (a' := ?_) #[false, true, true, false, false, false, false] rfl rfl (any_of HT_.out (by kernel_rfl)) (fun _ _ _ h => h) (Or.inl ⟨by rfl, ?_⟩) ?_ ?_
            rotate_left
            · intro w'
              go_simp
              with_reducible rfl
            rotate_left
            · simp only [Act.put, List.setIfInBounds_toArray, List.set_cons_zero, List.set_cons_succ, i64_w, i32_w]
              rfl
            refine pure_ (i := 3) (N := some 49) (v := ?_) (a' := ?_) #[false, true, true, true, false, false, false] rfl rfl (any_of HT_.out (by kernel_rfl)) (fun _ _ _ h => h) (Or.inl ⟨by rfl, ?_⟩) ?_ ?_
            rotate_left
            · intro w'
              go_simp
              with_reducible rfl
            rotate_left
            · simp only [Act.put, List.setIfInBounds_toArray, List.set_cons_zero, List.set_cons_succ, i64_w, i32_w]
              rfl
            refine take_ (i := 0) (N := some 46) (v := ?_) (a' := ?_) #[true, true, true, true, false, false, false] rfl rfl (take_ofW HT_.out HW_.out (by kernel_rfl)) (fun _ _ _ h => h) (Or.inl ⟨by rfl, ?_⟩) hHeld ?_ ?_
            rotate_left
            · intro w' hSt
              refine (exec_load (p := .pointer (some ⟨g, 0, none⟩)) rfl rfl (HLG.out w' hSt)).trans ?_
              with_reducible rfl
            rotate_left
            · simp only [Act.put, List.setIfInBounds_toArray, List.set_cons_zero, List.set_cons_succ, i64_w, i32_w]
              rfl
            refine take_ (i := 4) (N := some 50) (v := ?_) (a' := ?_) #[true, true, true, true, true, false, false] rfl rfl (take_ofW HT_.out HW_.out (by kernel_rfl)) (fun _ _ _ h => h) (Or.inl ⟨by rfl, ?_⟩) hHeld ?_ ?_
            rotate_left
            · intro w' hSt
              refine (exec_load (p := .pointer (some (ad.add (at0 * 32)))) rfl rfl (HX.out w' hSt)).trans ?_
              with_reducible rfl
            rotate_left
            · simp only [Act.put, List.setIfInBounds_toArray, List.set_cons_zero, List.set_cons_succ, i64_w, i32_w]
              rfl
            refine one_ (i := 5) (N := some 51) #[true, true, true, true, true, true, false] rfl rfl (one_of HT_.out (by kernel_rfl)) (by decide) (fun K hK => ?_)
            refine goes_ Tryd.func42 (by kernel_rfl) rfl #[vd d, vd x] (by rfl) rfl rfl (by (try simp only [List.map_toArray, List.map_cons, List.map_nil]); first | done | rfl) ?_
            refine (nodeB_R d x _ HD.out.1 HXD.out.1).mono ?_
            rintro e w3 ⟨v7, rfl, ho, hb⟩
            refine ⟨_, rfl, ?_⟩
            have hS1 := below_step hHeld hb
            have HO7 := Aside0.mk (Kd.R_lower ho hHeld.size)
            clear hb ho
            refine hK.out _ _ (by exact hS1) (fun hHeld => ?_)
            clear hK K
            refine norm_ (a' := ?_) ?_ ?_
            rotate_left
            · first
              | (show Act.put _ (some 51) _ = _; simp only [Act.put, List.setIfInBounds_toArray, List.set_cons_zero, List.set_cons_succ, i64_w, i32_w]; rfl)
              | rfl
            refine pure_ (i := 6) (N := some 17) (v := ?_) (a' := ?_) #[true, true, true, true, true, true, true] rfl rfl (any_of HT_.out (by kernel_rfl)) (fun _ _ _ h => h) (Or.inl ⟨by rfl, ?_⟩) ?_ ?_
            rotate_left
            · intro w'
              go_simp
              with_reducible rfl
            rotate_left
            · simp only [Act.put, List.setIfInBounds_toArray, List.set_cons_zero, List.set_cons_succ, i64_w, i32_w]
              rfl
            refine done_ (done_of HT_.out (by kernel_rfl)) ?_
            have HB7 := Aside0.mk hHeld
            clear hS0 hHeld HT_ HW_
            go_upto_if 54 with (fail)
            have HX2 := Aside0.mk (show ∃ X D2 : List Int, (if I % 2 = 0 then 1 :: (d ++ x) else 1 :: (x ++ d)) = X ∧ (if I % 2 = 0 then pairI d x else pairI x d) = D2 ∧ shaI X = D2 ∧ isD D2 ∧ Sha.bytes X ∧ X.length < 100000000 from by
              by_cases hpar : I % 2 = 0
              · rw [if_pos hpar, if_pos hpar]
                exact ⟨_, _, rfl, rfl, rfl, by unfold pairI; exact sha_D _, nodeL_bytes HD.out.2 HXD.out.2, by simp [HD.out.1, HXD.out.1]⟩
              · rw [if_neg hpar, if_neg hpar]
                exact ⟨_, _, rfl, rfl, rfl, by unfold pairI; exact sha_D _, nodeL_bytes HXD.out.2 HD.out.2, by simp [HD.out.1, HXD.out.1]⟩)
            obtain ⟨X, D2, hX, hD2, hsX, hiD, hbX, hlX⟩ := HX2.out
            rw [hX, hD2] at HPT2
            have HXE := Aside0.mk hX
            have HSX := Aside0.mk hsX
            have HD2 := Aside0.mk hiD
            have HXB := Aside0.mk hbX
            have HXN := Aside0.mk hlX
            clear hX hD2 hsX hiD hbX hlX HX2
            go_cut [17] (fun v wc => Aside0 (Kd.R B 5 wc wr.heap.size (fun _ => True) v X) ∧ Aside0 (Below wr.heap.size wr wc))
            case first =>
              by_cases hpar : I % 2 = 0
              · have e9 : ((I : Int) % 2 == 1) = false := by rw [beq_eq_false_iff_ne]; omega
                have HXE2 := Aside0.mk (show 1 :: (d ++ x) = X by have h := HXE.out; rw [if_pos hpar] at h; exact h)
                rw [HXE2.out] at HO7
                clear hpar
                go_wp2
                go_meet
                exact ⟨HO7, HB7⟩
              · have e9 : ((I : Int) % 2 == 1) = true := by simpa using (show (I : Int) % 2 = 1 by omega)
                have HXE2 := Aside0.mk (show 1 :: (x ++ d) = X by have h := HXE.out; rw [if_neg hpar] at h; exact h)
                clear hpar HO7
                go_upto_region 12 with (fail)
                have hS0 : Below wr.heap.size wr w3.drew := below_drew1 HB7.out
                refine start_ (n := 7) (S := fun w' => Below wr.heap.size wr w') (ds := []) #[false, false, false, false, false, false, false] (by kernel_rfl) rfl rfl (by exact hS0) (fun hHeld => ?_)
                refine with_tabW ptb_tab12 ptb_bits12 (fun HT_ HW_ => ?_)
                refine pure_ (i := 0) (N := some 55) (v := ?_) (a' := ?_) #[true, false, false, false, false, false, false] rfl rfl (any_of HT_.out (by kernel_rfl)) (fun _ _ _ h => h) (Or.inl ⟨by rfl, ?_⟩) ?_ ?_
                rotate_left
                · intro w'
                  go_simp
                  with_reducible rfl
                rotate_left
                · simp only [Act.put, List.setIfInBounds_toArray, List.set_cons_zero, List.set_cons_succ, i64_w, i32_w]
                  rfl
                refine pure_ (i := 1) (N := some 56) (v := ?_) (a' := ?_) #[true, true, false, false, false, false, false] rfl rfl (any_of HT_.out (by kernel_rfl)) (fun _ _ _ h => h) (Or.inl ⟨by rfl, ?_⟩) ?_ ?_
                rotate_left
                · intro w'
                  go_simp
                  with_reducible rfl
                rotate_left
                · simp only [Act.put, List.setIfInBounds_toArray, List.set_cons_zero, List.set_cons_succ, i64_w, i32_w]
                  rfl
                refine pure_ (i := 2) (N := some 57) (v := ?_) (a' := ?_) #[true, true, true, false, false, false, false] rfl rfl (any_of HT_.out (by kernel_rfl)) (fun _ _ _ h => h) (Or.inl ⟨by rfl, ?_⟩) ?_ ?_
                rotate_left
                · intro w'
                  go_simp
                  with_reducible rfl
                rotate_left
                · simp only [Act.put, List.setIfInBounds_toArray, List.set_cons_zero, List.set_cons_succ, i64_w, i32_w]
                  rfl
                refine take_ (i := 3) (N := some 58) (v := ?_) (a' := ?_) #[true, true, true, true, false, false, false] rfl rfl (take_ofW HT_.out HW_.out (by kernel_rfl)) (fun _ _ _ h => h) (Or.inl ⟨by rfl, ?_⟩) hHeld ?_ ?_
                rotate_left
                · intro w' hSt
                  refine (exec_load (p := .pointer (some (ad.add (at0 * 32)))) rfl rfl (HX.out w' hSt)).trans ?_
                  with_reducible rfl
                rotate_left
                · simp only [Act.put, List.setIfInBounds_toArray, List.set_cons_zero, List.set_cons_succ, i64_w, i32_w]
                  rfl
                refine take_ (i := 4) (N := some 59) (v := ?_) (a' := ?_) #[true, true, true, true, true, false, false] rfl rfl (take_ofW HT_.out HW_.out (by kernel_rfl)) (fun _ _ _ h => h) (Or.inl ⟨by rfl, ?_⟩) hHeld ?_ ?_
                rotate_left
                · intro w' hSt
                  refine (exec_load (p := .pointer (some ⟨g, 0, none⟩)) rfl rfl (HLG.out w' hSt)).trans ?_
                  with_reducible rfl
                rotate_left
                · simp only [Act.put, List.setIfInBounds_toArray, List.set_cons_zero, List.set_cons_succ, i64_w, i32_w]
                  rfl
                refine one_ (i := 5) (N := some 60) #[true, true, true, true, true, true, false] rfl rfl (one_of HT_.out (by kernel_rfl)) (by decide) (fun K hK => ?_)
                refine goes_ Tryd.func42 (by kernel_rfl) rfl #[vd x, vd d] (by rfl) rfl rfl (by (try simp only [List.map_toArray, List.map_cons, List.map_nil]); first | done | rfl) ?_
                refine (nodeB_R x d _ HXD.out.1 HD.out.1).mono ?_
                rintro e w3 ⟨v7, rfl, ho, hb⟩
                refine ⟨_, rfl, ?_⟩
                have hS1 := below_step hHeld hb
                have HO7 := Aside0.mk (Kd.R_lower ho hHeld.size)
                clear hb ho
                refine hK.out _ _ (by exact hS1) (fun hHeld => ?_)
                clear hK K
                refine norm_ (a' := ?_) ?_ ?_
                rotate_left
                · first
                  | (show Act.put _ (some 60) _ = _; simp only [Act.put, List.setIfInBounds_toArray, List.set_cons_zero, List.set_cons_succ, i64_w, i32_w]; rfl)
                  | rfl
                refine pure_ (i := 6) (N := some 17) (v := ?_) (a' := ?_) #[true, true, true, true, true, true, true] rfl rfl (any_of HT_.out (by kernel_rfl)) (fun _ _ _ h => h) (Or.inl ⟨by rfl, ?_⟩) ?_ ?_
                rotate_left
                · intro w'
                  go_simp
                  with_reducible rfl
                rotate_left
                · simp only [Act.put, List.setIfInBounds_toArray, List.set_cons_zero, List.set_cons_succ, i64_w, i32_w]
                  rfl
                refine done_ (done_of HT_.out (by kernel_rfl)) ?_
                have HB8 := Aside0.mk hHeld
                clear hS0 hHeld HT_ HW_
                rw [HXE2.out] at HO7
                go_wp2
                go_meet
                exact ⟨HO7, HB8⟩
            case rest =>
              obtain ⟨HO7, HB7⟩ := hcut
              obtain ⟨A7, c7, rfl, hc7, hC7⟩ := RB_reads HO7.out
              have hap1 : (at0 : Int) + 1 ≤ 1000000 := by omega
              have HO2 := Aside0.mk (Kd.R_below HO.out HB7.out)
              have HBw := Aside0.mk (below_step HB.out HB7.out)
              have HG2 := Aside0.mk (heap_keep HG.out HB7.out)
              have HAP := Aside0.mk (Kd.R_apartR (Kd.R_lower HO7.out HB.out.size) HO2.out (by decide))
              have HRL2 := Aside0.mk (show rows.length ≤ 1000000 by have := HRL.out; omega)
              have HAPP := Aside0.mk hap
              clear hC7 hap
              go_wp2_with (first | ((with_reducible refine gate_builtin (b := .append) (xs := #[.tmp 63, .tmp 65]) rfl ?_); at_builtin; refine Kd.R_append KS (w0 := w) w.heap.size rfl (.tmp 63) (.tmp 65) 62 22 (.slice none 0 0) 24 rfl Tryd.underlying62 info23 rfl (by decide) (by omega) _ rows X [.slice A7 X.length c7] (fun _ => True) _ rfl rfl ⟨_, rfl, HAP.out⟩ (fun _ h => ⟨trivial, h.2⟩) (fun _ _ => trivial) HO2.out HBw.out HBw.out.size ?aL ?_; (case aL => have := HRL2.out; omega); intro v9 w9 ho hb2 hg hat; have HO9 := Aside0.mk ho; have HB9 := Aside0.mk hb2; have HC9 := Aside0.mk (Rw.of (Kd.R_over HO7.out HO2.out (by decide) hg)).C; have HG9 := Aside0.mk (heap_over HO2.out HG2.out (by decide) hg); clear ho hb2 hg hat))
              refine (hsum_calls gh A7 c7 X _ (heap_keep HG0.out HB9.out) HC9.out hc7 HXB.out HXN.out).mono ?_
              rintro e w10 ⟨rfl, hb⟩
              rw [HSX.out]
              have HO10 := Aside0.mk (Kd.R_below HO9.out hb)
              have HB10 := Aside0.mk (below_step HB9.out hb)
              have HG10 := Aside0.mk (heap_keep HG9.out hb)
              clear hb HO9 HB9 HG9 HC9
              have hN57 := HN57.out
              go_wp2_with (first | (refine wpList_store_row rfl 32 (.tmp 13) (.tmp 69) rfl g (cb D2) rfl rfl 32 _ HG10.out (infoDg _ HD2.out.1) (by rw [cb_size, cb_size, HD2.out.1, HD.out.1]) (cb_one _) ?_))
              go_roundw
              case rel => exact ⟨(N + 1) / 2, I / 2, at0 + 1, D2, rows ++ [X], by go_num, by go_num, by go_num, HNN, hN2.2, HAPP.out, ⟨by have := HRL.out; simp; omega⟩, HD2, HPT2, ⟨setRow_heap _ _ _ _ _ _ HG10.out⟩, ⟨R_row HO10.out HG10.out (by decide) _⟩, ⟨below_setRow HB10.out HGE.out _⟩⟩
              case measure => simp [intOf]; omega
          · have e7 : decide ((at0 : Int) ≥ (p.length : Int)) = true := decide_eq_true (by omega)
            have e8 : decide (p.length ≤ at0) = true := decide_eq_true (by omega)
            have HE := Aside0.mk (show RES = ([], false) by
              have h := HPT.out
              rw [List.drop_of_length_le (by omega), pathR_none d (by omega) HEA.out, ahead_none] at h
              rw [← HRR.out, ← h]
              rfl)
            go_wp2
            go_ret2
            exact ⟨_, by rw [HE.out]; rfl, by rw [HE.out]; exact Kd.R_nil _ _ _ _ _, HB.out⟩
    · have e1 : decide ((N : Int) > 1) = false := decide_eq_false (by omega)
      have HE := Aside0.mk (show RES = (rows ++ [2 :: (be8 n ++ d)], decide ((p.drop at0).length = 0)) by
        have h := HPT.out
        rw [pathR_end _ _ _ (by omega), ahead_end] at h
        rw [← HRR.out, ← h]
        rfl)
      have HED := Aside0.mk (show decide ((p.drop at0).length = 0) = decide (at0 = p.length) by rw [List.length_drop]; congr 1; exact propext ⟨fun _ => by omega, fun _ => by omega⟩)
      rw [HED.out] at HE
      have HRL2 := Aside0.mk (show rows.length ≤ 1000001 by have := HRL.out; omega)
      go_wp2_with (first | (refine wpList_load_row rfl 32 (.tmp 13) rfl g rfl 32 (cb d) (0, 0) _ HG.out Tryd.underlying32 rfl (infoDg _ HD.out.1) ?_))
      refine (rootB_R n d _ HM.out HD.out.1).mono ?_
      rintro e w7 ⟨v7, rfl, ho, hb⟩
      generalize hX : (2 :: (be8 n ++ d) : List Int) = X at HE ho
      have HO7 := Aside0.mk ho
      obtain ⟨A7, c7, rfl, hc7, hC7⟩ := RB_reads ho
      have HO2 := Aside0.mk (Kd.R_below HO.out hb)
      have HBw := Aside0.mk (below_step HB.out hb)
      have HAP := Aside0.mk (Kd.R_apartR (Kd.R_lower HO7.out HB.out.size) HO2.out (by decide))
      clear ho hb hC7 hX
      go_wp2_with (first | ((with_reducible refine gate_builtin (b := .append) (xs := #[.tmp 75, .tmp 79]) rfl ?_); at_builtin; refine Kd.R_append KS (w0 := w) w.heap.size rfl (.tmp 75) (.tmp 79) 62 22 (.slice none 0 0) 24 rfl Tryd.underlying62 info23 rfl (by decide) (by omega) _ rows X [.slice A7 X.length c7] (fun _ => True) _ rfl rfl ⟨_, rfl, HAP.out⟩ (fun _ h => ⟨trivial, h.2⟩) (fun _ _ => trivial) HO2.out HBw.out HBw.out.size ?aL ?_; (case aL => have := HRL2.out; omega); intro v9 w9 ho hb2 hg hat; have HO9 := Aside0.mk ho; have HB9 := Aside0.mk hb2; clear ho hb2 hg hat))
      go_ret2
      rw [HE.out]
      refine ⟨v9, ?_, HO9.out, HB9.out⟩
      show Ending.returned (.tuple #[v9, .bool ((at0 : Int) == (p.length : Int))]) = Ending.returned (.tuple #[v9, .bool (decide (at0 = p.length))])
      rw [show ((at0 : Int) == (p.length : Int)) = decide (at0 = p.length) by rw [Bool.eq_iff_iff, beq_iff_eq, decide_eq_true_eq]; omega]
end Go.Proofs.YtllcofllnjgkcaaDoor.Ref
