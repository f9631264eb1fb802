/- What calls of Go functions of this seat come to, as the rows need it: under the conditions that each theorem names. -/
import Derived.Test.YtlojemnmdakfiaaDoorHLawActionKeys7
import Derived.Great.BuildSlice
section
namespace Go.Proofs.YtlojemnmdakfiaaDoor.Ref
open Go.RowKit Go.Proofs.YtlojemnmdakfiaaDoorW.PrintWords Go.Proofs.YtlojemnmdakfiaaDoorW.PrintLast Go.Proofs.YtlojemnmdakfiaaDoorW.PrintMore
set_option linter.unusedVariables false
set_option linter.unusedSimpArgs false
open Go.Proofs.YtlojemnmdakfiaaDoor.Sha
def rowsP (rows : List (List Int)) : List (List (List Int)) := if h : rows.length ≤ 1 then [] else upL rows :: rowsP (upL rows)
termination_by rows.length
decreasing_by rw [upL_len]; omega
theorem rowsP_end {rows : List (List Int)} (h : rows.length ≤ 1) : rowsP rows = [] := by rw [rowsP, dif_pos h]
theorem rowsP_up {rows : List (List Int)} (h : ¬ rows.length ≤ 1) : rowsP rows = upL rows :: rowsP (upL rows) := by conv => lhs; rw [rowsP, dif_neg h]
def rowsL (l : List Int) : List (List (List Int)) := leavesL l :: rowsP (leavesL l)
abbrev KR : Kd (List (List Int)) := Kd.slice 35 KD
theorem infoRow : (Tryd.prog.info? 72).map (fun i => (i.zero, i.size, i.bytes)) = some (some (.slice none 0 0), 1, 24) := by kernel_rfl
def rw_T13 : Bool × List (List Nat × List Nat) := (true, [([], []), ([], []), ([], []), ([], []), ([2, 3], [2, 3]), ([4], [4]), ([], []), ([], []), ([7], [7]), ([6, 8], [6, 8]), ([9], [9]), ([5, 10], [5, 10]), ([1, 11, 11], [1, 11]), ([12], [12]), ([0, 13, 12], [0, 13]), ([14, 14, 0, 1, 2, 3, 4, 5, 6, 7, 8, 9, 10, 11, 12, 13, 14], [0, 14])])
def rw_B13 : List Nat := [0, 0, 0, 0, 12, 28, 0, 0, 128, 448, 960, 2044, 4094, 8190, 16383, 32767]
theorem rw_tab13 : rtab .any (opsOf Tryd.f35 13) = rw_T13 := by kernel_rfl
theorem rw_bits13 : waitsOk rw_T13.2 rw_B13 = true := by kernel_rfl
theorem nodeB' (a b X : List Int) (w : World) (ha : a.length = 32) (hb : b.length = 32) (hX : X = 1 :: (a ++ b)) :
    Calls Tryd.prog 54 #[vd a, vd b] w fun e w' => ∃ A c, e = .returned (.slice A X.length c) ∧ X.length ≤ c ∧ B.C w' A X.length X ∧ Below w.heap.size w w' := by
  subst hX
  exact nodeB_calls a b w ha hb
theorem RC {w : World} {base : Nat} {ok : Nat → Prop} {A : Option Addr} {n c : Nat} {xs : List (List Int)} (h : Kd.R KD 35 w base ok (.slice A n c) xs) : KD.C w A xs.length xs := by
  obtain ⟨A', c', e, _, hC⟩ := Kd.R_reads h
  injection e with e1
  subst e1
  exact hC
theorem upN_get (rows : List (List Int)) (n k : Nat) (h : k < n) : (upN rows n)[k]? = some (pairI (rows.getD (2 * k) []) (rows.getD (2 * k + 1) [])) := by
  unfold upN
  rw [List.getElem?_map, List.getElem?_range h]
  rfl
theorem up_two (rows : List (List Int)) (k : Nat) (h : 2 * k + 1 < rows.length) : (upL rows).take k ++ [pairI (rows.getD (2 * k) []) (rows.getD (2 * k + 1) [])] = (upL rows).take (k + 1) := by
  rw [List.take_add_one]
  have : (upL rows)[k]? = some (pairI (rows.getD (2 * k) []) (rows.getD (2 * k + 1) [])) := by
    unfold upL
    split
    · rw [List.getElem?_append_left (by rw [upN_len]; omega)]
      exact upN_get _ _ _ (by omega)
    · exact upN_get _ _ _ (by omega)
  rw [this]
  rfl
theorem up_one (rows : List (List Int)) (k : Nat) (h : 2 * k + 1 = rows.length) : (upL rows).take k ++ [rows.getD (2 * k) []] = (upL rows).take (k + 1) := by
  rw [List.take_add_one]
  have : (upL rows)[k]? = some (rows.getD (2 * k) []) := by
    unfold upL
    rw [if_pos (by omega), List.getElem?_append_right (by rw [upN_len]; omega), upN_len, show k - rows.length / 2 = 0 by omega, show rows.length - 1 = 2 * k by omega]
    rfl
  rw [this]
  rfl
set_option maxHeartbeats 3200000 in
set_option maxRecDepth 100000 in
theorem rows_calls (gh : Nat) (A : Option Addr) (c : Nat) (l : List Int) (w : World) (hg : w.heap[gh]? = some (.cells hk 64 (0, 0))) (hr : B.C w A l.length l) (hc : l.length ≤ c) (hb : Sha.bytes l) (hl : l.length < 10000000) :
    Calls Tryd.prog 35 #[.pointer (some ⟨gh, 0, none⟩), .slice A l.length c] w fun e w' => ∃ v, e = .returned v ∧ Kd.R KR 72 w' w.heap.size (fun _ => True) v (rowsL l) ∧ Below w.heap.size w w' := by
  have HR := Aside0.mk hr
  have HY := Aside0.mk hb
  have HG := Aside0.mk hg
  have HC := Aside0.mk (fun w => rcount_calls l.length w (by omega))
  have hN : countN l.length ≤ 1000000 := by unfold countN; omega
  have HLV := Aside0.mk (show leavesL l = leavesP l (countN l.length) from rfl)
  have HRW := Aside0.mk (show leavesL l :: rowsP (leavesL l) = rowsL l from rfl)
  clear hr hb hg
  have HLR := Aside0.mk (leaves_D l)
  have HLL := Aside0.mk (leavesL_len l)
  generalize rowsL l = RR at HRW ⊢
  generalize hNN : countN l.length = N at HC hN HLV HLL
  have HNN := Aside0.mk hNN
  clear hNN
  go_enter Tryd.func35, Tryd.ntmps35
  go_wp2
  go_loopw [5, 6] (fun v i wr => ∃ k : Nat, k ≤ N ∧ i = .int .i64 (k : Int) ∧ Aside0 (Kd.R KD 35 wr w.heap.size (fun _ => True) v (leavesP l k)) ∧ Aside0 (Below w.heap.size w wr)) (fun _ i _ => N - (intOf i).toNat)
  case atStart => exact ⟨0, Nat.zero_le _, rfl, ⟨Kd.R_nil _ _ _ _ _⟩, ⟨Below.refl _ _⟩⟩
  case round =>
    obtain ⟨k, hk, rfl, HO, HB⟩ := hrel
    go_wp2_with fail
    refine (HC.out _).mono ?_
    rintro e w1 ⟨rfl, hw⟩
    replace hw := hw.symm
    subst hw
    by_cases hlt : k < N
    · have hkN : (k : Int) < (N : Int) := by omega
      have HS := Aside0.mk (leavesP_succ l k)
      have HLP := Aside0.mk (leavesP_len l k)
      have hcl : (chunkL l k).length ≤ 64 := by rw [chunk_len (by rw [HNN.out]; exact hlt)]; omega
      have HCB := Aside0.mk (chunk_bytes HY.out k)
      have HDG := Aside0.mk (shaI_len (0 :: (be8 k ++ chunkL l k)))
      go_wp2_with fail
      refine (rchunk_calls A c l k _ (Kd.C_below HR.out HB.out) hc hl (by rw [HNN.out]; exact hlt)).mono ?_
      rintro e w2 ⟨v, rfl, ho, hb⟩
      have HB2 := Aside0.mk (below_step HB.out hb)
      replace HO := Aside0.mk (Kd.R_below HO.out hb)
      have HRw : Aside0 (∀ A8 c8', v = .slice A8 (chunkL l k).length c8' → Rw w2 A8 (chunkL l k) _ _) := ⟨fun A8 c8' e => Rw.of (e ▸ ho)⟩
      obtain ⟨A2, c2, rfl, hc2, hr2⟩ := Kd.R_reads ho
      clear hb ho hr2 HB
      go_wp2_with fail
      refine (leafB_calls k A2 c2 (chunkL l k) _ (by omega) (HRw.out _ _ rfl).C hc2 (by omega)).mono ?_
      rintro e w3 ⟨v, rfl, ho, hb⟩
      have HB3 := Aside0.mk (below_step HB2.out hb)
      replace HO := Aside0.mk (Kd.R_below HO.out hb)
      have HLB := Aside0.mk (show Sha.bytes (0 :: (be8 k ++ chunkL l k)) from fun x hx => by
        rcases List.mem_cons.1 hx with rfl | hx
        · omega
        · exact bytes_app (be8_bytes k) HCB.out x hx)
      have HLN := Aside0.mk (show (0 :: (be8 k ++ chunkL l k)).length < 100000000 by simp [be8]; omega)
      replace HDG := Aside0.mk (show (leafI k (chunkL l k)).length = 32 from HDG.out)
      have HDE := Aside0.mk (show shaI (0 :: (be8 k ++ chunkL l k)) = leafI k (chunkL l k) from rfl)
      generalize leafI k (chunkL l k) = D at HS HDG HDE
      generalize (0 :: (be8 k ++ chunkL l k) : List Int) = lb at *
      have HRx : Aside0 (∀ A8 c8', v = .slice A8 lb.length c8' → Rw w3 A8 lb _ _) := ⟨fun A8 c8' e => Rw.of (e ▸ ho)⟩
      obtain ⟨A3, c3, rfl, hc3, hr3⟩ := Kd.R_reads ho
      clear hb ho hr3 HB2 HRw hc2
      go_wp2_with fail
      refine (hsum_calls gh A3 c3 lb _ (heap_keep HG.out HB3.out) (HRx.out _ _ rfl).C hc3 HLB.out HLN.out).mono ?_
      rintro e w4 ⟨rfl, hb⟩
      rw [HDE.out]
      have HB4 := Aside0.mk (below_step HB3.out hb)
      replace HO := Aside0.mk (Kd.R_below HO.out hb)
      clear hb HRx HB3
      go_wp2_with (first | ((with_reducible refine gate_dst (N := 25) rfl ?_); refine wpList_lit rfl (.tmp 24) rfl HDG.out rfl ?_) | ((with_reducible refine gate_builtin (b := .append) (xs := #[.tmp 17, .tmp 25]) rfl ?_); at_builtin; refine Kd.R_append KD (w0 := w) w.heap.size rfl (.tmp 17) (.tmp 25) 72 35 (.agg #[.int .u8 0, .int .u8 0, .int .u8 0, .int .u8 0, .int .u8 0, .int .u8 0, .int .u8 0, .int .u8 0, .int .u8 0, .int .u8 0, .int .u8 0, .int .u8 0, .int .u8 0, .int .u8 0, .int .u8 0, .int .u8 0, .int .u8 0, .int .u8 0, .int .u8 0, .int .u8 0, .int .u8 0, .int .u8 0, .int .u8 0, .int .u8 0, .int .u8 0, .int .u8 0, .int .u8 0, .int .u8 0, .int .u8 0, .int .u8 0, .int .u8 0, .int .u8 0]) 32 rfl Tryd.underlying72 infoDG rfl (by decide) (by omega) _ (leavesP l k) D (D.map (Value.int .u8)) (fun _ => True) (fun _ => False) rfl rfl (KD_of HDG.out) (fun _ h => h.elim) (fun _ _ => trivial) HO.out HB4.out HB4.out.size ?aL ?_; (case aL => rw [HLP.out]; omega); intro v2 w6 ho hb2 hg hat; rw [HS.out] at ho; have HO2 := Aside0.mk ho; have HB5 := Aside0.mk hb2; clear ho hb2 hg hat))
      go_roundw
      case rel => exact ⟨k + 1, by omega, by go_num, HO2, HB5⟩
      case measure => simp [intOf]; omega
    · obtain rfl : k = N := by omega
      rw [← HLV.out] at HO
      clear hlt hk HC HNN HLV
      generalize leavesL l = L at HO HRW HLR HLL
      obtain ⟨A5, c5, rfl, hc5, hr5⟩ := Kd.R_reads HO.out
      have HCL := Aside0.mk hr5
      have hL7 : L.length ≤ 1000000 := by rw [HLL.out]; exact hN
      clear hr5 HLL
      go_wp2_with (first | ((with_reducible refine gate_dst (N := 28) rfl ?_); refine Kd.R_lit KR (w0 := w) w.heap.size 72 ?hg (N := 28) ?hd (xs := [L]) (inner := [.slice A5 L.length c5]) (ok := fun _ => True) (okp := fun _ => True) ?hr ?hp (fun _ hk => hk) trivial HB.out HB.out.size (by simp) ?_; (case hd => rfl); (case hg => rfl); (case hr => first | (go_simp; done) | (go_simp; rfl)); (case hp => exact Reps.one ⟨_, rfl, HO.out⟩ (Reps.none _ _)); intro v1 w2 ho hb1 hg hnew; have HQ := Aside0.mk ho; have HBQ := Aside0.mk hb1; have HCQ := Aside0.mk (Kd.C_below HCL.out (grown_below hg)); clear ho hb1 hg hnew))
      clear HO HB HCL
      go_loopw [5, 7] (fun v5 v7 wr => ∃ (done : List (List (List Int))) (cur : List (List Int)) (A5 : Option Addr) (c5 : Nat), Aside0 (done ++ rowsP cur = RR) ∧ v5 = .slice A5 cur.length c5 ∧ cur.length ≤ c5 ∧ done.length + cur.length ≤ 1000002 ∧ Aside0 (isRow cur) ∧ Aside0 (KD.C wr A5 cur.length cur) ∧ Aside0 (Kd.R KR 72 wr w.heap.size (fun _ => True) v7 done) ∧ Aside0 (Below w.heap.size w wr)) (fun v5 _ _ => slLen v5)
      case atStart => exact ⟨[L], L, A5, c5, ⟨HRW.out⟩, rfl, hc5, by simp; omega, HLR, HCQ, HQ, HBQ⟩
      case round =>
        clear HCQ HQ HBQ hc5 hL7 HLR HRW
        obtain ⟨wo, rfl⟩ : ∃ wo, wo = wr := ⟨_, rfl⟩
        obtain ⟨done, cur, A5, c5, HRR, rfl, hc5, hdl, HIR, HCU, HDN, HBo⟩ := hrel
        by_cases h1 : 1 < cur.length
        · have h1i : (cur.length : Int) > 1 := by omega
          have HUL := Aside0.mk (upL_len cur)
          replace HRR := Aside0.mk (show (done ++ [upL cur]) ++ rowsP (upL cur) = RR by have e : rowsP cur = _ := rowsP_up (by omega); rw [← HRR.out, e, List.append_assoc]; rfl)
          have HUR := Aside0.mk (upL_row HIR.out)
          have HU2 := Aside0.mk (fun k h => up_two cur k h)
          have HU1 := Aside0.mk (fun k h => up_one cur k h)
          generalize upL cur = U at *
          have hn63 : cur.length ≤ 1000002 := by omega
          go_wp2
          go_loopw [8, 9] (fun v i wz => ∃ k q : Nat, Aside0 (q = 2 * k) ∧ 2 * k ≤ cur.length + 1 ∧ i = .int .i64 (q : Int) ∧ Aside0 (Kd.R KD 35 wz wo.heap.size (fun _ => True) v (U.take k)) ∧ Aside0 (Below wo.heap.size wo wz)) (fun _ i _ => cur.length + 2 - (intOf i).toNat)
          case atStart => exact ⟨0, 0, ⟨rfl⟩, by omega, rfl, ⟨Kd.R_nil _ _ _ _ _⟩, ⟨Below.refl _ _⟩⟩
          case round =>
            obtain ⟨wz, rfl⟩ : ∃ wz, wz = wr := ⟨_, rfl⟩
            obtain ⟨k, q, HQ, hk, rfl, HO, HB⟩ := hrel
            by_cases hlt : q < cur.length
            · have hq6 : q ≤ 1000002 := by omega
              have HLP := Aside0.mk (show (U.take k).length ≤ 1000002 by rw [List.length_take]; have := HUL.out; omega)
              obtain ⟨q1, hq1e⟩ : ∃ q1, q1 = q + 1 := ⟨_, rfl⟩
              have HQ1 := Aside0.mk hq1e
              by_cases hp : q + 1 < cur.length
              · have hpi : (q : Int) + 1 < (cur.length : Int) := by omega
                have hq1 : q1 < cur.length := by omega
                have HS := Aside0.mk (show U.take k ++ [pairI (cur.getD q []) (cur.getD q1 [])] = U.take (k + 1) by have h := HU2.out k (by have := HQ.out; omega); rw [hq1e, HQ.out]; exact h)
                have HW1 := Aside0.mk (show IntKind.i64.wrap ((q : Int) + 1) = (q1 : Int) by simp [IntKind.wrap, IntKind.bits, IntKind.signed]; omega)
                have HA := Aside0.mk (isRow_getD HIR.out q hlt)
                have HBB := Aside0.mk (isRow_getD HIR.out q1 hq1)
                obtain ⟨ad, rfl, _, _⟩ := row_ld HCU.out q hlt
                clear hq1e
                have hS0 : Below wo.heap.size wo wz.drew := below_drew1 HB.out
                have HOd := Aside0.mk (Kd.R_drew HO.out)
                generalize hea : cur.getD q [] = a at *
                generalize heb : cur.getD q1 [] = b at *
                have HX0 := Aside0.mk (show ∀ w' : World, Below wo.heap.size wo w' → (Instr.loadAt 35 (.pointer (some (ad.add (q * 32))))).run Tryd.prog w' = .ok (vd a) w' from fun w' h => row_load' HCU.out h q hlt hea)
                have HX1 := Aside0.mk (show ∀ w' : World, Below wo.heap.size wo w' → (Instr.loadAt 35 (.pointer (some (ad.add (q1 * 32))))).run Tryd.prog w' = .ok (vd b) w' from fun w' h => row_load' HCU.out h q1 hq1 heb)
                clear hea heb
                obtain ⟨X, hX⟩ : ∃ X, X = 1 :: (a ++ b) := ⟨_, rfl⟩
                have HXE := Aside0.mk hX
                have HXB := Aside0.mk (show Sha.bytes X from fun x hx => by
                  rw [HXE.out] at hx
                  rcases List.mem_cons.1 hx with rfl | hx
                  · omega
                  · exact bytes_app HA.out.2 HBB.out.2 x hx)
                have HXN := Aside0.mk (show X.length < 100000000 by rw [HXE.out]; simp [HA.out.1, HBB.out.1])
                have HPE := Aside0.mk (show shaI X = pairI a b by rw [HXE.out]; rfl)
                clear hX
                have HDG := Aside0.mk (show (pairI a b).length = 32 from shaI_len _)
                generalize pairI a b = D at HS HPE HDG
                go_upto_region 13 with (fail)
                refine start_ (n := 16) (S := fun w' => Below wo.heap.size wo w') (ds := []) #[false, false, false, false, false, false, false, false, false, false, false, false, false, false, false, false] (by kernel_rfl) rfl rfl (by exact hS0) (fun hHeld => ?_)
                refine with_tabW rw_tab13 rw_bits13 (fun HT_ HW_ => ?_)
                refine pure_ (i := 0) (N := some 43) (v := ?_) (a' := ?_) #[true, false, false, false, false, false, false, false, false, false, false, false, false, false, false, false] rfl rfl (any_of HT_.out (by kernel_rfl)) (fun _ _ _ h => h) (Or.inl ⟨by rfl, ?_⟩) ?_ ?_
                rotate_left
                · intro w'
                  go_simp
                  with_reducible rfl
                rotate_left
                · simp only [Act.put, List.setIfInBounds_toArray, List.set_cons_zero, List.set_cons_succ, i64_w, i32_w]
                  rfl
                refine pure_ (i := 1) (N := some 44) (v := ?_) (a' := ?_) #[true, true, false, false, false, false, false, false, false, false, false, false, false, false, false, false] rfl rfl (any_of HT_.out (by kernel_rfl)) (fun _ _ _ h => h) (Or.inl ⟨by rfl, ?_⟩) ?_ ?_
                rotate_left
                · intro w'
                  go_simp
                  with_reducible rfl
                rotate_left
                · simp only [Act.put, List.setIfInBounds_toArray, List.set_cons_zero, List.set_cons_succ, i64_w, i32_w]
                  rfl
                refine pure_ (i := 2) (N := some 45) (v := ?_) (a' := ?_) #[true, true, true, false, false, false, false, false, false, false, false, false, false, false, false, false] rfl rfl (any_of HT_.out (by kernel_rfl)) (fun _ _ _ h => h) (Or.inl ⟨by rfl, ?_⟩) ?_ ?_
                rotate_left
                · intro w'
                  go_simp
                  with_reducible rfl
                rotate_left
                · simp only [Act.put, List.setIfInBounds_toArray, List.set_cons_zero, List.set_cons_succ, i64_w, i32_w]
                  rfl
                refine pure_ (i := 3) (N := some 46) (v := ?_) (a' := ?_) #[true, true, true, true, false, false, false, false, false, false, false, false, false, false, false, false] rfl rfl (any_of HT_.out (by kernel_rfl)) (fun _ _ _ h => h) (Or.inl ⟨by rfl, ?_⟩) ?_ ?_
                rotate_left
                · intro w'
                  go_simp
                  with_reducible rfl
                rotate_left
                · simp only [Act.put, List.setIfInBounds_toArray, List.set_cons_zero, List.set_cons_succ, i64_w, i32_w]
                  rfl
                refine pure_ (i := 4) (N := some 47) (v := ?_) (a' := ?_) #[true, true, true, true, true, false, false, false, false, false, false, false, false, false, false, false] rfl rfl (any_of HT_.out (by kernel_rfl)) (fun _ _ _ h => h) (Or.inl ⟨by rfl, ?_⟩) ?_ ?_
                rotate_left
                · intro w'
                  go_simp
                  with_reducible rfl
                rotate_left
                · simp only [Act.put, List.setIfInBounds_toArray, List.set_cons_zero, List.set_cons_succ, i64_w, i32_w]
                  rfl
                refine pure_ (i := 6) (N := some 49) (v := ?_) (a' := ?_) #[true, true, true, true, true, false, true, false, false, false, false, false, false, false, false, false] rfl rfl (any_of HT_.out (by kernel_rfl)) (fun _ _ _ h => h) (Or.inl ⟨by rfl, ?_⟩) ?_ ?_
                rotate_left
                · intro w'
                  go_simp
                  with_reducible rfl
                rotate_left
                · simp only [Act.put, List.setIfInBounds_toArray, List.set_cons_zero, List.set_cons_succ, i64_w, i32_w]
                  rfl
                refine pure_ (i := 7) (N := some 50) (v := ?_) (a' := ?_) #[true, true, true, true, true, false, true, true, false, false, false, false, false, false, false, false] rfl rfl (any_of HT_.out (by kernel_rfl)) (fun _ _ _ h => h) (Or.inl ⟨by rfl, ?_⟩) ?_ ?_
                rotate_left
                · intro w'
                  go_simp
                  with_reducible rfl
                rotate_left
                · simp only [Act.put, List.setIfInBounds_toArray, List.set_cons_zero, List.set_cons_succ, i64_w, i32_w]
                  rfl
                refine pure_ (i := 8) (N := some 51) (v := ?_) (a' := ?_) #[true, true, true, true, true, false, true, true, true, false, false, false, false, false, false, false] rfl rfl (any_of HT_.out (by kernel_rfl)) (fun _ _ _ h => h) (Or.inl ⟨by rfl, ?_⟩) ?_ ?_
                rotate_left
                · intro w'
                  go_simp
                  rw [HW1.out]
                rotate_left
                · simp only [Act.put, List.setIfInBounds_toArray, List.set_cons_zero, List.set_cons_succ, i64_w, i32_w]
                  rfl
                refine pure_ (i := 9) (N := some 52) (v := ?_) (a' := ?_) #[true, true, true, true, true, false, true, true, true, true, false, false, false, false, false, false] rfl rfl (any_of HT_.out (by kernel_rfl)) (fun _ _ _ h => h) (Or.inl ⟨by rfl, ?_⟩) ?_ ?_
                rotate_left
                · intro w'
                  go_simp
                  with_reducible rfl
                rotate_left
                · simp only [Act.put, List.setIfInBounds_toArray, List.set_cons_zero, List.set_cons_succ, i64_w, i32_w]
                  rfl
                refine take_ (i := 5) (N := some 48) (v := ?_) (a' := ?_) #[true, true, true, true, true, true, true, true, true, true, false, false, false, false, false, false] rfl rfl (take_ofW HT_.out HW_.out (by kernel_rfl)) (fun _ _ _ h => h) (Or.inl ⟨by rfl, ?_⟩) hHeld ?_ ?_
                rotate_left
                · intro w' hSt
                  refine (exec_load (p := .pointer (some (ad.add (q * 32)))) rfl rfl (HX0.out w' hSt)).trans ?_
                  with_reducible rfl
                rotate_left
                · simp only [Act.put, List.setIfInBounds_toArray, List.set_cons_zero, List.set_cons_succ, i64_w, i32_w]
                  rfl
                refine take_ (i := 10) (N := some 53) (v := ?_) (a' := ?_) #[true, true, true, true, true, true, true, true, true, true, true, false, false, false, false, false] rfl rfl (take_ofW HT_.out HW_.out (by kernel_rfl)) (fun _ _ _ h => h) (Or.inl ⟨by rfl, ?_⟩) hHeld ?_ ?_
                rotate_left
                · intro w' hSt
                  refine (exec_load (p := .pointer (some (ad.add (q1 * 32)))) rfl rfl (HX1.out w' hSt)).trans ?_
                  with_reducible rfl
                rotate_left
                · simp only [Act.put, List.setIfInBounds_toArray, List.set_cons_zero, List.set_cons_succ, i64_w, i32_w]
                  rfl
                refine one_ (i := 11) (N := some 54) #[true, true, true, true, true, true, true, true, true, true, true, true, false, false, false, false] rfl rfl (one_of HT_.out (by kernel_rfl)) (by decide) (fun K hK => ?_)
                refine goes_ Tryd.func54 (by kernel_rfl) rfl #[vd a, vd b] (by rfl) rfl rfl (by (try simp only [List.map_toArray, List.map_cons, List.map_nil]); first | done | rfl) ?_
                refine (nodeB' a b X _ HA.out.1 HBB.out.1 HXE.out).mono ?_
                rintro e w3 ⟨A7, c7, rfl, hc7, hC7, hb⟩
                refine ⟨_, rfl, ?_⟩
                have hS1 := below_step hHeld hb
                have HO3 := Aside0.mk (Kd.R_below HOd.out hb)
                have HC7 := Aside0.mk hC7
                clear hb hC7
                refine hK.out _ _ (by exact hS1) (fun hHeld => ?_)
                clear hK K
                refine norm_ (a' := ?_) ?_ ?_
                rotate_left
                · first
                  | (show Act.put _ (some 54) _ = _; simp only [Act.put, List.setIfInBounds_toArray, List.set_cons_zero, List.set_cons_succ, i64_w, i32_w]; rfl)
                  | rfl
                refine one_ (i := 12) (N := some 55) #[true, true, true, true, true, true, true, true, true, true, true, true, true, false, false, false] rfl rfl (one_of HT_.out (by kernel_rfl)) (by decide) (fun K hK => ?_)
                refine goes_ Tryd.func33 (by kernel_rfl) rfl #[.pointer (some ⟨gh, 0, none⟩), .slice A7 X.length c7] (by rfl) rfl rfl (by (try simp only [List.map_toArray, List.map_cons, List.map_nil]); first | done | rfl) ?_
                refine (hsum_calls gh A7 c7 X _ (heap_keep HG.out (below_step HBo.out hHeld)) HC7.out hc7 HXB.out HXN.out).mono ?_
                rintro e w4 ⟨rfl, hb⟩
                refine ⟨_, rfl, ?_⟩
                rw [HPE.out]
                have hS1 := below_step hHeld hb
                have HO4 := Aside0.mk (Kd.R_below HO3.out hb)
                clear hb
                refine hK.out _ _ (by exact hS1) (fun hHeld => ?_)
                clear hK K
                refine norm_ (a' := ?_) ?_ ?_
                rotate_left
                · first
                  | (show Act.put _ (some 55) _ = _; simp only [Act.put, List.setIfInBounds_toArray, List.set_cons_zero, List.set_cons_succ, i64_w, i32_w]; rfl)
                  | rfl
                refine one_ (i := 13) (N := some 56) #[true, true, true, true, true, true, true, true, true, true, true, true, true, true, false, false] rfl rfl (one_of HT_.out (by kernel_rfl)) (by decide) (fun K hK => ?_)
                refine lit_step (by rfl) (.tmp 55) rfl HDG.out rfl ?_
                have HHA := Aside0.mk hHeld
                have hS1 := hHeld.alloc hHeld.size (.cells (cb D) 35)
                refine hK.out _ _ (by exact hS1) (fun hHeld => ?_)
                clear hK K
                refine norm_ (a' := ?_) ?_ ?_
                rotate_left
                · first
                  | (show Act.put _ (some 56) _ = _; simp only [Act.put, List.setIfInBounds_toArray, List.set_cons_zero, List.set_cons_succ, i64_w, i32_w]; rfl)
                  | rfl
                refine one_ (i := 14) (N := some 57) #[true, true, true, true, true, true, true, true, true, true, true, true, true, true, true, false] rfl rfl (one_of HT_.out (by kernel_rfl)) (by decide) (fun K hK => ?_)
                refine Kd.R_append_step KD (w0 := wo) wo.heap.size (by rfl) (.tmp 43) (.tmp 56) 72 35 (.agg #[.int .u8 0, .int .u8 0, .int .u8 0, .int .u8 0, .int .u8 0, .int .u8 0, .int .u8 0, .int .u8 0, .int .u8 0, .int .u8 0, .int .u8 0, .int .u8 0, .int .u8 0, .int .u8 0, .int .u8 0, .int .u8 0, .int .u8 0, .int .u8 0, .int .u8 0, .int .u8 0, .int .u8 0, .int .u8 0, .int .u8 0, .int .u8 0, .int .u8 0, .int .u8 0, .int .u8 0, .int .u8 0, .int .u8 0, .int .u8 0, .int .u8 0, .int .u8 0]) 32 rfl Tryd.underlying72 infoDG rfl (by decide) (by omega) _ (U.take k) D (D.map (Value.int .u8)) (fun _ => True) (fun _ => False) rfl rfl (KD_of HDG.out) (fun _ h => h.elim) (fun _ _ => trivial) HO4.out HHA.out HHA.out.size ?aL ?_
                case aL => have := HLP.out; omega
                intro v2 w6 ho hb2 _ _
                rw [HS.out] at ho
                have HO2 := Aside0.mk ho
                clear ho
                have hS1 := hb2
                clear hb2
                refine hK.out _ _ (by exact hS1) (fun hHeld => ?_)
                clear hK K
                refine norm_ (a' := ?_) ?_ ?_
                rotate_left
                · first
                  | (show Act.put _ (some 57) _ = _; simp only [Act.put, List.setIfInBounds_toArray, List.set_cons_zero, List.set_cons_succ, i64_w, i32_w]; rfl)
                  | rfl
                refine pure_ (i := 15) (N := some 8) (v := ?_) (a' := ?_) #[true, true, true, true, true, true, true, true, true, true, true, true, true, true, true, true] rfl rfl (any_of HT_.out (by kernel_rfl)) (fun _ _ _ h => h) (Or.inl ⟨by rfl, ?_⟩) ?_ ?_
                rotate_left
                · intro w'
                  go_simp
                  with_reducible rfl
                rotate_left
                · simp only [Act.put, List.setIfInBounds_toArray, List.set_cons_zero, List.set_cons_succ, i64_w, i32_w]
                  rfl
                refine done_ (done_of HT_.out (by kernel_rfl)) ?_
                have HB4 := Aside0.mk hHeld
                clear hS0 hHeld HT_ HW_
                go_wp2
                go_roundw
                case rel => exact ⟨k + 1, q + 2, ⟨by have := HQ.out; omega⟩, by have := HQ.out; omega, by go_num, HO2, HB4⟩
                case measure => simp [intOf]; omega
              · have hpi : ¬ (q : Int) + 1 < (cur.length : Int) := by omega
                have HS := Aside0.mk (show U.take k ++ [cur.getD q []] = U.take (k + 1) by have h := HU1.out k (by have := HQ.out; omega); rw [HQ.out]; exact h)
                have HDG := Aside0.mk (isRow_getD HIR.out q hlt).1
                obtain ⟨ad, rfl, _, _⟩ := row_ld HCU.out q hlt
                generalize hD : cur.getD q [] = D at HS HDG
                have HX := Aside0.mk (row_load' HCU.out HB.out q hlt hD)
                clear hD
                go_wp2_with (first | ((with_reducible refine gate_dst (N := 62) rfl ?_); refine wpList_load_at rfl (ty := 35) (x := .tmp 61) (p := .pointer (some (ad.add (q * 32)))) (v := vd D) rfl rfl HX.out ?_) | ((with_reducible refine gate_dst (N := 63) rfl ?_); refine wpList_lit rfl (.tmp 62) rfl HDG.out rfl ?_) | ((with_reducible refine gate_builtin (b := .append) (xs := #[.tmp 58, .tmp 63]) rfl ?_); at_builtin; refine Kd.R_append KD (w0 := wo) wo.heap.size rfl (.tmp 58) (.tmp 63) 72 35 (.agg #[.int .u8 0, .int .u8 0, .int .u8 0, .int .u8 0, .int .u8 0, .int .u8 0, .int .u8 0, .int .u8 0, .int .u8 0, .int .u8 0, .int .u8 0, .int .u8 0, .int .u8 0, .int .u8 0, .int .u8 0, .int .u8 0, .int .u8 0, .int .u8 0, .int .u8 0, .int .u8 0, .int .u8 0, .int .u8 0, .int .u8 0, .int .u8 0, .int .u8 0, .int .u8 0, .int .u8 0, .int .u8 0, .int .u8 0, .int .u8 0, .int .u8 0, .int .u8 0]) 32 rfl Tryd.underlying72 infoDG rfl (by decide) (by omega) _ (U.take k) D (D.map (Value.int .u8)) (fun _ => True) (fun _ => False) rfl rfl (KD_of HDG.out) (fun _ h => h.elim) (fun _ _ => trivial) HO.out HB.out HB.out.size ?aL ?_; (case aL => have := HLP.out; omega); intro v2 w6 ho hb2 hg hat; rw [HS.out] at ho; have HO2 := Aside0.mk ho; have HB2 := Aside0.mk hb2; clear ho hb2 hg hat))
                go_roundw
                case rel => exact ⟨k + 1, q + 2, ⟨by have := HQ.out; omega⟩, by have := HQ.out; omega, by go_num, HO2, HB2⟩
                case measure => simp [intOf]; omega
            · have HT := Aside0.mk (show U.take k = U from List.take_of_length_le (by have := HUL.out; have := HQ.out; omega))
              rw [HT.out] at HO
              have hUd : done.length + 1 + U.length ≤ 1000002 := by have := HUL.out; omega
              have hUl : U.length < cur.length := by have := HUL.out; omega
              have hd9 : done.length ≤ 1000002 := by omega
              clear HUL HT HU1 HU2 HQ HIR HCU
              obtain ⟨A8, c8', rfl, hc8, hr8⟩ := Kd.R_reads HO.out
              have HBZ := Aside0.mk (below_step HBo.out HB.out)
              have HDZ := Aside0.mk (Kd.R_below HDN.out HB.out)
              have HAP := Aside0.mk (Kd.R_apartR (Kd.R_lower HO.out HBo.out.size) HDZ.out (by decide))
              clear hr8
              go_wp2_with (first | ((with_reducible refine gate_builtin (b := .append) (xs := #[.tmp 65, .tmp 67]) rfl ?_); at_builtin; refine Kd.R_append KR (w0 := w) w.heap.size rfl (.tmp 65) (.tmp 67) 69 72 (.slice none 0 0) 24 rfl Tryd.underlying69 infoRow rfl (by decide) (by omega) _ done U [.slice A8 U.length c8'] (fun _ => True) _ rfl rfl ⟨_, rfl, HAP.out⟩ (fun _ h => ⟨trivial, h.2⟩) (fun _ _ => trivial) HDZ.out HBZ.out HBZ.out.size ?aL ?_; (case aL => omega); intro v2 w6 ho hb2 hg hat; have HO2 := Aside0.mk ho; have HB2 := Aside0.mk hb2; have HC2 := Aside0.mk (RC (Kd.R_over HO.out HDZ.out (by decide) hg)); clear ho hb2 hg hat))
              go_roundw
              case rel => exact ⟨done ++ [U], U, A8, c8', HRR, rfl, hc8, by simp; omega, HUR, HC2, HO2, HB2⟩
              case measure => simp [slLen]; omega
        · have h1i : ¬ (cur.length : Int) > 1 := by omega
          have HE := Aside0.mk (show done = RR by rw [← HRR.out, rowsP_end (by omega), List.append_nil])
          go_wp2
          go_ret
          exact ⟨_, rfl, by rw [← HE.out]; exact HDN.out, HBo.out⟩
end Go.Proofs.YtlojemnmdakfiaaDoor.Ref
end
section
namespace Go.Proofs.YtlojemnmdakfiaaDoor.Ref
open Go.RowKit Go.Proofs.YtlojemnmdakfiaaDoorW.PrintWords Go.Proofs.YtlojemnmdakfiaaDoorW.PrintLast Go.Proofs.YtlojemnmdakfiaaDoorW.PrintMore
set_option linter.unusedVariables false
set_option linter.unusedSimpArgs false
open Go.Proofs.YtlojemnmdakfiaaDoor.Sha
theorem rowR_at {w : World} {A : Option Addr} {n : Nat} {xs : List (List (List Int))} (h : Kd.C KR w A n xs) (k : Nat) (hk : k < n) : ∃ ad A0 c0, A = some ad ∧ w.cell? (ad.add k) = some (.slice A0 (xs.getD k []).length c0) ∧ (xs.getD k []).length ≤ c0 ∧ KD.C w A0 (xs.getD k []).length (xs.getD k []) := by
  obtain ⟨ad, c, e, _, hK, hc0⟩ := Kd.C_get h ([] : List (List Int)) (k : Int) (by omega) (by omega)
  have hc : ∀ j u, c[j]? = some u → w.cell? (ad.add (k * 1 + j)) = some u := hc0
  obtain ⟨A0, c0, rfl, l0, g0⟩ := hK
  simp only [Int.toNat_natCast] at l0 g0 hc
  exact ⟨ad, A0, c0, e, by have hq := hc 0 _ rfl; rwa [Nat.mul_one, Nat.add_zero] at hq, l0, g0⟩
theorem rows_last (n : Nat) : ∀ rows : List (List Int), rows.length ≤ n → (rows :: rowsP rows).getD (rowsP rows).length [] = climb rows
  | rows, h => by
    by_cases h1 : rows.length ≤ 1
    · rw [rowsP_end h1, climb_end h1]
      rfl
    · match n with
      | 0 => omega
      | n + 1 =>
        have hl := upL_len rows
        have ih := rows_last n (upL rows) (by omega)
        have e : rowsP rows = _ := rowsP_up h1
        rw [e, climb_up h1, ← ih]
        simp
theorem climb_row {rows : List (List Int)} (n : Nat) (hn : rows.length ≤ n) (h : isRow rows) (h1 : 1 ≤ rows.length) : isRow (climb rows) ∧ 1 ≤ (climb rows).length ∧ (climb rows).length ≤ 1 := by
  induction n generalizing rows with
  | zero => omega
  | succ n ih =>
    by_cases h2 : rows.length ≤ 1
    · rw [climb_end h2]
      exact ⟨h, h1, h2⟩
    · rw [climb_up h2]
      have hl := upL_len rows
      exact ih (by omega) (upL_row h) (by omega)
set_option maxHeartbeats 1600000 in
set_option maxRecDepth 100000 in
theorem rroot_calls (gh : Nat) (A : Option Addr) (c : Nat) (l : List Int) (w : World) (hg : w.heap[gh]? = some (.cells hk 64 (0, 0))) (hr : B.C w A l.length l) (hc : l.length ≤ c) (hb : Sha.bytes l) (hl : l.length < 10000000) :
    Calls Tryd.prog 19 #[.pointer (some ⟨gh, 0, none⟩), .slice A l.length c] w fun e w' => e = .returned (vd (rootOf l)) ∧ Below w.heap.size w w' := by
  have HR := Aside0.mk hr
  have HY := Aside0.mk hb
  have HG := Aside0.mk hg
  have HLL := Aside0.mk (show 1 ≤ (leavesL l).length by rw [leavesL_len]; exact count_pos _)
  have HCR := Aside0.mk (climb_row (rows := leavesL l) _ (Nat.le_refl _) (leaves_D l) HLL.out)
  have HLA := Aside0.mk (rows_last _ (leavesL l) (Nat.le_refl _))
  have HRO := Aside0.mk (show rootOf l = shaI (2 :: (be8 l.length ++ (climb (leavesL l)).getD 0 [])) from rfl)
  have HLR := Aside0.mk (show (rowsL l).length = (rowsP (leavesL l)).length + 1 from rfl)
  have HLQ := Aside0.mk (show rowsL l = leavesL l :: rowsP (leavesL l) from rfl)
  rw [← HLQ.out] at HLA
  generalize rootOf l = RT at HRO ⊢
  clear hr hb hg HLL HLQ
  go_enter Tryd.func19, Tryd.ntmps19
  go_upto_region 1 with (fail)
  obtain ⟨w1, hw1, HB1, HD, HZ1⟩ := dg_start w
  rw [hw1]
  clear hw1
  go_wp2_with fail
  refine (rows_calls gh A c l _ (heap_keep HG.out HB1.out) (Kd.C_below HR.out HB1.out) hc HY.out hl).mono ?_
  rintro e w2 ⟨v, rfl, ho, hb⟩
  obtain ⟨A3, c3, rfl, hc3, hr3⟩ := Kd.R_reads ho
  have HB2 := Aside0.mk (below_step HB1.out hb)
  have HD2 := Aside0.mk (heap_keep HD.out hb)
  obtain ⟨q, hq⟩ : ∃ q, q = (rowsP (leavesL l)).length := ⟨_, rfl⟩
  rw [← hq] at HLA HLR
  have hlr : (rowsL l).length = q + 1 := HLR.out
  obtain ⟨ad, A0, c0, rfl, hx0, hc0, hr0⟩ := rowR_at hr3 q (by omega)
  rw [HLA.out] at hx0 hc0 hr0
  have hn1 : (climb (leavesL l)).length = 1 := by have := HCR.out; omega
  rw [hn1] at hx0 hc0 hr0
  obtain ⟨ad0, rfl, _, _⟩ := row_ld hr0 0 (by omega)
  have HX := Aside0.mk (show ∀ w' : World, Below w2.heap.size w2 w' → ∀ D, (climb (leavesL l)).getD 0 [] = D → (Instr.loadAt 35 (.pointer (some ad0))).run Tryd.prog w' = .ok (vd D) w' from fun w' h D hD => by have := row_load' hr0 h 0 (by omega) hD; rwa [Nat.zero_mul, Addr.add_zero'] at this)
  have HTD := Aside0.mk (isRow_getD HCR.out.1 0 (by omega))
  generalize (climb (leavesL l)).getD 0 [] = D at HX HTD HRO
  replace HX := Aside0.mk (HX.out w2 (Below.refl _ _) D rfl)
  have hq9 : q ≤ 9223372036854775806 := by have := ho; have := hr3.2.1; omega
  generalize rowsL l = RL at *
  clear ho hb hr3 hr0 HB1 HD HLA hn1 HCR hq HLR
  have hqi : (RL.length : Int) - 1 = (q : Int) := by omega
  have hql : q < RL.length := by omega
  go_wp2_with (first | ((with_reducible refine gate_dst (N := 19) rfl ?_); refine wpList_load_at rfl (ty := 35) (x := .tmp 18) (p := .pointer (some ad0)) (v := vd D) rfl rfl HX.out ?_))
  refine (rootB_calls l.length D _ (by omega) HTD.out.1).mono ?_
  rintro e w3 ⟨A7, c7, rfl, hc7, hC7, hb⟩
  have HB3 := Aside0.mk (below_step HB2.out hb)
  have HD3 := Aside0.mk (heap_keep HD2.out hb)
  have HXB := Aside0.mk (show Sha.bytes (2 :: (be8 l.length ++ D)) from fun x hx => by
    rcases List.mem_cons.1 hx with rfl | hx
    · omega
    · exact bytes_app (be8_bytes _) HTD.out.2 x hx)
  have HXN := Aside0.mk (show (2 :: (be8 l.length ++ D)).length < 100000000 by simp [HTD.out.1, be8])
  generalize (2 :: (be8 l.length ++ D) : List Int) = X at *
  clear hb hx0
  go_wp2_with fail
  refine (hsum_calls gh A7 c7 X _ (heap_keep HG.out HB3.out) hC7 hc7 HXB.out HXN.out).mono ?_
  rintro e w4 ⟨rfl, hb⟩
  rw [← HRO.out]
  have HB4 := Aside0.mk (below_step HB3.out hb)
  have HD4 := Aside0.mk (heap_keep HD3.out hb)
  have HSL := Aside0.mk (show RT.length = 32 by rw [HRO.out]; exact shaI_len _)
  clear hb
  go_wp2_with (first | (refine wpList_store_row rfl 35 (.tmp 4) (.tmp 21) rfl w.heap.size (cb RT) rfl rfl 35 _ HD4.out (infoDg _ HSL.out) (by rw [cb_size, cb_size, HSL.out]; simp) (cb_one _) ?_))
  (try simp only [Exit.inBlock, Exit.then])
  exact dg_ret rfl rfl HSL.out (setRow_heap _ _ _ _ _ _ HD4.out) rfl ⟨rfl, below_setRow HB4.out (Nat.le_refl _) _⟩
end Go.Proofs.YtlojemnmdakfiaaDoor.Ref
end
section
namespace Go.Proofs.YtlojemnmdakfiaaDoor.Ac
open Go.RowKit Go.Proofs.YtlojemnmdakfiaaDoorW.PrintWords Go.Proofs.YtlojemnmdakfiaaDoorW.PrintLast Go.Proofs.YtlojemnmdakfiaaDoorW.PrintMore
set_option linter.unusedVariables false
set_option linter.unusedSimpArgs false
open Go.Proofs.YtlojemnmdakfiaaDoor.Prog6 (Ins KP mayP szOk progB)
open Go.Proofs.YtlojemnmdakfiaaDoor.Tr
open Go.Proofs.YtlojemnmdakfiaaDoor.Hand
open Go.Proofs.YtlojemnmdakfiaaDoor.Ref (hk hsum_calls rroot_calls C_cb32)
set_option maxHeartbeats 6400000 in
set_option maxRecDepth 100000 in
theorem rabytes_calls (gh : Nat) (A : Option Addr) (c : Nat) (p : List Ins) (A2 : Option Addr) (c2 : Nat) (t : List Fl) (f : Nat) (w : World) (hgh : w.heap[gh]? = some (.cells hk 64 (0, 0))) (h : Arg w A c p A2 c2 t) (hm : mayA p t f = true) :
    Calls Tryd.prog 15 #[.pointer (some ⟨gh, 0, none⟩), .agg (cA A p.length c A2 t.length c2 f)] w fun e w' => ∃ v, e = .returned v ∧ Kd.R B 5 w' w.heap.size (fun _ => True) v (actB p t f) ∧ Below w.heap.size w w' := by
  have HA := Aside0.mk h
  have HGH := Aside0.mk hgh
  have hm' := hm
  unfold mayA at hm'
  simp only [Bool.and_eq_true, decide_eq_true_eq] at hm'
  obtain ⟨⟨⟨hmp, hmt⟩, _⟩, hf⟩ := hm'
  have HMP := Aside0.mk hmp
  have HMT := Aside0.mk (mayT_ok hmt)
  have HPL := Aside0.mk (progB_len hmp)
  have HSL := Aside0.mk (root_len (treeB t))
  have HTL := Aside0.mk (tree_len (mayT_ok hmt).1 (mayT_ok hmt).2)
  have HTB := Aside0.mk (tree_bytes (mayT_ok hmt).1 (mayT_ok hmt).2 h.bt)
  have HE := Aside0.mk (show actB p t f = ((formL (progB p).length ++ progB p) ++ Sha.rootOf (treeB t)) ++ formL f from rfl)
  have hwf : IntKind.u64.wrap (f : Int) = (f : Int) := by simp [IntKind.wrap, IntKind.bits, IntKind.signed]; omega
  clear h hm hmp hmt hgh
  generalize hX : actB p t f = X at HE ⊢
  clear hX
  obtain ⟨g, hg⟩ : ∃ g, w.heap.size = g := ⟨_, rfl⟩
  obtain ⟨w1, hw1, hw1h⟩ : ∃ w1, w.alloc (.cells (cA A p.length c A2 t.length c2 f) 26) = w1 ∧ w1.heap[w.heap.size]? = some (.cells (cA A p.length c A2 t.length c2 f) 26 (0, 0)) := ⟨_, rfl, Sha.heap_new _ _⟩
  have hbb : Below w.heap.size w w1 := by rw [← hw1]; exact (Below.refl _ _).alloc (Nat.le_refl _) _
  rw [hg] at hw1h
  have HX := Aside0.mk (show BoxA w1 g A p.length c A2 t.length c2 f from hw1h)
  have HB1 := Aside0.mk hbb
  have HA1 := Aside0.mk (HA.out.below hbb)
  obtain ⟨o0, o1, o2⟩ := HX.out.cu
  have HW := Aside0.mk hw1
  have HG := Aside0.mk hg
  clear hw1 hw1h hbb hg
  go_enter Tryd.func15, Tryd.ntmps15
  go_upto_region 1 with (fail)
  rw [HW.out, HG.out]
  go_wp2_with fail
  refine (Prog6.rpbytes_calls A c p _ HA1.out.hp HA1.out.lp HMP.out).mono ?_
  rintro e w2 ⟨v2, rfl, ho, hb⟩
  obtain ⟨A3, c3, rfl, hc3, hr3⟩ := Kd.R_reads ho
  have HC2 := Aside0.mk hr3
  have HB2 := Aside0.mk (below_step HB1.out hb)
  replace HX := Aside0.mk (HX.out.below hb)
  clear ho hb hr3 o0 o1 o2 HB1 HW HG HA1
  generalize progB p = P at HPL HE HC2 hc3
  have hws : IntKind.u64.wrap (P.length : Int) = (P.length : Int) := by have := HPL.out; simp [IntKind.wrap, IntKind.bits, IntKind.signed]; omega
  go_wp2_with fail
  refine (rform_calls P.length _ (by have := HPL.out; omega)).mono ?_
  rintro e w3 ⟨v3, rfl, ho, hb⟩
  have HO3 := Aside0.mk (Kd.R_lower ho HB2.out.size)
  have HF3 := Aside0.mk (formL_len P.length (by have := HPL.out; omega))
  have HB3 := Aside0.mk (below_step HB2.out hb)
  replace HX := Aside0.mk (HX.out.below hb)
  replace HC2 := Aside0.mk (Kd.C_below HC2.out hb)
  clear ho hb hws HB2
  have HG3 := Aside0.mk (Sha.heap_keep HGH.out HB3.out)
  have HA3 := Aside0.mk (HA.out.below HB3.out)
  go_upto_region 3 with (((with_reducible refine gate_builtin (b := .append) (xs := #[.tmp 14, .tmp 15]) rfl ?_); at_builtin; refine Kd.R_append_rows B (w0 := w) w.heap.size rfl (.tmp 14) (.tmp 15) 30 5 (.int .u8 0) 1 rfl Tryd.underlying30 info5 rfl (by decide) (by omega) _ (formL P.length) (P) _ _ _ (fun _ => True) (fun _ => False) rfl rfl HO3.out HC2.out (fun _ _ h => h) (fun _ h => h.elim) (fun _ _ => trivial) HB3.out HB3.out.size ?aL ?_; (case aL => have := HPL.out; have := HF3.out; omega); intro v4 w4 ho hb2 hg hat; have HO4 := Aside0.mk ho; have HB4 := Aside0.mk hb2; have HX4 := Aside0.mk (show BoxA w4 g A p.length c A2 t.length c2 f from Prog6.keep_over HO3.out HX.out (by decide) hg); clear ho hb2 hg hat))
  have HL4 := Aside0.mk (show (formL P.length ++ P).length ≤ 6100 by have := HPL.out; have := HF3.out; simp only [List.length_append]; omega)
  clear HX HC2 HO3 HF3 HG3 HA3 HB3
  generalize formL P.length ++ P = Q at HO4 HL4 HE
  obtain ⟨o0, o1, o2⟩ := HX4.out.cu
  go_wp2_with fail
  refine (rtbytes_calls A2 c2 t _ (HA.out.below HB4.out).ht HA.out.lt HMT.out.1 HMT.out.2).mono ?_
  rintro e w5 ⟨v5, rfl, ho, hb⟩
  obtain ⟨A5, c5, rfl, hc5, hr5⟩ := Kd.R_reads ho
  have HC5 := Aside0.mk hr5
  have HB5 := Aside0.mk (below_step HB4.out hb)
  have HX5 := Aside0.mk (HX4.out.below hb)
  have HO5 := Aside0.mk (Kd.R_below HO4.out hb)
  clear ho hb hr5 o0 o1 o2 HX4 HB4 HO4
  generalize treeB t = TB at HSL HTL HTB HE HC5 hc5
  go_wp2_with fail
  refine (rroot_calls gh A5 c5 TB _ (Sha.heap_keep HGH.out HB5.out) HC5.out hc5 HTB.out (by have := HTL.out; omega)).mono ?_
  rintro e w6 ⟨rfl, hb⟩
  have HB6 := Aside0.mk (below_step HB5.out hb)
  have HX6 := Aside0.mk (HX5.out.below hb)
  have HO6 := Aside0.mk (Kd.R_below HO5.out hb)
  clear hb HX5 HB5 HO5 HC5
  generalize Sha.rootOf TB = D at HSL HE ⊢
  go_upto_region 4 with (first | (refine wpList_store_row rfl 35 (.tmp 7) (.tmp 21) rfl w6.heap.size (Sha.cb D) rfl rfl 35 _ (Sha.heap_new _ _) (Sha.infoDg _ HSL.out) (by rw [Sha.cb_size, HSL.out]; rfl) (Sha.cb_one _) ?_))
  obtain ⟨wz, hwz, HBz, HDz, HZz⟩ := Sha.dg_start w6
  rw [hwz]
  have hdg := setRow_heap _ _ _ (Sha.cb D) _ _ HDz.out
  have hbz := below_setRow HBz.out (Nat.le_refl _) (Sha.cb D)
  obtain ⟨w7, hw7⟩ : ∃ w7, wz.setRow w6.heap.size (Sha.cb D) = w7 := ⟨_, rfl⟩
  rw [hw7] at hdg hbz ⊢
  have HD7 := Aside0.mk hdg
  have HB7 := Aside0.mk (below_step HB6.out hbz)
  have HX7 := Aside0.mk (HX6.out.below hbz)
  have HO7 := Aside0.mk (Kd.R_below HO6.out hbz)
  clear hwz hdg hbz hw7 HBz HDz HZz HX6 HB6 HO6
  generalize w6.heap.size = gd at HD7 ⊢
  go_upto_region 5 with (((with_reducible refine gate_builtin (b := .append) (xs := #[.tmp 22, .tmp 23]) rfl ?_); at_builtin; refine Kd.R_append_rows B (w0 := w) w.heap.size rfl (.tmp 22) (.tmp 23) 30 5 (.int .u8 0) 1 rfl Tryd.underlying30 info5 rfl (by decide) (by omega) _ (Q) (D) _ _ _ (fun _ => True) (fun _ => False) rfl rfl HO7.out (C_cb32 HD7.out HSL.out) (fun _ _ h => h) (fun _ h => h.elim) (fun _ _ => trivial) HB7.out HB7.out.size ?aL ?_; (case aL => have := HL4.out; omega); intro v8 w8 ho hb2 hg hat; have HO8 := Aside0.mk ho; have HB8 := Aside0.mk hb2; have HX8 := Aside0.mk (show BoxA w8 g A p.length c A2 t.length c2 f from Prog6.keep_over HO7.out HX7.out (by decide) hg); clear ho hb2 hg hat))
  have HL8 := Aside0.mk (show (Q ++ D).length ≤ 6200 by have := HL4.out; have := HSL.out; simp only [List.length_append]; omega)
  clear HO7 HB7 HX7 HD7
  generalize Q ++ D = R at HO8 HL8 HE
  obtain ⟨o0, o1, o2⟩ := HX8.out.cu
  go_wp2_with fail
  refine (rform_calls f _ (by omega)).mono ?_
  rintro e w9 ⟨v9, rfl, ho, hb⟩
  obtain ⟨A9, c9, rfl, hc9, hr9⟩ := Kd.R_reads ho
  have HC9 := Aside0.mk hr9
  have HF9 := Aside0.mk (formL_len f (by omega))
  have HO9 := Aside0.mk (Kd.R_below HO8.out hb)
  have HB9 := Aside0.mk (below_step HB8.out hb)
  clear ho hb hr9 o0 o1 o2 HX8 HO8 HB8
  go_wp2_with (((with_reducible refine gate_builtin (b := .append) (xs := #[.tmp 25, .tmp 29]) rfl ?_); at_builtin; refine Kd.R_append_rows B (w0 := w) w.heap.size rfl (.tmp 25) (.tmp 29) 30 5 (.int .u8 0) 1 rfl Tryd.underlying30 info5 rfl (by decide) (by omega) _ (R) (formL f) _ _ _ (fun _ => True) (fun _ => False) rfl rfl HO9.out HC9.out (fun _ _ h => h) (fun _ h => h.elim) (fun _ _ => trivial) HB9.out HB9.out.size ?aL ?_; (case aL => have := HL8.out; have := HF9.out; omega); intro v10 w10 ho hb2 hg hat; have HO10 := Aside0.mk ho; have HB10 := Aside0.mk hb2; clear ho hb2 hg hat))
  rw [← HE.out] at HO10
  go_ret
  exact ⟨_, rfl, HO10.out, HB10.out⟩
end Go.Proofs.YtlojemnmdakfiaaDoor.Ac
end
section
namespace Go.Proofs.YtlojemnmdakfiaaDoor.Ac
open Go.RowKit Go.Proofs.YtlojemnmdakfiaaDoorW.PrintWords Go.Proofs.YtlojemnmdakfiaaDoorW.PrintLast Go.Proofs.YtlojemnmdakfiaaDoorW.PrintMore
set_option linter.unusedVariables false
set_option linter.unusedSimpArgs false
open Go.Proofs.YtlojemnmdakfiaaDoor.Prog6 (Ins KP mayP szOk progB)
open Go.Proofs.YtlojemnmdakfiaaDoor.Tr
open Go.Proofs.YtlojemnmdakfiaaDoor.Hand
open Go.Proofs.YtlojemnmdakfiaaDoor.Ref (hk hsum_calls rroot_calls C_cb32)
set_option maxHeartbeats 6400000 in
set_option maxRecDepth 100000 in
theorem rakey_calls (gh : Nat) (A : Option Addr) (c : Nat) (p : List Ins) (A2 : Option Addr) (c2 : Nat) (t : List Fl) (f : Nat) (w : World) (hgh : w.heap[gh]? = some (.cells hk 64 (0, 0))) (h : Arg w A c p A2 c2 t) (hm : mayA p t f = true) {D : List Int} (hD : Sha.shaI (16 :: actB p t f) = D) :
    Calls Tryd.prog 16 #[.pointer (some ⟨gh, 0, none⟩), .agg (cA A p.length c A2 t.length c2 f)] w fun e w' => e = .returned (Sha.vd D) ∧ Below w.heap.size w w' := by
  have HA := Aside0.mk h
  have HM := Aside0.mk hm
  have HGH := Aside0.mk hgh
  have hm' := hm
  unfold mayA at hm'
  simp only [Bool.and_eq_true, decide_eq_true_eq] at hm'
  obtain ⟨⟨⟨hmp, hmt⟩, _⟩, hf⟩ := hm'
  have HL := Aside0.mk (actB_len hmp t f (by omega))
  have HY := Aside0.mk (actB_bytes hmp t f (by omega))
  have HSL := Aside0.mk (show D.length = 32 by rw [← hD]; exact Sha.shaI_len (16 :: actB p t f))
  have HDD := Aside0.mk hD
  clear h hm hmp hmt hD hf hgh
  go_enter Tryd.func16, Tryd.ntmps16
  go_upto_region 1 with (fail)
  obtain ⟨g, hg⟩ : ∃ g, w.heap.size = g := ⟨_, rfl⟩
  obtain ⟨wa, hwa, hwah⟩ : ∃ wa, w.alloc (.cells (cA A p.length c A2 t.length c2 f) 26) = wa ∧ wa.heap[w.heap.size]? = some (.cells (cA A p.length c A2 t.length c2 f) 26 (0, 0)) := ⟨_, rfl, Sha.heap_new _ _⟩
  have hba : Below w.heap.size w wa := by rw [← hwa]; exact (Below.refl _ _).alloc (Nat.le_refl _) _
  rw [hg] at hwah
  obtain ⟨w1, hw1, HBz, HDz, HZz⟩ := Sha.dg_start wa
  rw [hwa, hw1, hg]
  have HX1 := Aside0.mk (show BoxA w1 g A p.length c A2 t.length c2 f from (BoxA.below hwah HBz.out))
  have HB1 := Aside0.mk (below_step hba HBz.out)
  have hsz : wa.heap.size = g + 1 := by rw [← hwa, ← hg]; simp
  rw [hsz] at HDz
  have HGD := Aside0.mk (show w.heap.size ≤ g + 1 by omega)
  clear hsz
  clear hwa hwah hba hw1 HBz HZz
  generalize g + 1 = gd at HDz HGD ⊢
  obtain ⟨o0, o1, o2⟩ := HX1.out.cu
  go_wp2_with ((with_reducible refine gate_dst (N := 6) rfl ?_); refine Kd.R_lit B (w0 := w) w.heap.size 5 ?hg (N := 6) ?hd (xs := [16]) (inner := [.int .u8 16]) (ok := fun _ => True) (okp := fun _ => True) ?hr ?hp (fun _ hk => hk) trivial HB1.out HB1.out.size (by simp) ?_; (case hd => rfl); (case hg => rfl); (case hr => first | (go_simp; done) | (go_simp; rfl)); (case hp => exact Reps.one rfl (Reps.none _ _)); intro v2 w2 ho hb1 hg2 hnew; have HO2 := Aside0.mk ho; have HB2 := Aside0.mk hb1; have hb12 := Ref.grown_below hg2; have HX2 := Aside0.mk (HX1.out.below hb12); have HD2 := Aside0.mk (Sha.heap_keep HDz.out hb12); obtain ⟨o0, o1, o2⟩ := HX2.out.cu; clear ho hb1 hg2 hnew hb12)
  refine (rabytes_calls gh A c p A2 c2 t f _ (Sha.heap_keep HGH.out HB2.out) (HA.out.below HB2.out) HM.out).mono ?_
  rintro e w3 ⟨v3, rfl, ho, hb⟩
  obtain ⟨A3, c3, rfl, hc3, hr3⟩ := Kd.R_reads ho
  have HC3 := Aside0.mk hr3
  have HB3 := Aside0.mk (below_step HB2.out hb)
  have HD3 := Aside0.mk (Sha.heap_keep HD2.out hb)
  have HO3 := Aside0.mk (Kd.R_below HO2.out hb)
  clear ho hb hr3 o0 o1 o2 HD2 HX2 HX1 HB2 HO2 HB1 HDz
  generalize actB p t f = X at HC3 HL HY HDD hc3 ⊢
  go_wp2_with ((with_reducible refine gate_builtin (b := .append) (xs := #[.tmp 6, .tmp 9]) rfl ?_); at_builtin; refine Kd.R_append_rows B (w0 := w) w.heap.size rfl (.tmp 6) (.tmp 9) 30 5 (.int .u8 0) 1 rfl Tryd.underlying30 info5 rfl (by decide) (by omega) _ [16] X _ _ _ (fun _ => True) (fun _ => False) rfl rfl HO3.out HC3.out (fun _ _ h => h) (fun _ h => h.elim) (fun _ _ => trivial) HB3.out HB3.out.size ?aL ?_; (case aL => have := HL.out; simp; omega); intro v4 w4 ho hb2 hg hat; have HO4 := Aside0.mk ho; have HB4 := Aside0.mk hb2; have HD4 := Aside0.mk (Prog6.keep_over HO3.out HD3.out (by decide) hg); clear ho hb2 hg hat)
  obtain ⟨A4, c4, rfl, hc4, hr4⟩ := Kd.R_reads HO4.out
  have HC4 := Aside0.mk hr4
  clear hr4 HO4 HD3 HO3 HC3 HB3 hc3
  rw [show [16] ++ X = 16 :: X from rfl] at HC4 hc4
  have hlx : (16 :: X).length < 100000000 := by have := HL.out; simp only [List.length_cons]; omega
  have HLX := Aside0.mk hlx
  have HYX : Aside0 (Sha.bytes (16 :: X)) := ⟨fun y hy => by
    rcases List.mem_cons.1 hy with rfl | h
    · omega
    · exact HY.out y h⟩
  clear hlx
  rw [show [16] ++ X = 16 :: X from rfl]
  generalize (16 :: X) = Z at HC4 hc4 HLX HYX HDD ⊢
  refine (hsum_calls gh A4 c4 Z _ (Sha.heap_keep HGH.out HB4.out) HC4.out hc4 HYX.out HLX.out).mono ?_
  rintro e w5 ⟨rfl, hb⟩
  have HB5 := Aside0.mk (below_step HB4.out hb)
  have HD5 := Aside0.mk (Sha.heap_keep HD4.out hb)
  clear hb
  rw [HDD.out]
  go_wp2_with (first | (refine wpList_store_row rfl 35 (.tmp 4) (.tmp 11) rfl gd (Sha.cb D) rfl rfl 35 _ HD5.out (Sha.infoDg _ HSL.out) (by rw [Sha.cb_size, Sha.cb_size, HSL.out]; simp) (Sha.cb_one _) ?_))
  (try simp only [Exit.inBlock, Exit.then])
  exact Sha.dg_ret rfl rfl HSL.out (setRow_heap _ _ _ _ _ _ HD5.out) rfl ⟨rfl, below_setRow HB5.out HGD.out _⟩
abbrev zeroD : List Int := List.replicate 32 0
set_option maxHeartbeats 3200000 in
set_option maxRecDepth 100000 in
theorem akey_no (A : Option Addr) (c : Nat) (p : List Ins) (A2 : Option Addr) (c2 : Nat) (t : List Fl) (f : Int) (w : World) (h : Arg w A c p A2 c2 t) (hm : mayA p t f = false) :
    Calls Tryd.prog 10 #[.agg (cA A p.length c A2 t.length c2 f)] w fun e w' => e = .returned (.tuple #[Sha.vd zeroD, .int .i64 2]) ∧ Below w.heap.size w w' := by
  have HA := Aside0.mk h
  have HM := Aside0.mk hm
  clear h hm
  go_enter Tryd.func10, Tryd.ntmps10
  go_upto_region 1 with (fail)
  obtain ⟨g, hg⟩ : ∃ g, w.heap.size = g := ⟨_, rfl⟩
  obtain ⟨wa, hwa, hwah⟩ : ∃ wa, w.alloc (.cells (cA A p.length c A2 t.length c2 f) 26) = wa ∧ wa.heap[w.heap.size]? = some (.cells (cA A p.length c A2 t.length c2 f) 26 (0, 0)) := ⟨_, rfl, Sha.heap_new _ _⟩
  have hba : Below w.heap.size w wa := by rw [← hwa]; exact (Below.refl _ _).alloc (Nat.le_refl _) _
  rw [hg] at hwah
  obtain ⟨w1, hw1, HBz, HDz, HZz⟩ := Sha.dg_start wa
  rw [hwa, hw1, hg]
  have HX1 := Aside0.mk (show BoxA w1 g A p.length c A2 t.length c2 f from (BoxA.below hwah HBz.out))
  have HB1 := Aside0.mk (below_step hba HBz.out)
  have HA1 := Aside0.mk (HA.out.below HB1.out)
  have HGG := Aside0.mk hg
  have hsz : wa.heap.size = g + 1 := by rw [← hwa, ← hg]; simp
  rw [hsz] at HDz
  have HGD := Aside0.mk (show w.heap.size ≤ g + 1 by omega)
  clear hsz
  clear hwa hwah hba hw1 HBz HZz
  generalize g + 1 = gd at HDz HGD ⊢
  obtain ⟨o0, o1, o2⟩ := HX1.out.cu
  go_wp2_with fail
  refine (abytes_no A c p A2 c2 t f _ HA1.out HM.out).mono ?_
  rintro e w2 ⟨rfl, hb⟩
  have HB2 := Aside0.mk (below_step HB1.out hb)
  have HD2 := Aside0.mk (Sha.heap_keep HDz.out hb)
  clear hb o0 o1 o2 HDz
  go_upto_region 3 with (fail)
  have HBT := Aside0.mk (show Tryd.prog.built 35 [] = some (Sha.cb zeroD) by kernel_rfl)
  have hi1 := Sha.infoDg zeroD (by decide)
  have hi2 : (Sha.cb (List.replicate 32 0)).size = (Sha.cb zeroD).size := rfl
  have hi3 := Sha.cb_one zeroD
  have hi4 : (Sha.vd zeroD) = .agg (Sha.cb zeroD) := rfl
  have HL0 := Aside0.mk (show zeroD.length = 32 by decide)
  generalize hZ : zeroD = Z at HBT hi1 hi2 hi3 hi4 HL0 ⊢
  replace hZ := Aside0.mk hZ
  go_wp2_with (first | ((with_reducible refine gate_dst (N := 13) rfl ?_); refine wpList_buildTo rfl 35 _ rfl (some 13) rfl (Sha.cb Z) (Eq.trans (congrArg (Tryd.prog.built 35) (by simp)) HBT.out) ?_) | (refine wpList_store_row rfl 35 (.tmp 2) (.tmp 13) rfl gd (Sha.cb Z) rfl rfl 35 _ HD2.out hi1 hi2 hi3 ?_))
  (try simp only [Exit.inBlock, Exit.then])
  refine dg_ret2 (D := Z) rfl rfl HL0.out (setRow_heap _ _ _ _ _ _ HD2.out) rfl ?_
  exact ⟨by rw [hZ.out]; rfl, by rw [← HGG.out]; exact below_setRow HB2.out HGD.out _⟩
end Go.Proofs.YtlojemnmdakfiaaDoor.Ac
end
section
namespace Go.Proofs.YtlojemnmdakfiaaDoor.Ac
open Go.RowKit Go.Proofs.YtlojemnmdakfiaaDoorW.PrintWords Go.Proofs.YtlojemnmdakfiaaDoorW.PrintLast Go.Proofs.YtlojemnmdakfiaaDoorW.PrintMore
set_option linter.unusedVariables false
set_option linter.unusedSimpArgs false
open Go.Proofs.YtlojemnmdakfiaaDoor.Prog6 (Ins KP mayP szOk progB)
open Go.Proofs.YtlojemnmdakfiaaDoor.Tr
open Go.Proofs.YtlojemnmdakfiaaDoor.Hand
end Go.Proofs.YtlojemnmdakfiaaDoor.Ac
end
section
namespace Go.Proofs.YtlojemnmdakfiaaDoor.Ac
open Go.RowKit Go.Proofs.YtlojemnmdakfiaaDoorW.PrintWords Go.Proofs.YtlojemnmdakfiaaDoorW.PrintLast Go.Proofs.YtlojemnmdakfiaaDoorW.PrintMore
set_option linter.unusedVariables false
set_option linter.unusedSimpArgs false
open Go.Proofs.YtlojemnmdakfiaaDoor.Prog6 (Ins KP mayP szOk progB)
open Go.Proofs.YtlojemnmdakfiaaDoor.Tr
open Go.Proofs.YtlojemnmdakfiaaDoor.Hand
open Go.Proofs.YtlojemnmdakfiaaDoor.Ref (hk new_calls hsum_calls rroot_calls)
theorem may_parts {p : List Ins} {t : List Fl} {f : Int} (h : mayA p t f = true) : mayP p = true ∧ mayT t = true ∧ 0 ≤ f ∧ f ≤ 20000 := by
  unfold mayA at h
  simp only [Bool.and_eq_true, decide_eq_true_eq] at h
  exact ⟨h.1.1.1, h.1.1.2, h.1.2, h.2⟩
end Go.Proofs.YtlojemnmdakfiaaDoor.Ac
end
section
namespace Go.Proofs.YtlojemnmdakfiaaDoor.Tr
open Go.RowKit Go.Proofs.YtlojemnmdakfiaaDoorW.PrintWords Go.Proofs.YtlojemnmdakfiaaDoorW.PrintLast Go.Proofs.YtlojemnmdakfiaaDoorW.PrintMore
set_option linter.unusedVariables false
set_option linter.unusedSimpArgs false
open Go.Proofs.YtlojemnmdakfiaaDoor.Hand
theorem infoFl : (Tryd.prog.info? 50).map (fun i => (i.zero, i.size, i.bytes)) = some (some (.agg #[.string ⟨#[]⟩, .slice none 0 0]), 2, 40) := by kernel_rfl
def rcp_T5 : Bool × List (List Nat × List Nat) := (true, [([], []), ([], []), ([], []), ([1, 2], [1, 2]), ([3], [3]), ([4], [4]), ([], []), ([], []), ([], []), ([7, 8], [7, 8]), ([9], [9]), ([10], [10]), ([6, 11], [6, 11]), ([5, 12], [5, 12]), ([13], [13]), ([0, 14, 12], [0, 14]), ([15, 15, 0, 1, 2, 3, 4, 5, 6, 7, 8, 9, 10, 11, 12, 13, 14, 15], [0, 15])])
def rcp_B5 : List Nat := [0, 0, 0, 6, 14, 30, 0, 0, 0, 384, 896, 1920, 4032, 8190, 16382, 32767, 65535]
theorem rcp_tab5 : rtab .any (opsOf Tryd.f8 5) = rcp_T5 := by kernel_rfl
theorem rcp_bits5 : waitsOk rcp_T5.2 rcp_B5 = true := by kernel_rfl
set_option maxHeartbeats 6400000 in
set_option maxRecDepth 100000 in
theorem rtcopy_calls (A : Option Addr) (c : Nat) (xs : List Fl) (w : World) (hr : KF.C w A xs.length xs) (hc : xs.length ≤ c) (hlx : xs.length * 40 ≤ 140737488351232) (hx : ∀ x ∈ xs, x.2.length ≤ 140737488351232) :
    Calls Tryd.prog 8 #[.slice A xs.length c] w fun e w' => ∃ v, e = .returned v ∧ Kd.R KF 50 w' w.heap.size (fun _ => True) v xs ∧ Below w.heap.size w w' := by
  have HR := Aside0.mk hr
  have HXX := Aside0.mk hx
  have hl63 : xs.length ≤ 9223372036854775807 := hr.2.1
  have HTL0 := Aside0.mk hlx
  clear hr hx hlx
  go_enter Tryd.func8, Tryd.ntmps8
  go_wp2
  go_loopw [3, 4] (fun v i wr => ∃ k : Nat, k ≤ xs.length ∧ i = .int .i64 (k : Int) ∧ Aside0 (Kd.R KF 50 wr w.heap.size (fun _ => True) v (xs.take k)) ∧ Aside0 (Below w.heap.size w wr)) (fun _ i _ => xs.length - (intOf i).toNat)
  case atStart => exact ⟨0, Nat.zero_le _, rfl, ⟨Kd.R_nil _ _ _ _ _⟩, ⟨Below.refl _ _⟩⟩
  case round =>
    obtain ⟨k, hk, rfl, HO, HB⟩ := hrel
    by_cases hlt : k < xs.length
    · obtain ⟨ad, A0, c0, rfl, x0, x1, hc0, hC0⟩ := row_cf HR.out k hlt xs[k] (List.getElem?_eq_getElem hlt)
      have HTK := Aside0.mk (show xs.take (k + 1) = xs.take k ++ [xs[k]] by rw [List.take_succ_eq_append_getElem hlt])
      have HXL := Aside0.mk (HXX.out xs[k] (List.getElem_mem hlt))
      have HTL := Aside0.mk (show ((xs.take k).length + 1) * 40 ≤ 140737488351232 by have := HTL0.out; rw [List.length_take]; omega)
      generalize xs[k] = x at x0 x1 hc0 hC0 HTK HXL
      have HX0 := Aside0.mk x0
      have HX1 := Aside0.mk x1
      have HC0 := Aside0.mk hC0
      clear x0 x1 hC0 HR
      go_upto_region 5 with (fail)
      have hS0 : Below w.heap.size w wr.drew := below_drew1 HB.out
      have HOE := Aside0.mk (show Kd.R KF 50 wr.drew w.heap.size (fun k => k < wr.drew.heap.size) _ (xs.take k) from Kd.R_mono (Kd.R_bound (Kd.R_drew HO.out)) (fun k hk => hk.2.2.1))
      refine start_ (n := 17) (S := fun w' => Below w.heap.size w w') (ds := []) #[false, false, false, false, false, false, false, false, false, false, false, false, false, false, false, false, false] (by kernel_rfl) rfl rfl (by exact hS0) (fun hHeld => ?_)
      refine with_tabW rcp_tab5 rcp_bits5 (fun HT_ HW_ => ?_)
      generalize wr.drew = wE at hHeld hS0 HOE ⊢
      refine pure_ (i := 0) (N := some 11) (v := ?_) (a' := ?_) #[true, false, false, false, false, false, false, false, false, false, false, false, false, false, false, false, false] rfl rfl (any_of HT_.out (by kernel_rfl)) (fun _ _ _ h => h) (Or.inl ⟨by rfl, ?_⟩) ?_ ?_
      rotate_left
      · intro w'
        go_simp
        with_reducible rfl
      rotate_left
      · simp only [Act.put, List.setIfInBounds_toArray, List.set_cons_zero, List.set_cons_succ, i64_w, i32_w]
        rfl
      refine pure_ (i := 1) (N := some 12) (v := ?_) (a' := ?_) #[true, true, false, false, false, false, false, false, false, false, false, false, false, false, false, false, false] rfl rfl (any_of HT_.out (by kernel_rfl)) (fun _ _ _ h => h) (Or.inl ⟨by rfl, ?_⟩) ?_ ?_
      rotate_left
      · intro w'
        go_simp
        with_reducible rfl
      rotate_left
      · simp only [Act.put, List.setIfInBounds_toArray, List.set_cons_zero, List.set_cons_succ, i64_w, i32_w]
        rfl
      refine pure_ (i := 2) (N := some 13) (v := ?_) (a' := ?_) #[true, true, true, false, false, false, false, false, false, false, false, false, false, false, false, false, false] rfl rfl (any_of HT_.out (by kernel_rfl)) (fun _ _ _ h => h) (Or.inl ⟨by rfl, ?_⟩) ?_ ?_
      rotate_left
      · intro w'
        go_simp
        with_reducible rfl
      rotate_left
      · simp only [Act.put, List.setIfInBounds_toArray, List.set_cons_zero, List.set_cons_succ, i64_w, i32_w]
        rfl
      refine pure_ (i := 3) (N := some 14) (v := ?_) (a' := ?_) #[true, true, true, true, false, false, false, false, false, false, false, false, false, false, false, false, false] rfl rfl (any_of HT_.out (by kernel_rfl)) (fun _ _ _ h => h) (Or.inl ⟨by rfl, ?_⟩) ?_ ?_
      rotate_left
      · intro w'
        go_simp
        with_reducible rfl
      rotate_left
      · simp only [Act.put, List.setIfInBounds_toArray, List.set_cons_zero, List.set_cons_succ, i64_w, i32_w]
        rfl
      refine pure_ (i := 4) (N := some 15) (v := ?_) (a' := ?_) #[true, true, true, true, true, false, false, false, false, false, false, false, false, false, false, false, false] rfl rfl (any_of HT_.out (by kernel_rfl)) (fun _ _ _ h => h) (Or.inl ⟨by rfl, ?_⟩) ?_ ?_
      rotate_left
      · intro w'
        go_simp
        with_reducible rfl
      rotate_left
      · simp only [Act.put, List.setIfInBounds_toArray, List.set_cons_zero, List.set_cons_succ, i64_w, i32_w]
        rfl
      refine pure_ (i := 7) (N := some 18) (v := ?_) (a' := ?_) #[true, true, true, true, true, false, false, true, false, false, false, false, false, false, false, false, false] rfl rfl (any_of HT_.out (by kernel_rfl)) (fun _ _ _ h => h) (Or.inl ⟨by rfl, ?_⟩) ?_ ?_
      rotate_left
      · intro w'
        go_simp
        with_reducible rfl
      rotate_left
      · simp only [Act.put, List.setIfInBounds_toArray, List.set_cons_zero, List.set_cons_succ, i64_w, i32_w]
        rfl
      refine pure_ (i := 8) (N := some 19) (v := ?_) (a' := ?_) #[true, true, true, true, true, false, false, true, true, false, false, false, false, false, false, false, false] rfl rfl (any_of HT_.out (by kernel_rfl)) (fun _ _ _ h => h) (Or.inl ⟨by rfl, ?_⟩) ?_ ?_
      rotate_left
      · intro w'
        go_simp
        with_reducible rfl
      rotate_left
      · simp only [Act.put, List.setIfInBounds_toArray, List.set_cons_zero, List.set_cons_succ, i64_w, i32_w]
        rfl
      refine pure_ (i := 9) (N := some 20) (v := ?_) (a' := ?_) #[true, true, true, true, true, false, false, true, true, true, false, false, false, false, false, false, false] rfl rfl (any_of HT_.out (by kernel_rfl)) (fun _ _ _ h => h) (Or.inl ⟨by rfl, ?_⟩) ?_ ?_
      rotate_left
      · intro w'
        go_simp
        with_reducible rfl
      rotate_left
      · simp only [Act.put, List.setIfInBounds_toArray, List.set_cons_zero, List.set_cons_succ, i64_w, i32_w]
        rfl
      refine pure_ (i := 10) (N := some 21) (v := ?_) (a' := ?_) #[true, true, true, true, true, false, false, true, true, true, true, false, false, false, false, false, false] rfl rfl (any_of HT_.out (by kernel_rfl)) (fun _ _ _ h => h) (Or.inl ⟨by rfl, ?_⟩) ?_ ?_
      rotate_left
      · intro w'
        go_simp
        with_reducible rfl
      rotate_left
      · simp only [Act.put, List.setIfInBounds_toArray, List.set_cons_zero, List.set_cons_succ, i64_w, i32_w]
        rfl
      refine take_ (i := 5) (N := some 16) (v := ?_) (a' := ?_) #[true, true, true, true, true, true, false, true, true, true, true, false, false, false, false, false, false] rfl rfl (take_ofW HT_.out HW_.out (by kernel_rfl)) (fun _ _ _ h => h) (Or.inl ⟨by rfl, ?_⟩) hHeld ?_ ?_
      rotate_left
      · intro w' hSt
        have x0 := cell_below HX0.out hSt
        have x1 := cell_below HX1.out hSt
        go_simp
        with_reducible rfl
      rotate_left
      · simp only [Act.put, List.setIfInBounds_toArray, List.set_cons_zero, List.set_cons_succ, i64_w, i32_w]
        rfl
      refine take_ (i := 11) (N := some 22) (v := ?_) (a' := ?_) #[true, true, true, true, true, true, false, true, true, true, true, true, false, false, false, false, false] rfl rfl (take_ofW HT_.out HW_.out (by kernel_rfl)) (fun _ _ _ h => h) (Or.inl ⟨by rfl, ?_⟩) hHeld ?_ ?_
      rotate_left
      · intro w' hSt
        have x0 := cell_below HX0.out hSt
        have x1 := cell_below HX1.out hSt
        go_simp
        with_reducible rfl
      rotate_left
      · simp only [Act.put, List.setIfInBounds_toArray, List.set_cons_zero, List.set_cons_succ, i64_w, i32_w]
        rfl
      refine one_ (i := 6) (N := some 17) #[true, true, true, true, true, true, true, true, true, true, true, true, false, false, false, false, false] rfl rfl (one_of HT_.out (by kernel_rfl)) (by decide) (fun K hK => ?_)
      refine Kd.R_lit_step B (w0 := w) w.heap.size 5 (by rfl) rfl (xs := ([] : List Int)) (inner := []) (ok := fun k => wE.heap.size ≤ k) (okp := fun _ => False) ?hr (Reps.none _ _) (fun _ h => h.elim) (Nat.le_refl _) hHeld hHeld.size (by simp) ?_
      case hr => first | (go_simp; done) | (go_simp; rfl)
      intro v5 w5 ho5 hb5 hg5 _
      have HO5 := Aside0.mk ho5
      have hS1 := hb5
      have HOU := Aside0.mk (Kd.R_grown HOE.out hg5 (fun k hk => by simp))
      have hsz5 : wE.heap.size ≤ w5.heap.size := hg5.size
      clear ho5 hb5 hg5
      refine hK.out _ _ (by exact hS1) (fun hHeld => ?_)
      clear hK K
      refine norm_ (a' := ?_) ?_ ?_
      rotate_left
      · first
        | (show Act.put _ (some 17) _ = _; simp only [Act.put, List.setIfInBounds_toArray, List.set_cons_zero, List.set_cons_succ, i64_w, i32_w]; rfl)
        | rfl
      refine one_ (i := 12) (N := some 23) #[true, true, true, true, true, true, true, true, true, true, true, true, true, false, false, false, false] rfl rfl (one_of HT_.out (by kernel_rfl)) (by decide) (fun K hK => ?_)
      refine Kd.R_append_rows_step B (w0 := w) w.heap.size (by rfl) (.tmp 17) (.tmp 22) 30 5 (.int .u8 0) 1 rfl Tryd.underlying30 info5 rfl (by decide) (by omega) _ ([] : List Int) x.2 _ _ _ (fun k => wE.heap.size ≤ k) (fun _ => False) rfl rfl HO5.out (Kd.C_below HC0.out hHeld) (fun _ _ h => h) (fun _ h => h.elim) (fun k hk => Nat.le_trans hsz5 hk) hHeld hHeld.size ?aL ?_
      case aL => have := HXL.out; simp; omega
      intro v6 w6 ho6 hb6 hg6 _
      have HO6 := Aside0.mk ho6
      have HB6 := Aside0.mk hb6
      have HWS : Aside0 (wE.heap.size ≤ w6.heap.size) := ⟨Nat.le_trans hsz5 hg6.size⟩
      have hS1 := hb6
      replace HOU := Aside0.mk (Kd.R_grown HOU.out hg6 (fun k hk e => by
        have h1 := HO5.out.1 k e.symm
        omega))
      clear ho6 hb6 hg6
      rw [List.nil_append] at HO6
      obtain ⟨A6, c6, rfl, hc6, hr6⟩ := Kd.R_reads HO6.out
      clear hr6
      refine hK.out _ _ (by exact hS1) (fun hHeld => ?_)
      clear hK K
      refine norm_ (a' := ?_) ?_ ?_
      rotate_left
      · first
        | (show Act.put _ (some 23) _ = _; simp only [Act.put, List.setIfInBounds_toArray, List.set_cons_zero, List.set_cons_succ, i64_w, i32_w]; rfl)
        | rfl
      refine pure_ (i := 13) (N := some 24) (v := ?_) (a' := ?_) #[true, true, true, true, true, true, true, true, true, true, true, true, true, true, false, false, false] rfl rfl (any_of HT_.out (by kernel_rfl)) (fun _ _ _ h => h) (Or.inl ⟨by rfl, ?_⟩) ?_ ?_
      rotate_left
      · intro w'
        go_simp
        with_reducible rfl
      rotate_left
      · simp only [Act.put, List.setIfInBounds_toArray, List.set_cons_zero, List.set_cons_succ, i64_w, i32_w]
        rfl
      refine one_ (i := 14) (N := some 25) #[true, true, true, true, true, true, true, true, true, true, true, true, true, true, true, false, false] rfl rfl (one_of HT_.out (by kernel_rfl)) (by decide) (fun K hK => ?_)
      refine value_ (v := .slice (some ⟨w6.heap.size, 0, none⟩) 1 1) (w1 := w6.alloc (.cells [.string x.1, .slice A6 x.2.length c6].toArray 50)) (by rfl) rfl (by go_simp; first | done | rfl) ?_
      have hS1 := hHeld.alloc hHeld.size (.cells [.string x.1, .slice A6 x.2.length c6].toArray 50)
      refine hK.out _ _ (by exact hS1) (fun hHeld => ?_)
      clear hK K
      refine norm_ (a' := ?_) ?_ ?_
      rotate_left
      · first
        | (show Act.put _ (some 25) _ = _; simp only [Act.put, List.setIfInBounds_toArray, List.set_cons_zero, List.set_cons_succ, i64_w, i32_w]; rfl)
        | rfl
      refine one_ (i := 15) (N := some 26) #[true, true, true, true, true, true, true, true, true, true, true, true, true, true, true, true, false] rfl rfl (one_of HT_.out (by kernel_rfl)) (by decide) (fun K hK => ?_)
      refine Kd.R_append_step KF (w0 := w) w.heap.size (by rfl) (.tmp 11) (.tmp 25) 24 50 (.agg #[.string ⟨#[]⟩, .slice none 0 0]) 40 rfl Tryd.underlying24 infoFl rfl (by decide) (by omega) _ (xs.take k) x [.string x.1, .slice A6 x.2.length c6] (fun k => k < wE.heap.size ∨ wE.heap.size ≤ k) (fun k => wE.heap.size ≤ k) rfl rfl ⟨[.string x.1], _, rfl, rfl, _, rfl, HO6.out⟩ (fun k hk => ⟨Or.inr hk, fun e => ?_⟩) (fun k hk => Or.inr (Nat.le_trans HWS.out hk)) (Kd.R_mono HOU.out (fun k hk => Or.inl hk)) HB6.out HB6.out.size ?aL ?_
      · have := HOU.out.1 k e.symm
        omega
      case aL => have := HTL.out; omega
      intro v7 w7 ho7 hb7 _ _
      have HO7 := Aside0.mk ho7
      have hS1 := hb7
      clear ho7 hb7
      refine hK.out _ _ (by exact hS1) (fun hHeld => ?_)
      clear hK K
      refine norm_ (a' := ?_) ?_ ?_
      rotate_left
      · first
        | (show Act.put _ (some 26) _ = _; simp only [Act.put, List.setIfInBounds_toArray, List.set_cons_zero, List.set_cons_succ, i64_w, i32_w]; rfl)
        | rfl
      refine pure_ (i := 16) (N := some 3) (v := ?_) (a' := ?_) #[true, true, true, true, true, true, true, true, true, true, true, true, true, true, true, true, true] rfl rfl (any_of HT_.out (by kernel_rfl)) (fun _ _ _ h => h) (Or.inl ⟨by rfl, ?_⟩) ?_ ?_
      rotate_left
      · intro w'
        go_simp
        with_reducible rfl
      rotate_left
      · simp only [Act.put, List.setIfInBounds_toArray, List.set_cons_zero, List.set_cons_succ, i64_w, i32_w]
        rfl
      refine done_ (done_of HT_.out (by kernel_rfl)) ?_
      have HO8 := Aside0.mk (show Kd.R KF 50 w7 w.heap.size (fun _ => True) v7 (xs.take (k + 1)) by rw [HTK.out]; exact Kd.R_mono HO7.out (fun _ _ => trivial))
      have HB8 := Aside0.mk hHeld
      clear hS0 hHeld HT_ HW_ HOE HOU HO6 HO7
      go_wp2
      go_roundw
      case rel => exact ⟨k + 1, by omega, by first | rfl | go_num, HO8, HB8⟩
      case measure => simp [intOf]; omega
    · obtain rfl : k = xs.length := by omega
      rw [List.take_length] at HO
      go_wp2
      go_ret
      exact ⟨_, rfl, HO.out, HB.out⟩
end Go.Proofs.YtlojemnmdakfiaaDoor.Tr
end
section
namespace Go.Proofs.YtlojemnmdakfiaaDoor.Ac
open Go.RowKit Go.Proofs.YtlojemnmdakfiaaDoorW.PrintWords Go.Proofs.YtlojemnmdakfiaaDoorW.PrintLast Go.Proofs.YtlojemnmdakfiaaDoorW.PrintMore
set_option linter.unusedVariables false
set_option linter.unusedSimpArgs false
open Go.Proofs.YtlojemnmdakfiaaDoor.Prog6 (Ins KP mayP szOk progB)
open Go.Proofs.YtlojemnmdakfiaaDoor.Tr
open Go.Proofs.YtlojemnmdakfiaaDoor.Hand
open Go.Proofs.YtlojemnmdakfiaaDoor.Ref (hk new_calls hsum_calls rroot_calls)
theorem rpmay_at {b : Bool} (A : Option Addr) (c : Nat) (xs : List Ins) (w : World) (hr : KP.C w A xs.length xs) (hc : xs.length ≤ c) (hT : Prog6.Tab w) (hx : ∀ x ∈ xs, szOk x) (hm : mayP xs = b) :
    Calls Tryd.prog 28 #[.slice A xs.length c] w fun e w' => e = .returned (.bool b) ∧ Below w.heap.size w w' := by
  subst hm
  exact Prog6.rmay_calls A c xs w hr hc hx
theorem rtmay_at {b : Bool} (A : Option Addr) (c : Nat) (xs : List Fl) (w : World) (hr : KF.C w A xs.length xs) (hc : xs.length ≤ c) (hx : ∀ x ∈ xs, x.1.size ≤ 9223372036854775807) (hm : mayT xs = b) :
    Calls Tryd.prog 29 #[.slice A xs.length c] w fun e w' => e = .returned (.bool b) ∧ Below w.heap.size w w' := by
  subst hm
  exact rtmay_calls A c xs w hr hc hx
set_option maxHeartbeats 3200000 in
set_option maxRecDepth 100000 in
theorem rmayA_calls (A : Option Addr) (c : Nat) (p : List Ins) (A2 : Option Addr) (c2 : Nat) (t : List Fl) (f : Int) (w : World) (h : Arg w A c p A2 c2 t) :
    Calls Tryd.prog 12 #[.agg (cA A p.length c A2 t.length c2 f)] w fun e w' => e = .returned (.bool (mayA p t f)) ∧ Below w.heap.size w w' := by
  have HA := Aside0.mk h
  clear h
  unfold mayA
  obtain ⟨b1, hb1⟩ : ∃ b, mayP p = b := ⟨_, rfl⟩
  obtain ⟨b2, hb2⟩ : ∃ b, mayT t = b := ⟨_, rfl⟩
  obtain ⟨b3, hb3⟩ : ∃ b, decide (0 ≤ f) = b := ⟨_, rfl⟩
  obtain ⟨b4, hb4⟩ : ∃ b, decide (f ≤ 20000) = b := ⟨_, rfl⟩
  have hb3' : decide (f ≥ 0) = b3 := hb3
  rw [hb1, hb2, hb3, hb4]
  have HMP := Aside0.mk hb1
  have HMT := Aside0.mk hb2
  clear hb1 hb2
  obtain ⟨g, hg⟩ : ∃ g, w.heap.size = g := ⟨_, rfl⟩
  obtain ⟨w1, hw1, hw1h⟩ : ∃ w1, w.alloc (.cells (cA A p.length c A2 t.length c2 f) 26) = w1 ∧ w1.heap[w.heap.size]? = some (.cells (cA A p.length c A2 t.length c2 f) 26 (0, 0)) := ⟨_, rfl, Sha.heap_new _ _⟩
  have hbb : Below w.heap.size w w1 := by rw [← hw1]; exact (Below.refl _ _).alloc (Nat.le_refl _) _
  rw [hg] at hw1h
  have HX := Aside0.mk (show BoxA w1 g A p.length c A2 t.length c2 f from hw1h)
  have HB1 := Aside0.mk hbb
  have HA1 := Aside0.mk (HA.out.below hbb)
  obtain ⟨o0, o1, o2⟩ := HX.out.cu
  have HW := Aside0.mk hw1
  have HG := Aside0.mk hg
  clear hw1 hw1h hbb hg
  go_enter Tryd.func12, Tryd.ntmps12
  go_upto_region 1 with (fail)
  rw [HW.out, HG.out]
  go_wp2_with fail
  refine (rpmay_at A c p _ HA1.out.hp HA1.out.lp HA1.out.t6 HA1.out.sp HMP.out).mono ?_
  rintro e w2 ⟨rfl, hb⟩
  have HB2 := Aside0.mk (below_step HB1.out hb)
  have HA2 := Aside0.mk (HA1.out.below hb)
  obtain ⟨o0, o1, o2⟩ := (HX.out.below hb).cu
  have HX2 := Aside0.mk (HX.out.below hb)
  clear hb
  rcases b1 with _ | _
  · simp only [Bool.false_and]
    go_wp2
    go_ret
    exact ⟨rfl, HB2.out⟩
  go_wp2_with fail
  clear o0 o1 o2
  refine (rtmay_at A2 c2 t _ HA2.out.ht HA2.out.lt HA2.out.st HMT.out).mono ?_
  rintro e w3 ⟨rfl, hb⟩
  have HB3 := Aside0.mk (below_step HB2.out hb)
  obtain ⟨o0, o1, o2⟩ := (HX2.out.below hb).cu
  clear hb
  rcases b2 with _ | _
  · simp only [Bool.false_and, Bool.and_false, Bool.true_and]
    go_wp2
    go_ret
    exact ⟨rfl, HB3.out⟩
  rcases b3 with _ | _
  · simp only [Bool.false_and, Bool.and_false, Bool.true_and]
    go_wp2
    go_ret
    exact ⟨rfl, HB3.out⟩
  rcases b4 with _ | _
  · simp only [Bool.false_and, Bool.and_false, Bool.true_and]
    go_wp2
    go_ret
    exact ⟨rfl, HB3.out⟩
  simp only [Bool.true_and]
  go_wp2
  go_ret
  exact ⟨rfl, HB3.out⟩
end Go.Proofs.YtlojemnmdakfiaaDoor.Ac
end
section
namespace Go.Proofs.YtlojemnmdakfiaaDoor.Ac
open Go.RowKit Go.Proofs.YtlojemnmdakfiaaDoorW.PrintWords Go.Proofs.YtlojemnmdakfiaaDoorW.PrintLast Go.Proofs.YtlojemnmdakfiaaDoorW.PrintMore
set_option linter.unusedVariables false
set_option linter.unusedSimpArgs false
open Go.Proofs.YtlojemnmdakfiaaDoor.Prog6 (Ins KP mayP szOk progB)
open Go.Proofs.YtlojemnmdakfiaaDoor.Tr
open Go.Proofs.YtlojemnmdakfiaaDoor.Hand
open Go.Proofs.YtlojemnmdakfiaaDoor.Ref (hk new_calls hsum_calls rroot_calls)
def keys_T6 : Bool × List (List Nat × List Nat) := (true, [([], []), ([0], [0]), ([], []), ([2, 1], [2]), ([1, 3], [1, 3]), ([4, 3], [4]), ([5], [5]), ([5], [5]), ([7, 5], [5, 7]), ([6, 8, 5, 5], [5, 6, 8]), ([9, 5], [5, 9]), ([5, 10], [5, 10])])
def keys_B6 : List Nat := [0, 1, 0, 7, 15, 31, 63, 63, 191, 511, 1023, 2047]
theorem keys_tab6 : rtab .any (opsOf Tryd.f3 6) = keys_T6 := by kernel_rfl
theorem keys_bits6 : waitsOk keys_T6.2 keys_B6 = true := by kernel_rfl
theorem rmayA_at {b : Bool} (A : Option Addr) (c : Nat) (p : List Ins) (A2 : Option Addr) (c2 : Nat) (t : List Fl) (f : Int) (w : World) (h : Arg w A c p A2 c2 t) (hm : mayA p t f = b) :
    Calls Tryd.prog 12 #[.agg (cA A p.length c A2 t.length c2 f)] w fun e w' => e = .returned (.bool b) ∧ Below w.heap.size w w' := by
  subst hm
  exact rmayA_calls A c p A2 c2 t f w h
section
variable {P : Program} {ops : Array Oper} {rest : List Oper} {o : Oper} {a : Act} {Q : Exit → Act → World → Prop} {w : World}
theorem wpList_build_g (hw : Region.wanted o (yielded ops a.tmps) = true) (t : TypeId) (parts : Array (Nat × Operand)) (ho : o.op = .build t parts)
    (d : Option Tmp) (hd : o.dst = d) (cells : Array Value) (hf : P.built t (parts.map fun (i, x) => (i, a.eval x)).toList = some cells)
    (h : wpList P ops Q rest (a.put d (.agg cells)) w) : wpList P ops Q (o :: rest) a w :=
  wpList_step fun K hK => by
    subst hd
    rw [if_pos hw]
    refine wp_build t parts ho (by rw [hf]; rfl) ?_
    rw [hf]
    exact hK _ _ h
end
set_option maxHeartbeats 6400000 in
set_option maxRecDepth 100000 in
theorem keys_no (A : Option Addr) (c : Nat) (p : List Ins) (A2 : Option Addr) (c2 : Nat) (t : List Fl) (f : Int) (w : World) (h : Arg w A c p A2 c2 t) (hbig : t.length * 40 ≤ 140737488351232 ∧ ∀ x ∈ t, x.2.length ≤ 140737488351232) (hm : mayA p t f = false) :
    Calls Tryd.prog 3 #[.agg (cA A p.length c A2 t.length c2 f)] w fun e w' => e = .returned (.bool true) ∧ Below w.heap.size w w' := by
  obtain ⟨g, hg⟩ : ∃ g, w.heap.size = g := ⟨_, rfl⟩
  obtain ⟨w1, hw1, hw1h⟩ : ∃ w1, w.alloc (.cells (cA A p.length c A2 t.length c2 f) 26) = w1 ∧ w1.heap[w.heap.size]? = some (.cells (cA A p.length c A2 t.length c2 f) 26 (0, 0)) := ⟨_, rfl, Sha.heap_new _ _⟩
  have hbb : Below w.heap.size w w1 := by rw [← hw1]; exact (Below.refl _ _).alloc (Nat.le_refl _) _
  rw [hg] at hw1h
  have HX := Aside0.mk (show BoxA w1 g A p.length c A2 t.length c2 f from hw1h)
  have HB := Aside0.mk hbb
  have HA := Aside0.mk (h.below hbb)
  have HM := Aside0.mk hm
  have HBG := Aside0.mk hbig
  obtain ⟨o0, o1, o2⟩ := HX.out.cu
  have HW := Aside0.mk hw1
  have HG := Aside0.mk hg
  clear hw1 hw1h hbb hg h hm hbig
  go_enter Tryd.func3, Tryd.ntmps3
  go_upto_region 1 with (fail)
  rw [HW.out, HG.out]
  go_wp2_with fail
  refine (agreat_calls A c p A2 c2 t f _ HA.out).mono ?_
  rintro e w2 ⟨b, rfl, _, hb⟩
  replace HB := Aside0.mk (below_step HB.out hb)
  replace HA := Aside0.mk (HA.out.below hb)
  replace HX := Aside0.mk (HX.out.below hb)
  clear hb o0 o1 o2 HW
  rcases b with _ | _
  rotate_left
  · go_wp2_with fail
    refine (known_calls _ HA.out.t6 HA.out.ts).mono ?_
    rintro e wk ⟨rfl, hb⟩
    have HBK := Aside0.mk (below_step HB.out hb)
    clear hb
    go_wp2
    go_ret
    exact ⟨rfl, HBK.out⟩
  obtain ⟨o0, o1, o2⟩ := HX.out.cu
  go_wp2_with fail
  refine (rtcopy_calls A2 c2 t _ HA.out.ht HA.out.lt (by have := HBG.out.1; omega) (fun x hx => by have := HBG.out.2 x hx; omega)).mono ?_
  rintro e w3 ⟨v3, rfl, ho, hb⟩
  obtain ⟨A3, c3, rfl, hc3, hr3⟩ := Kd.R_reads ho
  have HC := Aside0.mk hr3
  replace HB := Aside0.mk (below_step HB.out hb)
  replace HA := Aside0.mk (HA.out.below hb)
  replace HX := Aside0.mk (HX.out.below hb)
  clear hb ho hr3 o0 o1 o2
  obtain ⟨o0, o1, o2⟩ := HX.out.cu
  go_wp2_with fail
  refine (abytes_no A c p A2 c2 t f _ HA.out HM.out).mono ?_
  rintro e w4 ⟨rfl, hb⟩
  replace HC := Aside0.mk (Kd.C_below HC.out hb)
  replace HB := Aside0.mk (below_step HB.out hb)
  replace HA := Aside0.mk (HA.out.below hb)
  replace HX := Aside0.mk (HX.out.below hb)
  clear hb o0 o1 o2
  obtain ⟨o0, o1, o2⟩ := HX.out.cu
  go_wp2_with fail
  refine (akey_no A c p A2 c2 t f _ HA.out HM.out).mono ?_
  rintro e w5 ⟨rfl, hb⟩
  replace HC := Aside0.mk (Kd.C_below HC.out hb)
  replace HB := Aside0.mk (below_step HB.out hb)
  replace HA := Aside0.mk (HA.out.below hb)
  replace HX := Aside0.mk (HX.out.below hb)
  clear hb o0 o1 o2
  have HBT := Aside0.mk (show Tryd.prog.built 35 [] = some (Sha.cb zeroD) by kernel_rfl)
  have heq : ∀ w : World, (Op.equalIn 10000 35 (.agg (Sha.cb zeroD)) (.agg (Sha.cb zeroD))).run Tryd.prog w = .ok true w := fun w => by
    have := Sha.eqD (show zeroD.length = 32 by decide) (show zeroD.length = 32 by decide) w
    rw [decide_eq_true rfl] at this
    exact this
  have HL := Aside0.mk (show zeroD.length = 32 by decide)
  have HV := Aside0.mk (show Sha.vd zeroD = .agg (Sha.cb zeroD) from rfl)
  rw [HV.out]
  clear HV
  generalize zeroD = Z at HBT HL heq ⊢
  go_upto_region 6 with (first | (refine wpList_store_row rfl 35 (.tmp 6) (.tmp 23) rfl w5.heap.size (Sha.cb Z) rfl rfl 35 _ (Sha.heap_new _ _) (Sha.infoDg _ HL.out) (by rw [Sha.cb_size, HL.out]; rfl) (Sha.cb_one _) ?_))
  obtain ⟨wz, hwz, HBz, HDz, HZz⟩ := Sha.dg_start w5
  rw [hwz]
  have hdg := setRow_heap _ _ _ (Sha.cb Z) _ _ HDz.out
  have hb := below_setRow HBz.out (Nat.le_refl _) (Sha.cb Z)
  obtain ⟨w6, hwq⟩ : ∃ wq, wz.setRow w5.heap.size (Sha.cb Z) = wq := ⟨_, rfl⟩
  rw [hwq] at hdg hb ⊢
  have HG1 := Aside0.mk hdg
  replace HC := Aside0.mk (Kd.C_below HC.out hb)
  replace HB := Aside0.mk (below_step HB.out hb)
  replace HA := Aside0.mk (HA.out.below hb)
  replace HX := Aside0.mk (HX.out.below hb)
  clear hwz hdg hb hwq HBz HDz HZz
  generalize w5.heap.size = g1 at HG1 ⊢
  have hS0 : Below w6.heap.size w6 w6.drew := below_drew1 (Below.refl _ _)
  refine start_ (n := 12) (S := fun w' => Below w6.heap.size w6 w') (ds := []) #[false, false, false, false, false, false, false, false, false, false, false, false] (by kernel_rfl) rfl rfl (by exact hS0) (fun hHeld => ?_)
  refine with_tabW keys_tab6 keys_bits6 (fun HT_ HW_ => ?_)
  generalize w6.drew = wq at hHeld hS0 ⊢
  refine take_ (i := 0) (N := some 25) (v := ?_) (a' := ?_) #[true, false, false, false, false, false, false, false, false, false, false, false] rfl rfl (take_ofW HT_.out HW_.out (by kernel_rfl)) (fun _ _ _ h => h) (Or.inl ⟨by rfl, ?_⟩) hHeld ?_ ?_
  rotate_left
  · intro w' hSt
    obtain ⟨o0, o1, o2⟩ := (HX.out.below hSt).cu
    go_simp
    with_reducible rfl
  rotate_left
  · simp only [Act.put, List.setIfInBounds_toArray, List.set_cons_zero, List.set_cons_succ, i64_w, i32_w]
    rfl
  refine take_ (i := 2) (N := some 27) (v := ?_) (a' := ?_) #[true, false, true, false, false, false, false, false, false, false, false, false] rfl rfl (take_ofW HT_.out HW_.out (by kernel_rfl)) (fun _ _ _ h => h) (Or.inl ⟨by rfl, ?_⟩) hHeld ?_ ?_
  rotate_left
  · intro w' hSt
    obtain ⟨o0, o1, o2⟩ := (HX.out.below hSt).cu
    go_simp
    with_reducible rfl
  rotate_left
  · simp only [Act.put, List.setIfInBounds_toArray, List.set_cons_zero, List.set_cons_succ, i64_w, i32_w]
    rfl
  refine one_ (i := 1) (N := some 26) #[true, true, true, false, false, false, false, false, false, false, false, false] rfl rfl (one_of HT_.out (by kernel_rfl)) (by decide) (fun K hK => ?_)
  refine goes_ Tryd.func11 (by kernel_rfl) rfl #[.agg (cA A p.length c A2 t.length c2 f)] (by rfl) rfl rfl (by (try simp only [List.map_toArray, List.map_cons, List.map_nil]); first | done | rfl) ?_
  refine (amay_at A c p A2 c2 t f _ (HA.out.below hHeld) HM.out).mono ?_
  rintro e wk ⟨rfl, hb⟩
  refine ⟨_, rfl, ?_⟩
  have hS1 := below_step hHeld hb
  clear hb
  refine hK.out _ _ (by exact hS1) (fun hHeld => ?_)
  clear hK K
  refine norm_ (a' := ?_) ?_ ?_
  rotate_left
  · first
    | (show Act.put _ (some 26) _ = _; simp only [Act.put, List.setIfInBounds_toArray, List.set_cons_zero, List.set_cons_succ, i64_w, i32_w]; rfl)
    | rfl
  refine one_ (i := 3) (N := some 28) #[true, true, true, true, false, false, false, false, false, false, false, false] rfl rfl (one_of HT_.out (by kernel_rfl)) (by decide) (fun K hK => ?_)
  refine goes_ Tryd.func12 (by kernel_rfl) rfl #[.agg (cA A p.length c A2 t.length c2 f)] (by rfl) rfl rfl (by (try simp only [List.map_toArray, List.map_cons, List.map_nil]); first | done | rfl) ?_
  refine (rmayA_at A c p A2 c2 t f _ (HA.out.below hHeld) HM.out).mono ?_
  rintro e wk ⟨rfl, hb⟩
  refine ⟨_, rfl, ?_⟩
  have hS1 := below_step hHeld hb
  clear hb
  refine hK.out _ _ (by exact hS1) (fun hHeld => ?_)
  clear hK K
  refine norm_ (a' := ?_) ?_ ?_
  rotate_left
  · first
    | (show Act.put _ (some 28) _ = _; simp only [Act.put, List.setIfInBounds_toArray, List.set_cons_zero, List.set_cons_succ, i64_w, i32_w]; rfl)
    | rfl
  refine pure_ (i := 4) (N := some 29) (v := ?_) (a' := ?_) #[true, true, true, true, true, false, false, false, false, false, false, false] rfl rfl (any_of HT_.out (by kernel_rfl)) (fun _ _ _ h => h) (Or.inl ⟨by rfl, ?_⟩) ?_ ?_
  rotate_left
  · intro w'
    go_simp
    with_reducible rfl
  rotate_left
  · simp only [Act.put, List.setIfInBounds_toArray, List.set_cons_zero, List.set_cons_succ, i64_w, i32_w]
    rfl
  refine pure_ (i := 5) (N := some 30) (v := ?_) (a' := ?_) #[true, true, true, true, true, true, false, false, false, false, false, false] rfl rfl (any_of HT_.out (by kernel_rfl)) (fun _ _ _ h => h) (Or.inl ⟨by rfl, ?_⟩) ?_ ?_
  rotate_left
  · intro w'
    go_simp
    with_reducible rfl
  rotate_left
  · simp only [Act.put, List.setIfInBounds_toArray, List.set_cons_zero, List.set_cons_succ, i64_w, i32_w]
    rfl
  refine pure_ (i := 6) (N := some 31) (v := ?_) (a' := ?_) #[true, true, true, true, true, true, true, false, false, false, false, false] rfl rfl (any_of HT_.out (by kernel_rfl)) (fun _ _ _ h => h) (Or.inl ⟨by rfl, ?_⟩) ?_ ?_
  rotate_left
  · intro w'
    go_simp
    with_reducible rfl
  rotate_left
  · simp only [Act.put, List.setIfInBounds_toArray, List.set_cons_zero, List.set_cons_succ, i64_w, i32_w]
    rfl
  refine pure_ (i := 7) (N := some 32) (v := ?_) (a' := ?_) #[true, true, true, true, true, true, true, true, false, false, false, false] rfl rfl (any_of HT_.out (by kernel_rfl)) (fun _ _ _ h => h) (Or.inl ⟨by rfl, ?_⟩) ?_ ?_
  rotate_left
  · intro w'
    go_simp
    with_reducible rfl
  rotate_left
  · simp only [Act.put, List.setIfInBounds_toArray, List.set_cons_zero, List.set_cons_succ, i64_w, i32_w]
    rfl
  refine take_ (i := 8) (N := some 33) (v := ?_) (a' := ?_) #[true, true, true, true, true, true, true, true, true, false, false, false] rfl rfl (take_ofW HT_.out HW_.out (by kernel_rfl)) (fun _ _ _ h => h) (Or.inl ⟨by rfl, ?_⟩) hHeld ?_ ?_
  rotate_left
  · intro w' hSt
    obtain ⟨o0, o1, o2⟩ := (HX.out.below hSt).cu
    go_simp
    with_reducible rfl
  rotate_left
  · simp only [Act.put, List.setIfInBounds_toArray, List.set_cons_zero, List.set_cons_succ, i64_w, i32_w]
    rfl
  refine one_ (i := 9) (N := some 34) #[true, true, true, true, true, true, true, true, true, true, false, false] rfl rfl (one_of HT_.out (by kernel_rfl)) (by decide) (fun K hK => ?_)
  refine goes_ Tryd.func13 (by kernel_rfl) rfl #[.slice A3 t.length c3, .slice A2 t.length c2] (by rfl) rfl rfl (by (try simp only [List.map_toArray, List.map_cons, List.map_nil]); first | done | rfl) ?_
  refine (rtsame_calls A3 A2 c3 c2 t t _ (Kd.C_below HC.out hHeld) (HA.out.below hHeld).ht hc3 HA.out.lt HA.out.bt HA.out.bt).mono ?_
  rintro e wk ⟨rfl, hb⟩
  refine ⟨_, rfl, ?_⟩
  rw [show decide (t = t) = true from decide_eq_true rfl]
  have hS1 := below_step hHeld hb
  clear hb
  refine hK.out _ _ (by exact hS1) (fun hHeld => ?_)
  clear hK K
  refine norm_ (a' := ?_) ?_ ?_
  rotate_left
  · first
    | (show Act.put _ (some 34) _ = _; simp only [Act.put, List.setIfInBounds_toArray, List.set_cons_zero, List.set_cons_succ, i64_w, i32_w]; rfl)
    | rfl
  refine pure_ (i := 10) (N := some 35) (v := ?_) (a' := ?_) #[true, true, true, true, true, true, true, true, true, true, true, false] rfl rfl (any_of HT_.out (by kernel_rfl)) (fun _ _ _ h => h) (Or.inl ⟨by rfl, ?_⟩) ?_ ?_
  rotate_left
  · intro w'
    go_simp
    with_reducible rfl
  rotate_left
  · simp only [Act.put, List.setIfInBounds_toArray, List.set_cons_zero, List.set_cons_succ, i64_w, i32_w]
    rfl
  refine pure_ (i := 11) (N := some 36) (v := ?_) (a' := ?_) #[true, true, true, true, true, true, true, true, true, true, true, true] rfl rfl (any_of HT_.out (by kernel_rfl)) (fun _ _ _ h => h) (Or.inl ⟨by rfl, ?_⟩) ?_ ?_
  rotate_left
  · intro w'
    go_simp
    with_reducible rfl
  rotate_left
  · simp only [Act.put, List.setIfInBounds_toArray, List.set_cons_zero, List.set_cons_succ, i64_w, i32_w]
    rfl
  refine done_ (done_of HT_.out (by kernel_rfl)) ?_
  have hb := hHeld
  replace HG1 := Aside0.mk (Sha.heap_keep HG1.out hb)
  replace HB := Aside0.mk (below_step HB.out hb)
  replace HA := Aside0.mk (HA.out.below hb)
  replace HX := Aside0.mk (HX.out.below hb)
  clear hb hHeld hS0 HT_ HW_
  obtain ⟨o0, o1, o2⟩ := HX.out.cu
  go_wp2_with fail
  refine (rmayA_at A c p A2 c2 t f _ HA.out HM.out).mono ?_
  rintro e w7 ⟨rfl, hb⟩
  replace HG1 := Aside0.mk (Sha.heap_keep HG1.out hb)
  replace HB := Aside0.mk (below_step HB.out hb)
  replace HA := Aside0.mk (HA.out.below hb)
  replace HX := Aside0.mk (HX.out.below hb)
  clear hb o0 o1 o2
  go_wp2_with (first | ((with_reducible refine gate_dst (N := 44) rfl ?_); refine wpList_load_g (by rfl) 35 (.tmp 6) rfl g1 rfl 35 (Sha.cb Z) (0, 0) _ HG1.out Tryd.underlying35 rfl (Sha.infoDg Z HL.out) ?_) | ((with_reducible refine gate_dst (N := 45) rfl ?_); refine wpList_build_g (by rfl) 35 _ rfl (some 45) rfl (Sha.cb Z) (Eq.trans (congrArg (Tryd.prog.built 35) (by simp)) HBT.out) ?_))
  refine (known_calls _ HA.out.t6 HA.out.ts).mono ?_
  rintro e wk ⟨rfl, hb⟩
  have HBK := Aside0.mk (below_step HB.out hb)
  clear hb
  go_wp2
  go_ret
  exact ⟨rfl, HBK.out⟩
end Go.Proofs.YtlojemnmdakfiaaDoor.Ac
end
section
namespace Go.Proofs.YtlojemnmdakfiaaDoor.Ac
open Go.RowKit Go.Proofs.YtlojemnmdakfiaaDoorW.PrintWords Go.Proofs.YtlojemnmdakfiaaDoorW.PrintLast Go.Proofs.YtlojemnmdakfiaaDoorW.PrintMore
set_option linter.unusedVariables false
set_option linter.unusedSimpArgs false
open Go.Proofs.YtlojemnmdakfiaaDoor.Prog6 (Ins KP mayP szOk progB)
open Go.Proofs.YtlojemnmdakfiaaDoor.Tr
open Go.Proofs.YtlojemnmdakfiaaDoor.Hand
open Go.Proofs.YtlojemnmdakfiaaDoor.Ref (hk new_calls hsum_calls rroot_calls)
def keyy_T6 : Bool × List (List Nat × List Nat) := (true, [([], []), ([0], [0]), ([], []), ([2, 1], [2]), ([1, 3], [1, 3]), ([4, 3], [4]), ([5], [5]), ([5], [5]), ([7, 5], [5, 7]), ([6, 8, 5, 5], [5, 6, 8]), ([9, 5], [5, 9]), ([5, 10], [5, 10])])
def keyy_B6 : List Nat := [0, 1, 0, 7, 15, 31, 63, 63, 191, 511, 1023, 2047]
theorem keyy_tab6 : rtab .any (opsOf Tryd.f3 6) = keyy_T6 := by kernel_rfl
theorem keyy_bits6 : waitsOk keyy_T6.2 keyy_B6 = true := by kernel_rfl
def keyy_T11 : Bool × List (List Nat × List Nat) := (true, [([], []), ([0], [0]), ([1], [1]), ([2], [2]), ([3, 2], [2, 3]), ([2, 4], [2, 4]), ([5, 2], [5]), ([6], [6]), ([7, 6], [6, 7]), ([6], [6]), ([6], [6]), ([9, 10, 6, 6], [6, 9, 10]), ([11, 6], [6, 11]), ([8, 12, 6], [6, 8, 12]), ([6, 13], [6, 13]), ([14, 11], [14]), ([15], [15]), ([15], [15]), ([15], [15]), ([17, 18, 15, 15], [15, 17, 18]), ([16, 19, 15], [15, 16, 19]), ([15, 20], [15, 20]), ([21, 19], [21]), ([22, 22], [22]), ([22, 23], [22, 23]), ([24, 23, 0, 1, 2, 3, 4, 5, 6, 7, 8, 9, 10, 11, 12, 13, 14, 15, 16, 17, 18, 19, 20, 21, 22, 23, 24], [24])])
def keyy_B11 : List Nat := [0, 1, 3, 7, 15, 31, 63, 127, 255, 127, 127, 1663, 3711, 8191, 16383, 32767, 65535, 65535, 65535, 458751, 1048575, 2097151, 4194303, 8388607, 16777215, 33554431]
theorem keyy_tab11 : rtab .any (opsOf Tryd.f3 11) = keyy_T11 := by kernel_rfl
theorem keyy_bits11 : waitsOk keyy_T11.2 keyy_B11 = true := by kernel_rfl
set_option maxHeartbeats 6400000 in
set_option maxRecDepth 100000 in
theorem keys_yes (A : Option Addr) (c : Nat) (p : List Ins) (A2 : Option Addr) (c2 : Nat) (t : List Fl) (f : Nat) (w : World) (h : Arg w A c p A2 c2 t) (hbig : t.length * 40 ≤ 140737488351232 ∧ ∀ x ∈ t, x.2.length ≤ 140737488351232) (hm : mayA p t f = true) :
    Calls Tryd.prog 3 #[.agg (cA A p.length c A2 t.length c2 f)] w fun e w' => e = .returned (.bool true) ∧ Below w.heap.size w w' := by
  obtain ⟨g, hg⟩ : ∃ g, w.heap.size = g := ⟨_, rfl⟩
  obtain ⟨w1, hw1, hw1h⟩ : ∃ w1, w.alloc (.cells (cA A p.length c A2 t.length c2 (f : Int)) 26) = w1 ∧ w1.heap[w.heap.size]? = some (.cells (cA A p.length c A2 t.length c2 (f : Int)) 26 (0, 0)) := ⟨_, rfl, Sha.heap_new _ _⟩
  have hbb : Below w.heap.size w w1 := by rw [← hw1]; exact (Below.refl _ _).alloc (Nat.le_refl _) _
  rw [hg] at hw1h
  have HX := Aside0.mk (show BoxA w1 g A p.length c A2 t.length c2 f from hw1h)
  have HB := Aside0.mk hbb
  have HA := Aside0.mk (h.below hbb)
  have HM := Aside0.mk hm
  have HBG := Aside0.mk hbig
  obtain ⟨o0, o1, o2⟩ := HX.out.cu
  have HW := Aside0.mk hw1
  have HG := Aside0.mk hg
  clear hw1 hw1h hbb hg h hm hbig
  go_enter Tryd.func3, Tryd.ntmps3
  go_upto_region 1 with (fail)
  rw [HW.out, HG.out]
  go_wp2_with fail
  refine (agreat_calls A c p A2 c2 t f _ HA.out).mono ?_
  rintro e w2 ⟨b, rfl, _, hb⟩
  replace HB := Aside0.mk (below_step HB.out hb)
  replace HA := Aside0.mk (HA.out.below hb)
  replace HX := Aside0.mk (HX.out.below hb)
  clear hb o0 o1 o2 HW
  rcases b with _ | _
  rotate_left
  · go_wp2_with fail
    refine (known_calls _ HA.out.t6 HA.out.ts).mono ?_
    rintro e wk ⟨rfl, hb⟩
    have HBK := Aside0.mk (below_step HB.out hb)
    clear hb
    go_wp2
    go_ret
    exact ⟨rfl, HBK.out⟩
  obtain ⟨o0, o1, o2⟩ := HX.out.cu
  go_wp2_with fail
  refine (rtcopy_calls A2 c2 t _ HA.out.ht HA.out.lt (by have := HBG.out.1; omega) (fun x hx => by have := HBG.out.2 x hx; omega)).mono ?_
  rintro e w3 ⟨v3, rfl, ho, hb⟩
  obtain ⟨A3, c3, rfl, hc3, hr3⟩ := Kd.R_reads ho
  have HC := Aside0.mk hr3
  replace HB := Aside0.mk (below_step HB.out hb)
  replace HA := Aside0.mk (HA.out.below hb)
  replace HX := Aside0.mk (HX.out.below hb)
  clear hb ho hr3 o0 o1 o2
  obtain ⟨o0, o1, o2⟩ := HX.out.cu
  go_wp2_with fail
  refine (abytes_calls A c p A2 c2 t f _ HA.out).mono ?_
  rintro e w4 ⟨X1, n1, k1, r1, rfl, hno, hyes, hb⟩
  obtain ⟨rfl, _, hf1, hn1, hk1, hC1⟩ := hyes HM.out
  rw [Int.toNat_natCast] at hn1 hC1
  have HC1 := Aside0.mk hC1
  replace HC := Aside0.mk (Kd.C_below HC.out hb)
  replace HB := Aside0.mk (below_step HB.out hb)
  replace HA := Aside0.mk (HA.out.below hb)
  replace HX := Aside0.mk (HX.out.below hb)
  clear hb hno hyes hC1 o0 o1 o2
  obtain ⟨o0, o1, o2⟩ := HX.out.cu
  obtain ⟨x, hx⟩ : ∃ x, actB p t f = x := ⟨_, rfl⟩
  rw [hx] at HC1 hn1
  have HSX := Aside0.mk hx
  clear hx
  subst hn1
  go_wp2_with fail
  obtain ⟨D, hD⟩ : ∃ D, Sha.shaI (16 :: actB p t f) = D := ⟨_, rfl⟩
  have HKD := Aside0.mk hD
  have HL := Aside0.mk (show D.length = 32 by rw [← hD]; exact Sha.shaI_len _)
  have hky := akey_yes A c p A2 c2 t f w4 HA.out HM.out
  rw [hD] at hky
  refine hky.mono ?_
  clear hky hD
  rintro e w5 ⟨rfl, hb⟩
  replace HC1 := Aside0.mk (Kd.C_below HC1.out hb)
  replace HC := Aside0.mk (Kd.C_below HC.out hb)
  replace HB := Aside0.mk (below_step HB.out hb)
  replace HA := Aside0.mk (HA.out.below hb)
  replace HX := Aside0.mk (HX.out.below hb)
  clear hb o0 o1 o2
  have heq : ∀ w : World, (Op.equalIn 10000 35 (.agg (Sha.cb D)) (Sha.vd D)).run Tryd.prog w = .ok true w := fun w => by
    have := Sha.eqD HL.out HL.out w
    rw [decide_eq_true rfl] at this
    exact this
  go_upto_region 6 with (first | (refine wpList_store_row rfl 35 (.tmp 6) (.tmp 23) rfl w5.heap.size (Sha.cb D) rfl rfl 35 _ (Sha.heap_new _ _) (Sha.infoDg _ HL.out) (by rw [Sha.cb_size, HL.out]; rfl) (Sha.cb_one _) ?_))
  obtain ⟨wz, hwz, HBz, HDz, HZz⟩ := Sha.dg_start w5
  rw [hwz]
  have hdg := setRow_heap _ _ _ (Sha.cb D) _ _ HDz.out
  have hb := below_setRow HBz.out (Nat.le_refl _) (Sha.cb D)
  obtain ⟨w6, hwq⟩ : ∃ wq, wz.setRow w5.heap.size (Sha.cb D) = wq := ⟨_, rfl⟩
  rw [hwq] at hdg hb ⊢
  have HG1 := Aside0.mk hdg
  replace HC := Aside0.mk (Kd.C_below HC.out hb)
  replace HC1 := Aside0.mk (Kd.C_below HC1.out hb)
  replace HB := Aside0.mk (below_step HB.out hb)
  replace HA := Aside0.mk (HA.out.below hb)
  replace HX := Aside0.mk (HX.out.below hb)
  clear hwz hdg hb hwq HBz HDz HZz
  generalize w5.heap.size = g1 at HG1 ⊢
  have hS0 : Below w6.heap.size w6 w6.drew := below_drew1 (Below.refl _ _)
  refine start_ (n := 12) (S := fun w' => Below w6.heap.size w6 w') (ds := []) #[false, false, false, false, false, false, false, false, false, false, false, false] (by kernel_rfl) rfl rfl (by exact hS0) (fun hHeld => ?_)
  refine with_tabW keyy_tab6 keyy_bits6 (fun HT_ HW_ => ?_)
  generalize w6.drew = wq at hHeld hS0 ⊢
  refine take_ (i := 0) (N := some 25) (v := ?_) (a' := ?_) #[true, false, false, false, false, false, false, false, false, false, false, false] rfl rfl (take_ofW HT_.out HW_.out (by kernel_rfl)) (fun _ _ _ h => h) (Or.inl ⟨by rfl, ?_⟩) hHeld ?_ ?_
  rotate_left
  · intro w' hSt
    obtain ⟨o0, o1, o2⟩ := (HX.out.below hSt).cu
    go_simp
    with_reducible rfl
  rotate_left
  · simp only [Act.put, List.setIfInBounds_toArray, List.set_cons_zero, List.set_cons_succ, i64_w, i32_w]
    rfl
  refine take_ (i := 2) (N := some 27) (v := ?_) (a' := ?_) #[true, false, true, false, false, false, false, false, false, false, false, false] rfl rfl (take_ofW HT_.out HW_.out (by kernel_rfl)) (fun _ _ _ h => h) (Or.inl ⟨by rfl, ?_⟩) hHeld ?_ ?_
  rotate_left
  · intro w' hSt
    obtain ⟨o0, o1, o2⟩ := (HX.out.below hSt).cu
    go_simp
    with_reducible rfl
  rotate_left
  · simp only [Act.put, List.setIfInBounds_toArray, List.set_cons_zero, List.set_cons_succ, i64_w, i32_w]
    rfl
  refine one_ (i := 1) (N := some 26) #[true, true, true, false, false, false, false, false, false, false, false, false] rfl rfl (one_of HT_.out (by kernel_rfl)) (by decide) (fun K hK => ?_)
  refine goes_ Tryd.func11 (by kernel_rfl) rfl #[.agg (cA A p.length c A2 t.length c2 (f : Int))] (by rfl) rfl rfl (by (try simp only [List.map_toArray, List.map_cons, List.map_nil]); first | done | rfl) ?_
  refine (amay_at A c p A2 c2 t f _ (HA.out.below hHeld) HM.out).mono ?_
  rintro e wk ⟨rfl, hb⟩
  refine ⟨_, rfl, ?_⟩
  have hS1 := below_step hHeld hb
  clear hb
  refine hK.out _ _ (by exact hS1) (fun hHeld => ?_)
  clear hK K
  refine norm_ (a' := ?_) ?_ ?_
  rotate_left
  · first
    | (show Act.put _ (some 26) _ = _; simp only [Act.put, List.setIfInBounds_toArray, List.set_cons_zero, List.set_cons_succ, i64_w, i32_w]; rfl)
    | rfl
  refine one_ (i := 3) (N := some 28) #[true, true, true, true, false, false, false, false, false, false, false, false] rfl rfl (one_of HT_.out (by kernel_rfl)) (by decide) (fun K hK => ?_)
  refine goes_ Tryd.func12 (by kernel_rfl) rfl #[.agg (cA A p.length c A2 t.length c2 (f : Int))] (by rfl) rfl rfl (by (try simp only [List.map_toArray, List.map_cons, List.map_nil]); first | done | rfl) ?_
  refine (rmayA_at A c p A2 c2 t f _ (HA.out.below hHeld) HM.out).mono ?_
  rintro e wk ⟨rfl, hb⟩
  refine ⟨_, rfl, ?_⟩
  have hS1 := below_step hHeld hb
  clear hb
  refine hK.out _ _ (by exact hS1) (fun hHeld => ?_)
  clear hK K
  refine norm_ (a' := ?_) ?_ ?_
  rotate_left
  · first
    | (show Act.put _ (some 28) _ = _; simp only [Act.put, List.setIfInBounds_toArray, List.set_cons_zero, List.set_cons_succ, i64_w, i32_w]; rfl)
    | rfl
  refine pure_ (i := 4) (N := some 29) (v := ?_) (a' := ?_) #[true, true, true, true, true, false, false, false, false, false, false, false] rfl rfl (any_of HT_.out (by kernel_rfl)) (fun _ _ _ h => h) (Or.inl ⟨by rfl, ?_⟩) ?_ ?_
  rotate_left
  · intro w'
    go_simp
    with_reducible rfl
  rotate_left
  · simp only [Act.put, List.setIfInBounds_toArray, List.set_cons_zero, List.set_cons_succ, i64_w, i32_w]
    rfl
  refine pure_ (i := 5) (N := some 30) (v := ?_) (a' := ?_) #[true, true, true, true, true, true, false, false, false, false, false, false] rfl rfl (any_of HT_.out (by kernel_rfl)) (fun _ _ _ h => h) (Or.inl ⟨by rfl, ?_⟩) ?_ ?_
  rotate_left
  · intro w'
    go_simp
    with_reducible rfl
  rotate_left
  · simp only [Act.put, List.setIfInBounds_toArray, List.set_cons_zero, List.set_cons_succ, i64_w, i32_w]
    rfl
  refine pure_ (i := 6) (N := some 31) (v := ?_) (a' := ?_) #[true, true, true, true, true, true, true, false, false, false, false, false] rfl rfl (any_of HT_.out (by kernel_rfl)) (fun _ _ _ h => h) (Or.inl ⟨by rfl, ?_⟩) ?_ ?_
  rotate_left
  · intro w'
    go_simp
    with_reducible rfl
  rotate_left
  · simp only [Act.put, List.setIfInBounds_toArray, List.set_cons_zero, List.set_cons_succ, i64_w, i32_w]
    rfl
  refine pure_ (i := 7) (N := some 32) (v := ?_) (a' := ?_) #[true, true, true, true, true, true, true, true, false, false, false, false] rfl rfl (any_of HT_.out (by kernel_rfl)) (fun _ _ _ h => h) (Or.inl ⟨by rfl, ?_⟩) ?_ ?_
  rotate_left
  · intro w'
    go_simp
    with_reducible rfl
  rotate_left
  · simp only [Act.put, List.setIfInBounds_toArray, List.set_cons_zero, List.set_cons_succ, i64_w, i32_w]
    rfl
  refine take_ (i := 8) (N := some 33) (v := ?_) (a' := ?_) #[true, true, true, true, true, true, true, true, true, false, false, false] rfl rfl (take_ofW HT_.out HW_.out (by kernel_rfl)) (fun _ _ _ h => h) (Or.inl ⟨by rfl, ?_⟩) hHeld ?_ ?_
  rotate_left
  · intro w' hSt
    obtain ⟨o0, o1, o2⟩ := (HX.out.below hSt).cu
    go_simp
    with_reducible rfl
  rotate_left
  · simp only [Act.put, List.setIfInBounds_toArray, List.set_cons_zero, List.set_cons_succ, i64_w, i32_w]
    rfl
  refine one_ (i := 9) (N := some 34) #[true, true, true, true, true, true, true, true, true, true, false, false] rfl rfl (one_of HT_.out (by kernel_rfl)) (by decide) (fun K hK => ?_)
  refine goes_ Tryd.func13 (by kernel_rfl) rfl #[.slice A3 t.length c3, .slice A2 t.length c2] (by rfl) rfl rfl (by (try simp only [List.map_toArray, List.map_cons, List.map_nil]); first | done | rfl) ?_
  refine (rtsame_calls A3 A2 c3 c2 t t _ (Kd.C_below HC.out hHeld) (HA.out.below hHeld).ht hc3 HA.out.lt HA.out.bt HA.out.bt).mono ?_
  rintro e wk ⟨rfl, hb⟩
  refine ⟨_, rfl, ?_⟩
  rw [show decide (t = t) = true from decide_eq_true rfl]
  have hS1 := below_step hHeld hb
  clear hb
  refine hK.out _ _ (by exact hS1) (fun hHeld => ?_)
  clear hK K
  refine norm_ (a' := ?_) ?_ ?_
  rotate_left
  · first
    | (show Act.put _ (some 34) _ = _; simp only [Act.put, List.setIfInBounds_toArray, List.set_cons_zero, List.set_cons_succ, i64_w, i32_w]; rfl)
    | rfl
  refine pure_ (i := 10) (N := some 35) (v := ?_) (a' := ?_) #[true, true, true, true, true, true, true, true, true, true, true, false] rfl rfl (any_of HT_.out (by kernel_rfl)) (fun _ _ _ h => h) (Or.inl ⟨by rfl, ?_⟩) ?_ ?_
  rotate_left
  · intro w'
    go_simp
    with_reducible rfl
  rotate_left
  · simp only [Act.put, List.setIfInBounds_toArray, List.set_cons_zero, List.set_cons_succ, i64_w, i32_w]
    rfl
  refine pure_ (i := 11) (N := some 36) (v := ?_) (a' := ?_) #[true, true, true, true, true, true, true, true, true, true, true, true] rfl rfl (any_of HT_.out (by kernel_rfl)) (fun _ _ _ h => h) (Or.inl ⟨by rfl, ?_⟩) ?_ ?_
  rotate_left
  · intro w'
    go_simp
    with_reducible rfl
  rotate_left
  · simp only [Act.put, List.setIfInBounds_toArray, List.set_cons_zero, List.set_cons_succ, i64_w, i32_w]
    rfl
  refine done_ (done_of HT_.out (by kernel_rfl)) ?_
  have hb := hHeld
  replace HG1 := Aside0.mk (Sha.heap_keep HG1.out hb)
  replace HC1 := Aside0.mk (Kd.C_below HC1.out hb)
  replace HB := Aside0.mk (below_step HB.out hb)
  replace HA := Aside0.mk (HA.out.below hb)
  replace HX := Aside0.mk (HX.out.below hb)
  clear hb hHeld hS0 HT_ HW_
  obtain ⟨o0, o1, o2⟩ := HX.out.cu
  go_wp2_with fail
  refine (rmayA_at A c p A2 c2 t f _ HA.out HM.out).mono ?_
  rintro e w7 ⟨rfl, hb⟩
  replace HG1 := Aside0.mk (Sha.heap_keep HG1.out hb)
  replace HC1 := Aside0.mk (Kd.C_below HC1.out hb)
  replace HB := Aside0.mk (below_step HB.out hb)
  replace HA := Aside0.mk (HA.out.below hb)
  replace HX := Aside0.mk (HX.out.below hb)
  clear hb o0 o1 o2
  go_wp2_with fail
  refine (new_calls _).mono ?_
  rintro e w9 ⟨gh, rfl, _, hgk, hb⟩
  have HGK := Aside0.mk hgk
  replace HG1 := Aside0.mk (Sha.heap_keep HG1.out hb)
  replace HC1 := Aside0.mk (Kd.C_below HC1.out hb)
  replace HB := Aside0.mk (below_step HB.out hb)
  replace HA := Aside0.mk (HA.out.below hb)
  replace HX := Aside0.mk (HX.out.below hb)
  clear hb hgk
  go_upto_region 11 with (fail)
  have hS0 : Below w9.heap.size w9 w9.drew := below_drew1 (Below.refl _ _)
  refine start_ (n := 26) (S := fun w' => Below w9.heap.size w9 w') (ds := []) #[false, false, false, false, false, false, false, false, false, false, false, false, false, false, false, false, false, false, false, false, false, false, false, false, false, false] (by kernel_rfl) rfl rfl (by exact hS0) (fun hHeld => ?_)
  refine with_tabW keyy_tab11 keyy_bits11 (fun HT_ HW_ => ?_)
  generalize w9.drew = wq at hHeld hS0 ⊢
  refine pure_ (i := 0) (N := some 60) (v := ?_) (a' := ?_) #[true, false, false, false, false, false, false, false, false, false, false, false, false, false, false, false, false, false, false, false, false, false, false, false, false, false] rfl rfl (any_of HT_.out (by kernel_rfl)) (fun _ _ _ h => h) (Or.inl ⟨by rfl, ?_⟩) ?_ ?_
  rotate_left
  · intro w'
    go_simp
    with_reducible rfl
  rotate_left
  · simp only [Act.put, List.setIfInBounds_toArray, List.set_cons_zero, List.set_cons_succ, i64_w, i32_w]
    rfl
  refine pure_ (i := 1) (N := some 61) (v := ?_) (a' := ?_) #[true, true, false, false, false, false, false, false, false, false, false, false, false, false, false, false, false, false, false, false, false, false, false, false, false, false] rfl rfl (any_of HT_.out (by kernel_rfl)) (fun _ _ _ h => h) (Or.inl ⟨by rfl, ?_⟩) ?_ ?_
  rotate_left
  · intro w'
    go_simp
    with_reducible rfl
  rotate_left
  · simp only [Act.put, List.setIfInBounds_toArray, List.set_cons_zero, List.set_cons_succ, i64_w, i32_w]
    rfl
  refine pure_ (i := 2) (N := some 62) (v := ?_) (a' := ?_) #[true, true, true, false, false, false, false, false, false, false, false, false, false, false, false, false, false, false, false, false, false, false, false, false, false, false] rfl rfl (any_of HT_.out (by kernel_rfl)) (fun _ _ _ h => h) (Or.inl ⟨by rfl, ?_⟩) ?_ ?_
  rotate_left
  · intro w'
    go_simp
    with_reducible rfl
  rotate_left
  · simp only [Act.put, List.setIfInBounds_toArray, List.set_cons_zero, List.set_cons_succ, i64_w, i32_w]
    rfl
  refine pure_ (i := 3) (N := some 63) (v := ?_) (a' := ?_) #[true, true, true, true, false, false, false, false, false, false, false, false, false, false, false, false, false, false, false, false, false, false, false, false, false, false] rfl rfl (any_of HT_.out (by kernel_rfl)) (fun _ _ _ h => h) (Or.inl ⟨by rfl, ?_⟩) ?_ ?_
  rotate_left
  · intro w'
    go_simp
    with_reducible rfl
  rotate_left
  · simp only [Act.put, List.setIfInBounds_toArray, List.set_cons_zero, List.set_cons_succ, i64_w, i32_w]
    rfl
  refine pure_ (i := 4) (N := some 64) (v := ?_) (a' := ?_) #[true, true, true, true, true, false, false, false, false, false, false, false, false, false, false, false, false, false, false, false, false, false, false, false, false, false] rfl rfl (any_of HT_.out (by kernel_rfl)) (fun _ _ _ h => h) (Or.inl ⟨by rfl, ?_⟩) ?_ ?_
  rotate_left
  · intro w'
    go_simp
    with_reducible rfl
  rotate_left
  · simp only [Act.put, List.setIfInBounds_toArray, List.set_cons_zero, List.set_cons_succ, i64_w, i32_w]
    rfl
  refine pure_ (i := 5) (N := some 65) (v := ?_) (a' := ?_) #[true, true, true, true, true, true, false, false, false, false, false, false, false, false, false, false, false, false, false, false, false, false, false, false, false, false] rfl rfl (any_of HT_.out (by kernel_rfl)) (fun _ _ _ h => h) (Or.inl ⟨by rfl, ?_⟩) ?_ ?_
  rotate_left
  · intro w'
    go_simp
    with_reducible rfl
  rotate_left
  · simp only [Act.put, List.setIfInBounds_toArray, List.set_cons_zero, List.set_cons_succ, i64_w, i32_w]
    rfl
  refine pure_ (i := 6) (N := some 66) (v := ?_) (a' := ?_) #[true, true, true, true, true, true, true, false, false, false, false, false, false, false, false, false, false, false, false, false, false, false, false, false, false, false] rfl rfl (any_of HT_.out (by kernel_rfl)) (fun _ _ _ h => h) (Or.inl ⟨by rfl, ?_⟩) ?_ ?_
  rotate_left
  · intro w'
    go_simp
    with_reducible rfl
  rotate_left
  · simp only [Act.put, List.setIfInBounds_toArray, List.set_cons_zero, List.set_cons_succ, i64_w, i32_w]
    rfl
  refine pure_ (i := 7) (N := some 67) (v := ?_) (a' := ?_) #[true, true, true, true, true, true, true, true, false, false, false, false, false, false, false, false, false, false, false, false, false, false, false, false, false, false] rfl rfl (any_of HT_.out (by kernel_rfl)) (fun _ _ _ h => h) (Or.inl ⟨by rfl, ?_⟩) ?_ ?_
  rotate_left
  · intro w'
    go_simp
    with_reducible rfl
  rotate_left
  · simp only [Act.put, List.setIfInBounds_toArray, List.set_cons_zero, List.set_cons_succ, i64_w, i32_w]
    rfl
  refine pure_ (i := 9) (N := some 69) (v := ?_) (a' := ?_) #[true, true, true, true, true, true, true, true, false, true, false, false, false, false, false, false, false, false, false, false, false, false, false, false, false, false] rfl rfl (any_of HT_.out (by kernel_rfl)) (fun _ _ _ h => h) (Or.inl ⟨by rfl, ?_⟩) ?_ ?_
  rotate_left
  · intro w'
    go_simp
    with_reducible rfl
  rotate_left
  · simp only [Act.put, List.setIfInBounds_toArray, List.set_cons_zero, List.set_cons_succ, i64_w, i32_w]
    rfl
  refine take_ (i := 8) (N := some 68) (v := ?_) (a' := ?_) #[true, true, true, true, true, true, true, true, true, true, false, false, false, false, false, false, false, false, false, false, false, false, false, false, false, false] rfl rfl (take_ofW HT_.out HW_.out (by kernel_rfl)) (fun _ _ _ h => h) (Or.inl ⟨by rfl, ?_⟩) hHeld ?_ ?_
  rotate_left
  · intro w' hSt
    have hcv : (convert 30 9 (.slice X1 x.length k1)).run Tryd.prog w' = .ok (.string (strOfNums x)) w' := Kd.C_string Tryd.underlying30 Tryd.underlying5 Tryd.underlying9 (Kd.C_below HC1.out hSt)
    go_simp
    with_reducible rfl
  rotate_left
  · simp only [Act.put, List.setIfInBounds_toArray, List.set_cons_zero, List.set_cons_succ, i64_w, i32_w]
    rfl
  refine take_ (i := 10) (N := some 70) (v := ?_) (a' := ?_) #[true, true, true, true, true, true, true, true, true, true, true, false, false, false, false, false, false, false, false, false, false, false, false, false, false, false] rfl rfl (take_ofW HT_.out HW_.out (by kernel_rfl)) (fun _ _ _ h => h) (Or.inl ⟨by rfl, ?_⟩) hHeld ?_ ?_
  rotate_left
  · intro w' hSt
    obtain ⟨o0, o1, o2⟩ := (HX.out.below hSt).cu
    go_simp
    with_reducible rfl
  rotate_left
  · simp only [Act.put, List.setIfInBounds_toArray, List.set_cons_zero, List.set_cons_succ, i64_w, i32_w]
    rfl
  refine one_ (i := 11) (N := some 71) #[true, true, true, true, true, true, true, true, true, true, true, true, false, false, false, false, false, false, false, false, false, false, false, false, false, false] rfl rfl (one_of HT_.out (by kernel_rfl)) (by decide) (fun K hK => ?_)
  refine goes_ Tryd.func15 (by kernel_rfl) rfl #[.pointer (some ⟨gh, 0, none⟩), .agg (cA A p.length c A2 t.length c2 (f : Int))] (by rfl) rfl rfl (by (try simp only [List.map_toArray, List.map_cons, List.map_nil]); first | done | rfl) ?_
  refine (rabytes_calls gh A c p A2 c2 t f _ (Sha.heap_keep HGK.out hHeld) (HA.out.below hHeld) HM.out).mono ?_
  rintro e w12 ⟨v, rfl, ho, hb⟩
  refine ⟨_, rfl, ?_⟩
  have hS1 := below_step hHeld hb
  rw [HSX.out] at ho
  obtain ⟨AQ, cQ, rfl, hcQ, hrQ⟩ := Kd.R_reads ho
  have HQ1 := Aside0.mk hrQ
  have HS12 := Aside0.mk hS1
  clear ho hb hrQ
  refine hK.out _ _ (by exact hS1) (fun hHeld => ?_)
  clear hK K
  refine norm_ (a' := ?_) ?_ ?_
  rotate_left
  · first
    | (show Act.put _ (some 71) _ = _; simp only [Act.put, List.setIfInBounds_toArray, List.set_cons_zero, List.set_cons_succ, i64_w, i32_w]; rfl)
    | rfl
  refine one_ (i := 12) (N := some 72) #[true, true, true, true, true, true, true, true, true, true, true, true, true, false, false, false, false, false, false, false, false, false, false, false, false, false] rfl rfl (one_of HT_.out (by kernel_rfl)) (by decide) (fun K hK => ?_)
  refine value_ (v := .string (strOfNums x)) (w1 := w12) (by rfl) rfl ?_ ?_
  · have h8 : (convert 30 9 (.slice AQ x.length cQ)).run Tryd.prog w12 = .ok (.string (strOfNums x)) w12 := Kd.C_string Tryd.underlying30 Tryd.underlying5 Tryd.underlying9 HQ1.out
    go_simp
  have hS1 := HS12.out
  refine hK.out _ _ (by exact hS1) (fun hHeld => ?_)
  clear hK K
  refine norm_ (a' := ?_) ?_ ?_
  rotate_left
  · first
    | (show Act.put _ (some 72) _ = _; simp only [Act.put, List.setIfInBounds_toArray, List.set_cons_zero, List.set_cons_succ, i64_w, i32_w]; rfl)
    | rfl
  refine pure_ (i := 13) (N := some 73) (v := ?_) (a' := ?_) #[true, true, true, true, true, true, true, true, true, true, true, true, true, true, false, false, false, false, false, false, false, false, false, false, false, false] rfl rfl (any_of HT_.out (by kernel_rfl)) (fun _ _ _ h => h) (Or.inl ⟨by rfl, ?_⟩) ?_ ?_
  rotate_left
  · intro w'
    go_simp
    with_reducible rfl
  rotate_left
  · simp only [Act.put, List.setIfInBounds_toArray, List.set_cons_zero, List.set_cons_succ, i64_w, i32_w]
    rfl
  refine pure_ (i := 14) (N := some 74) (v := ?_) (a' := ?_) #[true, true, true, true, true, true, true, true, true, true, true, true, true, true, true, false, false, false, false, false, false, false, false, false, false, false] rfl rfl (any_of HT_.out (by kernel_rfl)) (fun _ _ _ h => h) (Or.inl ⟨by rfl, ?_⟩) ?_ ?_
  rotate_left
  · intro w'
    go_simp
    with_reducible rfl
  rotate_left
  · simp only [Act.put, List.setIfInBounds_toArray, List.set_cons_zero, List.set_cons_succ, i64_w, i32_w]
    rfl
  refine pure_ (i := 15) (N := some 75) (v := ?_) (a' := ?_) #[true, true, true, true, true, true, true, true, true, true, true, true, true, true, true, true, false, false, false, false, false, false, false, false, false, false] rfl rfl (any_of HT_.out (by kernel_rfl)) (fun _ _ _ h => h) (Or.inl ⟨by rfl, ?_⟩) ?_ ?_
  rotate_left
  · intro w'
    go_simp
    with_reducible rfl
  rotate_left
  · simp only [Act.put, List.setIfInBounds_toArray, List.set_cons_zero, List.set_cons_succ, i64_w, i32_w]
    rfl
  refine pure_ (i := 17) (N := some 77) (v := ?_) (a' := ?_) #[true, true, true, true, true, true, true, true, true, true, true, true, true, true, true, true, false, true, false, false, false, false, false, false, false, false] rfl rfl (any_of HT_.out (by kernel_rfl)) (fun _ _ _ h => h) (Or.inl ⟨by rfl, ?_⟩) ?_ ?_
  rotate_left
  · intro w'
    go_simp
    with_reducible rfl
  rotate_left
  · simp only [Act.put, List.setIfInBounds_toArray, List.set_cons_zero, List.set_cons_succ, i64_w, i32_w]
    rfl
  refine take_ (i := 16) (N := some 76) (v := ?_) (a' := ?_) #[true, true, true, true, true, true, true, true, true, true, true, true, true, true, true, true, true, true, false, false, false, false, false, false, false, false] rfl rfl (take_ofW HT_.out HW_.out (by kernel_rfl)) (fun _ _ _ h => h) (Or.inl ⟨by rfl, ?_⟩) hHeld ?_ ?_
  rotate_left
  · intro w' hSt
    refine (Sha.exec_load (p := .pointer (some ⟨g1, 0, none⟩)) rfl rfl (Sha.loadRow_take _ _ _ (Sha.cb D) _ (Sha.heap_keep HG1.out hSt) Tryd.underlying35 rfl (Sha.infoDg _ HL.out))).trans ?_
    rfl
  rotate_left
  · simp only [Act.put, List.setIfInBounds_toArray, List.set_cons_zero, List.set_cons_succ, i64_w, i32_w]
    rfl
  refine take_ (i := 18) (N := some 78) (v := ?_) (a' := ?_) #[true, true, true, true, true, true, true, true, true, true, true, true, true, true, true, true, true, true, true, false, false, false, false, false, false, false] rfl rfl (take_ofW HT_.out HW_.out (by kernel_rfl)) (fun _ _ _ h => h) (Or.inl ⟨by rfl, ?_⟩) hHeld ?_ ?_
  rotate_left
  · intro w' hSt
    obtain ⟨o0, o1, o2⟩ := (HX.out.below hSt).cu
    go_simp
    with_reducible rfl
  rotate_left
  · simp only [Act.put, List.setIfInBounds_toArray, List.set_cons_zero, List.set_cons_succ, i64_w, i32_w]
    rfl
  refine one_ (i := 19) (N := some 79) #[true, true, true, true, true, true, true, true, true, true, true, true, true, true, true, true, true, true, true, true, false, false, false, false, false, false] rfl rfl (one_of HT_.out (by kernel_rfl)) (by decide) (fun K hK => ?_)
  refine goes_ Tryd.func16 (by kernel_rfl) rfl #[.pointer (some ⟨gh, 0, none⟩), .agg (cA A p.length c A2 t.length c2 (f : Int))] (by rfl) rfl rfl (by (try simp only [List.map_toArray, List.map_cons, List.map_nil]); first | done | rfl) ?_
  refine (rakey_calls gh A c p A2 c2 t f _ (Sha.heap_keep HGK.out hHeld) (HA.out.below hHeld) HM.out HKD.out).mono ?_
  rintro e w13 ⟨rfl, hb⟩
  refine ⟨_, rfl, ?_⟩
  have hS1 := below_step hHeld hb
  clear hb
  refine hK.out _ _ (by exact hS1) (fun hHeld => ?_)
  clear hK K
  refine norm_ (a' := ?_) ?_ ?_
  rotate_left
  · first
    | (show Act.put _ (some 79) _ = _; simp only [Act.put, List.setIfInBounds_toArray, List.set_cons_zero, List.set_cons_succ, i64_w, i32_w]; rfl)
    | rfl
  refine pure_ (i := 20) (N := some 80) (v := ?_) (a' := ?_) #[true, true, true, true, true, true, true, true, true, true, true, true, true, true, true, true, true, true, true, true, true, false, false, false, false, false] rfl rfl (any_of HT_.out (by kernel_rfl)) (fun _ _ _ h => h) (Or.inl ⟨by rfl, ?_⟩) ?_ ?_
  rotate_left
  · intro w'
    go_simp
    with_reducible rfl
  rotate_left
  · simp only [Act.put, List.setIfInBounds_toArray, List.set_cons_zero, List.set_cons_succ, i64_w, i32_w]
    rfl
  refine pure_ (i := 21) (N := some 81) (v := ?_) (a' := ?_) #[true, true, true, true, true, true, true, true, true, true, true, true, true, true, true, true, true, true, true, true, true, true, false, false, false, false] rfl rfl (any_of HT_.out (by kernel_rfl)) (fun _ _ _ h => h) (Or.inl ⟨by rfl, ?_⟩) ?_ ?_
  rotate_left
  · intro w'
    go_simp
    with_reducible rfl
  rotate_left
  · simp only [Act.put, List.setIfInBounds_toArray, List.set_cons_zero, List.set_cons_succ, i64_w, i32_w]
    rfl
  refine pure_ (i := 22) (N := some 82) (v := ?_) (a' := ?_) #[true, true, true, true, true, true, true, true, true, true, true, true, true, true, true, true, true, true, true, true, true, true, true, false, false, false] rfl rfl (any_of HT_.out (by kernel_rfl)) (fun _ _ _ h => h) (Or.inl ⟨by rfl, ?_⟩) ?_ ?_
  rotate_left
  · intro w'
    go_simp
    with_reducible rfl
  rotate_left
  · simp only [Act.put, List.setIfInBounds_toArray, List.set_cons_zero, List.set_cons_succ, i64_w, i32_w]
    rfl
  refine one_ (i := 23) (N := some 83) #[true, true, true, true, true, true, true, true, true, true, true, true, true, true, true, true, true, true, true, true, true, true, true, true, false, false] rfl rfl (one_of HT_.out (by kernel_rfl)) (by decide) (fun K hK => ?_)
  refine goes_ Tryd.func7 (by kernel_rfl) rfl #[] (by rfl) rfl rfl (by (try simp only [List.map_toArray, List.map_cons, List.map_nil]); first | done | rfl) ?_
  refine (known_calls _ (HA.out.below hHeld).t6 (HA.out.below hHeld).ts).mono ?_
  rintro e wk ⟨rfl, hb⟩
  refine ⟨_, rfl, ?_⟩
  have hS1 := below_step hHeld hb
  clear hb
  refine hK.out _ _ (by exact hS1) (fun hHeld => ?_)
  clear hK K
  refine norm_ (a' := ?_) ?_ ?_
  rotate_left
  · first
    | (show Act.put _ (some 83) _ = _; simp only [Act.put, List.setIfInBounds_toArray, List.set_cons_zero, List.set_cons_succ, i64_w, i32_w]; rfl)
    | rfl
  refine pure_ (i := 24) (N := some 84) (v := ?_) (a' := ?_) #[true, true, true, true, true, true, true, true, true, true, true, true, true, true, true, true, true, true, true, true, true, true, true, true, true, false] rfl rfl (any_of HT_.out (by kernel_rfl)) (fun _ _ _ h => h) (Or.inl ⟨by rfl, ?_⟩) ?_ ?_
  rotate_left
  · intro w'
    go_simp
    with_reducible rfl
  rotate_left
  · simp only [Act.put, List.setIfInBounds_toArray, List.set_cons_zero, List.set_cons_succ, i64_w, i32_w]
    rfl
  refine pure_ (i := 25) (N := some 2) (v := ?_) (a' := ?_) #[true, true, true, true, true, true, true, true, true, true, true, true, true, true, true, true, true, true, true, true, true, true, true, true, true, true] rfl rfl (any_of HT_.out (by kernel_rfl)) (fun _ _ _ h => h) (Or.inl ⟨by rfl, ?_⟩) ?_ ?_
  rotate_left
  · intro w'
    go_simp
    with_reducible rfl
  rotate_left
  · simp only [Act.put, List.setIfInBounds_toArray, List.set_cons_zero, List.set_cons_succ, i64_w, i32_w]
    rfl
  refine done_ (done_of HT_.out (by kernel_rfl)) ?_
  have HBK := Aside0.mk (below_step HB.out hHeld)
  go_wp2
  go_ret
  exact ⟨rfl, HBK.out⟩
theorem keys_calls (A : Option Addr) (c : Nat) (p : List Ins) (A2 : Option Addr) (c2 : Nat) (t : List Fl) (f : Int) (w : World) (h : Arg w A c p A2 c2 t) (hbig : t.length * 40 ≤ 140737488351232 ∧ ∀ x ∈ t, x.2.length ≤ 140737488351232) :
    Calls Tryd.prog 3 #[.agg (cA A p.length c A2 t.length c2 f)] w fun e w' => e = .returned (.bool true) ∧ Below w.heap.size w w' := by
  rcases hm : mayA p t f with _ | _
  · exact keys_no A c p A2 c2 t f w h hbig hm
  · obtain ⟨_, _, h0, _⟩ := may_parts hm
    obtain ⟨n, rfl⟩ := Int.eq_ofNat_of_zero_le h0
    exact keys_yes A c p A2 c2 t n w h hbig hm
end Go.Proofs.YtlojemnmdakfiaaDoor.Ac
end
section
namespace Go.Proofs.YtlojemnmdakfiaaDoor.Open
open Go.RowKit Go.Proofs.YtlojemnmdakfiaaDoorW.PrintWords Go.ChangeShapes Go.Deep
open Go.Proofs.YtlojemnmdakfiaaDoor.Prog6 (Ins KP)
open Go.Proofs.YtlojemnmdakfiaaDoor.Tr (Fl KF)
set_option linter.unusedVariables false
set_option linter.unusedSimpArgs false
set_option maxRecDepth 100000
structure OpnW {α : Type} (P : Program) (t : TypeId) (K : Kd α) (ok wok : α → Prop) : Prop where
  opn : ∀ {H : Type} {enc : TypeId × Value → H} {w : World} {base : Nat} {spare : Nat → Bool} {held : Bool} {fuel : Nat} {cs : List Value} {d : DataW H} {ps : List MemPlace},
    DataW.trod enc P w base spare held fuel t cs = some (d, ps) → (∀ q ∈ d.weights P t, q ≤ reachBytes) → ∃ x, K.K w x cs ∧ ok x ∧ wok x
theorem OpnW.of {α : Type} {P : Program} {t : TypeId} {K : Kd α} {ok : α → Prop} {blk : α → Nat} (h : Opn P t K ok blk) : OpnW P t K ok (fun _ => True) := ⟨fun h1 _ => by
  obtain ⟨x, a, b, _⟩ := h.opn h1
  exact ⟨x, a, b, trivial⟩⟩
theorem all_mem {H : Type} {P : Program} {e : TypeId} : ∀ (l : List (DataW H)) (d : DataW H), d ∈ l → ∀ q ∈ d.weights P e, q ∈ DataW.weightsAll P e l
  | [], _, h, _, _ => by cases h
  | x :: r, d, h, q, hq => by
    unfold DataW.weightsAll
    rcases List.mem_cons.1 h with rfl | h
    · exact List.mem_append_left _ hq
    · exact List.mem_append_right _ (all_mem r d h q hq)
theorem opnW_slice {α : Type} {P : Program} {t e : TypeId} {K : Kd α} {ok wok : α → Prop} (ht : P.underlying t = some (.slice e)) (hc : P.cellsOf e = K.sz) (he : OpnW P e K ok wok) :
    OpnW P t (Kd.slice e K) (fun xs => ∀ x ∈ xs, ok x) (fun xs => xs.length * P.bytesOf e ≤ reachBytes ∧ ∀ x ∈ xs, wok x) := ⟨fun h hw => by
  rcases open_slice ht h with ⟨rfl, e⟩ | ⟨a, len, cap, m, n, D, Pl, rfl, hb, hl, hm, hmm, e, hx⟩
  · cases e
    exact ⟨[], ⟨none, 0, rfl, Nat.le_refl _, rfl, by simp, fun h => absurd h (by simp)⟩, (fun x hx => by cases hx), by simp, (fun x hx => by cases hx)⟩
  · cases e
    have hlm : len ≤ m := by rw [hmm]; split <;> omega
    unfold DataW.weights at hw
    rw [ht] at hw
    have hw1 := hw _ (List.mem_cons_self)
    have hw2 : ∀ i, i < len → ∀ q ∈ (D i).weights P e, q ≤ reachBytes := fun i hi q hq =>
      hw q (List.mem_cons_of_mem _ (List.mem_append_left _ (all_mem _ (D i) (List.mem_map.2 ⟨i, List.mem_range.2 hi, rfl⟩) q hq)))
    obtain ⟨xs, hxl, hxs⟩ := pick (fun i x => ∃ cs', _ ∧ K.K _ x cs' ∧ ok x ∧ wok x) len (fun i hi => by
      obtain ⟨cs', h1, h2⟩ := hx i (by omega)
      obtain ⟨x, k1, k2, k3⟩ := he.opn h2 (hw2 i hi)
      exact ⟨x, cs', h1, k1, k2, k3⟩)
    subst hxl
    refine ⟨xs, ⟨some a, cap, rfl, hl, rfl, by unfold maxLen at hm; omega, fun _ => ⟨a, rfl, fun j p hj => ?_⟩⟩, fun x hx => ?_, ?_, fun x hx => ?_⟩
    · obtain ⟨cs', h1, k1, _⟩ := hxs j p hj
      refine ⟨cs', K.K_len k1, k1, fun i u hu => ?_⟩
      obtain ⟨_, h2, h3⟩ := World.cells?_some h1
      have h4 := h3 i (by have := (List.getElem?_eq_some_iff.1 hu).1; omega)
      rw [hc, Deep.add_add] at h4
      exact h4.trans hu
    · obtain ⟨i, hi, rfl⟩ := List.mem_iff_getElem.1 hx
      obtain ⟨_, _, _, k2, _⟩ := hxs i _ (List.getElem?_eq_getElem hi)
      exact k2
    · refine Nat.le_trans (Nat.mul_le_mul_right _ ?_) hw1
      simp
    · obtain ⟨i, hi, rfl⟩ := List.mem_iff_getElem.1 hx
      obtain ⟨_, _, _, _, k3⟩ := hxs i _ (List.getElem?_eq_getElem hi)
      exact k3⟩
def wokF (x : Fl) : Prop := x.2.length ≤ 140737488351232
theorem opnW_F : OpnW Tryd.prog 50 KF okF wokF := ⟨fun h hw => by
  obtain ⟨xs, n, rfl, hx, hc, hl, hf⟩ := DataW.trod_struct Tryd.underlying50 h
  have hc2 : _ = 2 := hc.trans (by kernel_rfl)
  rename_i cs _ _
  match cs, hc2 with
  | [c0, c1], _ =>
    match xs, hl with
    | [y0, y1], _ =>
      have h0 := hf 0 _ rfl
      have h1 := hf 1 _ rfl
      have e0 : Tryd.prog.cellsOf 9 = 1 := by kernel_rfl
      have e1 : Tryd.prog.cellsOf 30 = 1 := by kernel_rfl
      simp only [e0, e1, List.drop_zero, List.drop_succ_cons, List.take_succ_cons, List.take_zero, List.getElem?_cons_zero, List.getElem?_cons_succ] at h0 h1
      obtain ⟨n0, a0, _, w0⟩ := DataW.trod_string Tryd.underlying9 h0
      simp only [List.map_cons, List.map_nil, Prod.mk.injEq] at hx
      rw [hx.1] at hw
      unfold DataW.weights at hw
      rw [Tryd.underlying50] at hw
      obtain ⟨x, hx1, k1, b1⟩ := (opnW_slice Tryd.underlying30 (by kernel_rfl) (OpnW.of (opn_int Tryd.underlying5))).opn h1 (fun q hq => hw q (by
        show q ∈ DataW.weightsEach Tryd.prog [9, 30] [y0.1, y1.1]
        simp only [DataW.weightsEach, List.mem_append]
        exact Or.inr (Or.inl hq)))
      cases a0
      refine ⟨(n0, x), ⟨[.string n0], _, rfl, rfl, hx1⟩, ⟨w0, k1⟩, ?_⟩
      have hb := b1.1
      rw [show Tryd.prog.bytesOf 5 = 1 by kernel_rfl] at hb
      show x.length ≤ 140737488351232
      unfold reachBytes at hb
      omega⟩
theorem opnW_A : OpnW Tryd.prog 26 k_t26 okA (fun x => x.2.1.length * 40 ≤ 140737488351232 ∧ ∀ y ∈ x.2.1, wokF y) := ⟨fun h hw => by
  obtain ⟨xs, n, rfl, hx, hc, hl, hf⟩ := DataW.trod_struct Tryd.underlying26 h
  have hc3 : _ = 3 := hc.trans (by kernel_rfl)
  rename_i cs _ _
  match cs, hc3 with
  | [c0, c1, c2], _ =>
    match xs, hl with
    | [y0, y1, y2], _ =>
      have h0 := hf 0 _ rfl
      have h1 := hf 1 _ rfl
      have h2 := hf 2 _ rfl
      have e0 : Tryd.prog.cellsOf 22 = 1 := by kernel_rfl
      have e1 : Tryd.prog.cellsOf 24 = 1 := by kernel_rfl
      have e2 : Tryd.prog.cellsOf 3 = 1 := by kernel_rfl
      simp only [e0, e1, e2, List.drop_zero, List.drop_succ_cons, List.take_succ_cons, List.take_zero, List.getElem?_cons_zero, List.getElem?_cons_succ] at h0 h1 h2
      simp only [List.map_cons, List.map_nil, Prod.mk.injEq] at hx
      rw [hx.1] at hw
      unfold DataW.weights at hw
      rw [Tryd.underlying26] at hw
      obtain ⟨x0, hx0, k0, _⟩ := (opn_slice Tryd.underlying22 (by kernel_rfl) opn_t68).opn h0
      obtain ⟨x1, hx1, k1, b1⟩ := (opnW_slice Tryd.underlying24 (by kernel_rfl) opnW_F).opn h1 (fun q hq => hw q (by
        show q ∈ DataW.weightsEach Tryd.prog [22, 24, 3] [y0.1, y1.1, y2.1]
        simp only [DataW.weightsEach, List.mem_append]
        exact Or.inr (Or.inl hq)))
      obtain ⟨n2, a2, _, w2⟩ := DataW.trod_int Tryd.underlying3 h2
      cases a2
      have hb := b1.1
      rw [show Tryd.prog.bytesOf 50 = 40 by kernel_rfl] at hb
      refine ⟨(x0, x1, n2), ⟨[c0], _, rfl, hx0, [c1], _, rfl, hx1, rfl⟩, ⟨k0, k1, w2⟩, ?_, b1.2⟩
      unfold reachBytes at hb
      exact hb⟩
end Go.Proofs.YtlojemnmdakfiaaDoor.Open
end
section
namespace Go.Proofs.YtlojemnmdakfiaaDoor.Ac
open Go.RowKit Go.Proofs.YtlojemnmdakfiaaDoorW.PrintWords Go.Proofs.YtlojemnmdakfiaaDoorW.PrintLast Go.Proofs.YtlojemnmdakfiaaDoorW.PrintMore
set_option linter.unusedVariables false
set_option linter.unusedSimpArgs false
theorem keysF_walk (cs0 : Array Value) (x0 : Open.Act3) (w : World) (hT : Prog6.Tab w ∧ Sha.Tab w) (hx0 : Open.k_t26.K w x0 cs0.toList) (k0 : Open.okA x0) (hb : x0.2.1.length * 40 ≤ 140737488351232 ∧ ∀ y ∈ x0.2.1, Open.wokF y) :
    Calls Tryd.prog 3 #[.agg cs0] w fun e w' => e = .returned (.bool true) ∧ Below w.heap.size w w' := by
  obtain ⟨A, c, A2, c2, rfl, h1, h2, h3, h4⟩ := Open.act_cells hx0
  exact keys_calls A c x0.1 A2 c2 x0.2.1 x0.2.2 w (k0.arg h1 h2 h3 h4 hT) hb
end Go.Proofs.YtlojemnmdakfiaaDoor.Ac
end
