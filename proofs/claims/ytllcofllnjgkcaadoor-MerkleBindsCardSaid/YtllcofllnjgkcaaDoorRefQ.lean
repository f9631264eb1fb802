/- What calls of Go functions of this seat come to, as the rows need it: under the conditions that each theorem names. -/
import Derived.Test.YtllcofllnjgkcaaDoorRefP
import Derived.Test.YtllcofllnjgkcaaDoorMkF
namespace Go.Proofs.YtllcofllnjgkcaaDoor.Ref
open Go.RowKit Go.Proofs.YtllcofllnjgkcaaDoorW.PrintWords Go.Proofs.YtllcofllnjgkcaaDoorW.PrintLast Go.Proofs.YtllcofllnjgkcaaDoorW.PrintMore
set_option linter.unusedVariables false
set_option linter.unusedSimpArgs false
open Go.Proofs.YtllcofllnjgkcaaDoor.Sha
/-- The rows above a row. -/
def rowsP (rows : List (List Int)) : List (List (List Int)) := if h : rows.length ≤ 1 then [] else upL rows :: rowsP (upL rows)
termination_by rows.length
decreasing_by rw [upL_len]; omega
theorem rowsP_end {rows : List (List Int)} (h : rows.length ≤ 1) : rowsP rows = [] := by rw [rowsP, dif_pos h]
theorem rowsP_up {rows : List (List Int)} (h : ¬ rows.length ≤ 1) : rowsP rows = upL rows :: rowsP (upL rows) := by conv => lhs; rw [rowsP, dif_neg h]
def rowsL (l : List Int) : List (List (List Int)) := leavesL l :: rowsP (leavesL l)
abbrev KR : Kd (List (List Int)) := Kd.slice 32 KD
theorem infoRow : (Tryd.prog.info? 34).map (fun i => (i.zero, i.size, i.bytes)) = some (some (.slice none 0 0), 1, 24) := by kernel_rfl
def rw_T13 : Bool × List (List Nat × List Nat) := (true, [([], []), ([], []), ([], []), ([], []), ([2, 3], [2, 3]), ([4], [4]), ([], []), ([], []), ([7], [7]), ([6, 8], [6, 8]), ([9], [9]), ([5, 10], [5, 10]), ([1, 11, 11], [1, 11]), ([12], [12]), ([0, 13, 12], [0, 13]), ([14, 14, 0, 1, 2, 3, 4, 5, 6, 7, 8, 9, 10, 11, 12, 13, 14], [0, 14])])
def rw_B13 : List Nat := [0, 0, 0, 0, 12, 28, 0, 0, 128, 448, 960, 2044, 4094, 8190, 16383, 32767]
theorem rw_tab13 : rtab .any (opsOf Tryd.f30 13) = rw_T13 := by kernel_rfl
theorem rw_bits13 : waitsOk rw_T13.2 rw_B13 = true := by kernel_rfl
theorem nodeB' (a b X : List Int) (w : World) (ha : a.length = 32) (hb : b.length = 32) (hX : X = 1 :: (a ++ b)) :
    Calls Tryd.prog 42 #[vd a, vd b] w fun e w' => ∃ A c, e = .returned (.slice A X.length c) ∧ X.length ≤ c ∧ B.C w' A X.length X ∧ Below w.heap.size w w' := by
  subst hX
  exact nodeB_calls a b w ha hb
theorem RC {w : World} {base : Nat} {ok : Nat → Prop} {A : Option Addr} {n c : Nat} {xs : List (List Int)} (h : Kd.R KD 32 w base ok (.slice A n c) xs) : KD.C w A xs.length xs := by
  obtain ⟨A', c', e, _, hC⟩ := Kd.R_reads h
  injection e with e1
  subst e1
  exact hC
theorem upN_get (rows : List (List Int)) (n k : Nat) (h : k < n) : (upN rows n)[k]? = some (pairI (rows.getD (2 * k) []) (rows.getD (2 * k + 1) [])) := by
  unfold upN
  rw [List.getElem?_map, List.getElem?_range h]
  rfl
theorem up_two (rows : List (List Int)) (k : Nat) (h : 2 * k + 1 < rows.length) : (upL rows).take k ++ [pairI (rows.getD (2 * k) []) (rows.getD (2 * k + 1) [])] = (upL rows).take (k + 1) := by
  rw [List.take_add_one]
  have : (upL rows)[k]? = some (pairI (rows.getD (2 * k) []) (rows.getD (2 * k + 1) [])) := by
    unfold upL
    split
    · rw [List.getElem?_append_left (by rw [upN_len]; omega)]
      exact upN_get _ _ _ (by omega)
    · exact upN_get _ _ _ (by omega)
  rw [this]
  rfl
theorem up_one (rows : List (List Int)) (k : Nat) (h : 2 * k + 1 = rows.length) : (upL rows).take k ++ [rows.getD (2 * k) []] = (upL rows).take (k + 1) := by
  rw [List.take_add_one]
  have : (upL rows)[k]? = some (rows.getD (2 * k) []) := by
    unfold upL
    rw [if_pos (by omega), List.getElem?_append_right (by rw [upN_len]; omega), upN_len, show k - rows.length / 2 = 0 by omega, show rows.length - 1 = 2 * k by omega]
    rfl
  rw [this]
  rfl
set_option maxHeartbeats 3200000 in
set_option maxRecDepth 100000 in
theorem rows_calls (gh : Nat) (A : Option Addr) (c : Nat) (l : List Int) (w : World) (hg : w.heap[gh]? = some (.cells hk 54 (0, 0))) (hr : B.C w A l.length l) (hc : l.length ≤ c) (hb : Sha.bytes l) (hl : l.length < 10000000) :
    Calls Tryd.prog 30 #[.pointer (some ⟨gh, 0, none⟩), .slice A l.length c] w fun e w' => ∃ v, e = .returned v ∧ Kd.R KR 34 w' w.heap.size (fun _ => True) v (rowsL l) ∧ Below w.heap.size w w' := by
  have HR := Aside0.mk hr
  have HY := Aside0.mk hb
  have HG := Aside0.mk hg
  have HC := Aside0.mk (fun w => rcount_calls l.length w (by omega))
  have hN : countN l.length ≤ 1000000 := by unfold countN; omega
  have HLV := Aside0.mk (show leavesL l = leavesP l (countN l.length) from rfl)
  have HRW := Aside0.mk (show leavesL l :: rowsP (leavesL l) = rowsL l from rfl)
  clear hr hb hg
  have HLR := Aside0.mk (leaves_D l)
  have HLL := Aside0.mk (leavesL_len l)
  generalize rowsL l = RR at HRW ⊢
  generalize hNN : countN l.length = N at HC hN HLV HLL
  have HNN := Aside0.mk hNN
  clear hNN
  go_enter Tryd.func30, Tryd.ntmps30
  go_wp2
  go_loopw [5, 6] (fun v i wr => ∃ k : Nat, k ≤ N ∧ i = .int .i64 (k : Int) ∧ Aside0 (Kd.R KD 32 wr w.heap.size (fun _ => True) v (leavesP l k)) ∧ Aside0 (Below w.heap.size w wr)) (fun _ i _ => N - (intOf i).toNat)
  case atStart => exact ⟨0, Nat.zero_le _, rfl, ⟨Kd.R_nil _ _ _ _ _⟩, ⟨Below.refl _ _⟩⟩
  case round =>
    obtain ⟨k, hk, rfl, HO, HB⟩ := hrel
    go_wp2_with fail
    refine (HC.out _).mono ?_
    rintro e w1 ⟨rfl, hw⟩
    replace hw := hw.symm
    subst hw
    by_cases hlt : k < N
    · have hkN : (k : Int) < (N : Int) := by omega
      have HS := Aside0.mk (leavesP_succ l k)
      have HLP := Aside0.mk (leavesP_len l k)
      have hcl : (chunkL l k).length ≤ 64 := by rw [chunk_len (by rw [HNN.out]; exact hlt)]; omega
      have HCB := Aside0.mk (chunk_bytes HY.out k)
      have HDG := Aside0.mk (shaI_len (0 :: (be8 k ++ chunkL l k)))
      go_wp2_with fail
      refine (rchunk_calls A c l k _ (Kd.C_below HR.out HB.out) hc hl (by rw [HNN.out]; exact hlt)).mono ?_
      rintro e w2 ⟨v, rfl, ho, hb⟩
      have HB2 := Aside0.mk (below_step HB.out hb)
      replace HO := Aside0.mk (Kd.R_below HO.out hb)
      have HRw : Aside0 (∀ A8 c8', v = .slice A8 (chunkL l k).length c8' → Rw w2 A8 (chunkL l k) _ _) := ⟨fun A8 c8' e => Rw.of (e ▸ ho)⟩
      obtain ⟨A2, c2, rfl, hc2, hr2⟩ := Kd.R_reads ho
      clear hb ho hr2 HB
      go_wp2_with fail
      refine (leafB_calls k A2 c2 (chunkL l k) _ (by omega) (HRw.out _ _ rfl).C hc2 (by omega)).mono ?_
      rintro e w3 ⟨v, rfl, ho, hb⟩
      have HB3 := Aside0.mk (below_step HB2.out hb)
      replace HO := Aside0.mk (Kd.R_below HO.out hb)
      have HLB := Aside0.mk (show Sha.bytes (0 :: (be8 k ++ chunkL l k)) from fun x hx => by
        rcases List.mem_cons.1 hx with rfl | hx
        · omega
        · exact bytes_app (be8_bytes k) HCB.out x hx)
      have HLN := Aside0.mk (show (0 :: (be8 k ++ chunkL l k)).length < 100000000 by simp [be8]; omega)
      replace HDG := Aside0.mk (show (leafI k (chunkL l k)).length = 32 from HDG.out)
      have HDE := Aside0.mk (show shaI (0 :: (be8 k ++ chunkL l k)) = leafI k (chunkL l k) from rfl)
      generalize leafI k (chunkL l k) = D at HS HDG HDE
      generalize (0 :: (be8 k ++ chunkL l k) : List Int) = lb at *
      have HRx : Aside0 (∀ A8 c8', v = .slice A8 lb.length c8' → Rw w3 A8 lb _ _) := ⟨fun A8 c8' e => Rw.of (e ▸ ho)⟩
      obtain ⟨A3, c3, rfl, hc3, hr3⟩ := Kd.R_reads ho
      clear hb ho hr3 HB2 HRw hc2
      go_wp2_with fail
      refine (hsum_calls gh A3 c3 lb _ (heap_keep HG.out HB3.out) (HRx.out _ _ rfl).C hc3 HLB.out HLN.out).mono ?_
      rintro e w4 ⟨rfl, hb⟩
      rw [HDE.out]
      have HB4 := Aside0.mk (below_step HB3.out hb)
      replace HO := Aside0.mk (Kd.R_below HO.out hb)
      clear hb HRx HB3
      go_wp2_with (first | ((with_reducible refine gate_dst (N := 25) rfl ?_); refine wpList_lit rfl (.tmp 24) rfl HDG.out rfl ?_) | ((with_reducible refine gate_builtin (b := .append) (xs := #[.tmp 17, .tmp 25]) rfl ?_); at_builtin; refine Kd.R_append KD (w0 := w) w.heap.size rfl (.tmp 17) (.tmp 25) 34 32 (.agg #[.int .u8 0, .int .u8 0, .int .u8 0, .int .u8 0, .int .u8 0, .int .u8 0, .int .u8 0, .int .u8 0, .int .u8 0, .int .u8 0, .int .u8 0, .int .u8 0, .int .u8 0, .int .u8 0, .int .u8 0, .int .u8 0, .int .u8 0, .int .u8 0, .int .u8 0, .int .u8 0, .int .u8 0, .int .u8 0, .int .u8 0, .int .u8 0, .int .u8 0, .int .u8 0, .int .u8 0, .int .u8 0, .int .u8 0, .int .u8 0, .int .u8 0, .int .u8 0]) 32 rfl Tryd.underlying34 infoDG rfl (by decide) (by omega) _ (leavesP l k) D (D.map (Value.int .u8)) (fun _ => True) (fun _ => False) rfl rfl (KD_of HDG.out) (fun _ h => h.elim) (fun _ _ => trivial) HO.out HB4.out HB4.out.size ?aL ?_; (case aL => rw [HLP.out]; omega); intro v2 w6 ho hb2 hg hat; rw [HS.out] at ho; have HO2 := Aside0.mk ho; have HB5 := Aside0.mk hb2; clear ho hb2 hg hat))
      go_roundw
      case rel => exact ⟨k + 1, by omega, by go_num, HO2, HB5⟩
      case measure => simp [intOf]; omega
    · obtain rfl : k = N := by omega
      rw [← HLV.out] at HO
      clear hlt hk HC HNN HLV
      generalize leavesL l = L at HO HRW HLR HLL
      obtain ⟨A5, c5, rfl, hc5, hr5⟩ := Kd.R_reads HO.out
      have HCL := Aside0.mk hr5
      have hL7 : L.length ≤ 1000000 := by rw [HLL.out]; exact hN
      clear hr5 HLL
      go_wp2_with (first | ((with_reducible refine gate_dst (N := 28) rfl ?_); refine Kd.R_lit KR (w0 := w) w.heap.size 34 ?hg (N := 28) ?hd (xs := [L]) (inner := [.slice A5 L.length c5]) (ok := fun _ => True) (okp := fun _ => True) ?hr ?hp (fun _ hk => hk) trivial HB.out HB.out.size (by simp) ?_; (case hd => rfl); (case hg => rfl); (case hr => first | (go_simp; done) | (go_simp; rfl)); (case hp => exact Reps.one ⟨_, rfl, HO.out⟩ (Reps.none _ _)); intro v1 w2 ho hb1 hg hnew; have HQ := Aside0.mk ho; have HBQ := Aside0.mk hb1; have HCQ := Aside0.mk (Kd.C_below HCL.out (grown_below hg)); clear ho hb1 hg hnew))
      clear HO HB HCL
      go_loopw [5, 7] (fun v5 v7 wr => ∃ (done : List (List (List Int))) (cur : List (List Int)) (A5 : Option Addr) (c5 : Nat), Aside0 (done ++ rowsP cur = RR) ∧ v5 = .slice A5 cur.length c5 ∧ cur.length ≤ c5 ∧ done.length + cur.length ≤ 1000002 ∧ Aside0 (isRow cur) ∧ Aside0 (KD.C wr A5 cur.length cur) ∧ Aside0 (Kd.R KR 34 wr w.heap.size (fun _ => True) v7 done) ∧ Aside0 (Below w.heap.size w wr)) (fun v5 _ _ => slLen v5)
      case atStart => exact ⟨[L], L, A5, c5, ⟨HRW.out⟩, rfl, hc5, by simp; omega, HLR, HCQ, HQ, HBQ⟩
      case round =>
        clear HCQ HQ HBQ hc5 hL7 HLR HRW
        obtain ⟨wo, rfl⟩ : ∃ wo, wo = wr := ⟨_, rfl⟩
        obtain ⟨done, cur, A5, c5, HRR, rfl, hc5, hdl, HIR, HCU, HDN, HBo⟩ := hrel
        by_cases h1 : 1 < cur.length
        · have h1i : (cur.length : Int) > 1 := by omega
          have HUL := Aside0.mk (upL_len cur)
          replace HRR := Aside0.mk (show (done ++ [upL cur]) ++ rowsP (upL cur) = RR by have e : rowsP cur = _ := rowsP_up (by omega); rw [← HRR.out, e, List.append_assoc]; rfl)
          have HUR := Aside0.mk (upL_row HIR.out)
          have HU2 := Aside0.mk (fun k h => up_two cur k h)
          have HU1 := Aside0.mk (fun k h => up_one cur k h)
          generalize upL cur = U at *
          have hn63 : cur.length ≤ 1000002 := by omega
          go_wp2
          go_loopw [8, 9] (fun v i wz => ∃ k q : Nat, Aside0 (q = 2 * k) ∧ 2 * k ≤ cur.length + 1 ∧ i = .int .i64 (q : Int) ∧ Aside0 (Kd.R KD 32 wz wo.heap.size (fun _ => True) v (U.take k)) ∧ Aside0 (Below wo.heap.size wo wz)) (fun _ i _ => cur.length + 2 - (intOf i).toNat)
          case atStart => exact ⟨0, 0, ⟨rfl⟩, by omega, rfl, ⟨Kd.R_nil _ _ _ _ _⟩, ⟨Below.refl _ _⟩⟩
          case round =>
            obtain ⟨wz, rfl⟩ : ∃ wz, wz = wr := ⟨_, rfl⟩
            obtain ⟨k, q, HQ, hk, rfl, HO, HB⟩ := hrel
            by_cases hlt : q < cur.length
            · have hq6 : q ≤ 1000002 := by omega
              have HLP := Aside0.mk (show (U.take k).length ≤ 1000002 by rw [List.length_take]; have := HUL.out; omega)
              obtain ⟨q1, hq1e⟩ : ∃ q1, q1 = q + 1 := ⟨_, rfl⟩
              have HQ1 := Aside0.mk hq1e
              by_cases hp : q + 1 < cur.length
              · have hpi : (q : Int) + 1 < (cur.length : Int) := by omega
                have hq1 : q1 < cur.length := by omega
                have HS := Aside0.mk (show U.take k ++ [pairI (cur.getD q []) (cur.getD q1 [])] = U.take (k + 1) by have h := HU2.out k (by have := HQ.out; omega); rw [hq1e, HQ.out]; exact h)
                have HW1 := Aside0.mk (show IntKind.i64.wrap ((q : Int) + 1) = (q1 : Int) by simp [IntKind.wrap, IntKind.bits, IntKind.signed]; omega)
                have HA := Aside0.mk (isRow_getD HIR.out q hlt)
                have HBB := Aside0.mk (isRow_getD HIR.out q1 hq1)
                obtain ⟨ad, rfl, _, _⟩ := row_ld HCU.out q hlt
                clear hq1e
                have hS0 : Below wo.heap.size wo wz.drew := below_drew1 HB.out
                have HOd := Aside0.mk (Kd.R_drew HO.out)
                generalize hea : cur.getD q [] = a at *
                generalize heb : cur.getD q1 [] = b at *
                have HX0 := Aside0.mk (show ∀ w' : World, Below wo.heap.size wo w' → (Instr.loadAt 32 (.pointer (some (ad.add (q * 32))))).run Tryd.prog w' = .ok (vd a) w' from fun w' h => row_load' HCU.out h q hlt hea)
                have HX1 := Aside0.mk (show ∀ w' : World, Below wo.heap.size wo w' → (Instr.loadAt 32 (.pointer (some (ad.add (q1 * 32))))).run Tryd.prog w' = .ok (vd b) w' from fun w' h => row_load' HCU.out h q1 hq1 heb)
                clear hea heb
                obtain ⟨X, hX⟩ : ∃ X, X = 1 :: (a ++ b) := ⟨_, rfl⟩
                have HXE := Aside0.mk hX
                have HXB := Aside0.mk (show Sha.bytes X from fun x hx => by
                  rw [HXE.out] at hx
                  rcases List.mem_cons.1 hx with rfl | hx
                  · omega
                  · exact bytes_app HA.out.2 HBB.out.2 x hx)
                have HXN := Aside0.mk (show X.length < 100000000 by rw [HXE.out]; simp [HA.out.1, HBB.out.1])
                have HPE := Aside0.mk (show shaI X = pairI a b by rw [HXE.out]; rfl)
                clear hX
                have HDG := Aside0.mk (show (pairI a b).length = 32 from shaI_len _)
                generalize pairI a b = D at HS HPE HDG
                go_upto_region 13 with (fail)
                refine start_ (n := 16) (S := fun w' => Below wo.heap.size wo w') (ds := []) #[false, false, false, false, false, false, false, false, false, false, false, false, false, false, false, false] (by kernel_rfl) rfl rfl (by exact hS0) (fun hHeld => ?_)
                refine with_tabW rw_tab13 rw_bits13 (fun HT_ HW_ => ?_)
                refine pure_ (i := 0) (N := some 43) (v := ?_) (a' := ?_) #[true, false, false, false, false, false, false, false, false, false, false, false, false, false, false, false] rfl rfl (any_of HT_.out (by kernel_rfl)) (fun _ _ _ h => h) (Or.inl ⟨by rfl, ?_⟩) ?_ ?_
                rotate_left
                · intro w'
                  go_simp
                  with_reducible rfl
                rotate_left
                · simp only [Act.put, List.setIfInBounds_toArray, List.set_cons_zero, List.set_cons_succ, i64_w, i32_w]
                  rfl
                refine pure_ (i := 1) (N := some 44) (v := ?_) (a' := ?_) #[true, true, false, false, false, false, false, false, false, false, false, false, false, false, false, false] rfl rfl (any_of HT_.out (by kernel_rfl)) (fun _ _ _ h => h) (Or.inl ⟨by rfl, ?_⟩) ?_ ?_
                rotate_left
                · intro w'
                  go_simp
                  with_reducible rfl
                rotate_left
                · simp only [Act.put, List.setIfInBounds_toArray, List.set_cons_zero, List.set_cons_succ, i64_w, i32_w]
                  rfl
                refine pure_ (i := 2) (N := some 45) (v := ?_) (a' := ?_) #[true, true, true, false, false, false, false, false, false, false, false, false, false, false, false, false] rfl rfl (any_of HT_.out (by kernel_rfl)) (fun _ _ _ h => h) (Or.inl ⟨by rfl, ?_⟩) ?_ ?_
                rotate_left
                · intro w'
                  go_simp
                  with_reducible rfl
                rotate_left
                · simp only [Act.put, List.setIfInBounds_toArray, List.set_cons_zero, List.set_cons_succ, i64_w, i32_w]
                  rfl
                refine pure_ (i := 3) (N := some 46) (v := ?_) (a' := ?_) #[true, true, true, true, false, false, false, false, false, false, false, false, false, false, false, false] rfl rfl (any_of HT_.out (by kernel_rfl)) (fun _ _ _ h => h) (Or.inl ⟨by rfl, ?_⟩) ?_ ?_
                rotate_left
                · intro w'
                  go_simp
                  with_reducible rfl
                rotate_left
                · simp only [Act.put, List.setIfInBounds_toArray, List.set_cons_zero, List.set_cons_succ, i64_w, i32_w]
                  rfl
                refine pure_ (i := 4) (N := some 47) (v := ?_) (a' := ?_) #[true, true, true, true, true, false, false, false, false, false, false, false, false, false, false, false] rfl rfl (any_of HT_.out (by kernel_rfl)) (fun _ _ _ h => h) (Or.inl ⟨by rfl, ?_⟩) ?_ ?_
                rotate_left
                · intro w'
                  go_simp
                  with_reducible rfl
                rotate_left
                · simp only [Act.put, List.setIfInBounds_toArray, List.set_cons_zero, List.set_cons_succ, i64_w, i32_w]
                  rfl
                refine pure_ (i := 6) (N := some 49) (v := ?_) (a' := ?_) #[true, true, true, true, true, false, true, false, false, false, false, false, false, false, false, false] rfl rfl (any_of HT_.out (by kernel_rfl)) (fun _ _ _ h => h) (Or.inl ⟨by rfl, ?_⟩) ?_ ?_
                rotate_left
                · intro w'
                  go_simp
                  with_reducible rfl
                rotate_left
                · simp only [Act.put, List.setIfInBounds_toArray, List.set_cons_zero, List.set_cons_succ, i64_w, i32_w]
                  rfl
                refine pure_ (i := 7) (N := some 50) (v := ?_) (a' := ?_) #[true, true, true, true, true, false, true, true, false, false, false, false, false, false, false, false] rfl rfl (any_of HT_.out (by kernel_rfl)) (fun _ _ _ h => h) (Or.inl ⟨by rfl, ?_⟩) ?_ ?_
                rotate_left
                · intro w'
                  go_simp
                  with_reducible rfl
                rotate_left
                · simp only [Act.put, List.setIfInBounds_toArray, List.set_cons_zero, List.set_cons_succ, i64_w, i32_w]
                  rfl
                refine pure_ (i := 8) (N := some 51) (v := ?_) (a' := ?_) #[true, true, true, true, true, false, true, true, true, false, false, false, false, false, false, false] rfl rfl (any_of HT_.out (by kernel_rfl)) (fun _ _ _ h => h) (Or.inl ⟨by rfl, ?_⟩) ?_ ?_
                rotate_left
                · intro w'
                  go_simp
                  rw [HW1.out]
                rotate_left
                · simp only [Act.put, List.setIfInBounds_toArray, List.set_cons_zero, List.set_cons_succ, i64_w, i32_w]
                  rfl
                refine pure_ (i := 9) (N := some 52) (v := ?_) (a' := ?_) #[true, true, true, true, true, false, true, true, true, true, false, false, false, false, false, false] rfl rfl (any_of HT_.out (by kernel_rfl)) (fun _ _ _ h => h) (Or.inl ⟨by rfl, ?_⟩) ?_ ?_
                rotate_left
                · intro w'
                  go_simp
                  with_reducible rfl
                rotate_left
                · simp only [Act.put, List.setIfInBounds_toArray, List.set_cons_zero, List.set_cons_succ, i64_w, i32_w]
                  rfl
                refine take_ (i := 5) (N := some 48) (v := ?_) (a' := ?_) #[true, true, true, true, true, true, true, true, true, true, false, false, false, false, false, false] rfl rfl (take_ofW HT_.out HW_.out (by kernel_rfl)) (fun _ _ _ h => h) (Or.inl ⟨by rfl, ?_⟩) hHeld ?_ ?_
                rotate_left
                · intro w' hSt
                  refine (exec_load (p := .pointer (some (ad.add (q * 32)))) rfl rfl (HX0.out w' hSt)).trans ?_
                  with_reducible rfl
                rotate_left
                · simp only [Act.put, List.setIfInBounds_toArray, List.set_cons_zero, List.set_cons_succ, i64_w, i32_w]
                  rfl
                refine take_ (i := 10) (N := some 53) (v := ?_) (a' := ?_) #[true, true, true, true, true, true, true, true, true, true, true, false, false, false, false, false] rfl rfl (take_ofW HT_.out HW_.out (by kernel_rfl)) (fun _ _ _ h => h) (Or.inl ⟨by rfl, ?_⟩) hHeld ?_ ?_
                rotate_left
                · intro w' hSt
                  refine (exec_load (p := .pointer (some (ad.add (q1 * 32)))) rfl rfl (HX1.out w' hSt)).trans ?_
                  with_reducible rfl
                rotate_left
                · simp only [Act.put, List.setIfInBounds_toArray, List.set_cons_zero, List.set_cons_succ, i64_w, i32_w]
                  rfl
                refine one_ (i := 11) (N := some 54) #[true, true, true, true, true, true, true, true, true, true, true, true, false, false, false, false] rfl rfl (one_of HT_.out (by kernel_rfl)) (by decide) (fun K hK => ?_)
                refine goes_ Tryd.func42 (by kernel_rfl) rfl #[vd a, vd b] (by rfl) rfl rfl (by (try simp only [List.map_toArray, List.map_cons, List.map_nil]); first | done | rfl) ?_
                refine (nodeB' a b X _ HA.out.1 HBB.out.1 HXE.out).mono ?_
                rintro e w3 ⟨A7, c7, rfl, hc7, hC7, hb⟩
                refine ⟨_, rfl, ?_⟩
                have hS1 := below_step hHeld hb
                have HO3 := Aside0.mk (Kd.R_below HOd.out hb)
                have HC7 := Aside0.mk hC7
                clear hb hC7
                refine hK.out _ _ (by exact hS1) (fun hHeld => ?_)
                clear hK K
                refine norm_ (a' := ?_) ?_ ?_
                rotate_left
                · first
                  | (show Act.put _ (some 54) _ = _; simp only [Act.put, List.setIfInBounds_toArray, List.set_cons_zero, List.set_cons_succ, i64_w, i32_w]; rfl)
                  | rfl
                refine one_ (i := 12) (N := some 55) #[true, true, true, true, true, true, true, true, true, true, true, true, true, false, false, false] rfl rfl (one_of HT_.out (by kernel_rfl)) (by decide) (fun K hK => ?_)
                refine goes_ Tryd.func31 (by kernel_rfl) rfl #[.pointer (some ⟨gh, 0, none⟩), .slice A7 X.length c7] (by rfl) rfl rfl (by (try simp only [List.map_toArray, List.map_cons, List.map_nil]); first | done | rfl) ?_
                refine (hsum_calls gh A7 c7 X _ (heap_keep HG.out (below_step HBo.out hHeld)) HC7.out hc7 HXB.out HXN.out).mono ?_
                rintro e w4 ⟨rfl, hb⟩
                refine ⟨_, rfl, ?_⟩
                rw [HPE.out]
                have hS1 := below_step hHeld hb
                have HO4 := Aside0.mk (Kd.R_below HO3.out hb)
                clear hb
                refine hK.out _ _ (by exact hS1) (fun hHeld => ?_)
                clear hK K
                refine norm_ (a' := ?_) ?_ ?_
                rotate_left
                · first
                  | (show Act.put _ (some 55) _ = _; simp only [Act.put, List.setIfInBounds_toArray, List.set_cons_zero, List.set_cons_succ, i64_w, i32_w]; rfl)
                  | rfl
                refine one_ (i := 13) (N := some 56) #[true, true, true, true, true, true, true, true, true, true, true, true, true, true, false, false] rfl rfl (one_of HT_.out (by kernel_rfl)) (by decide) (fun K hK => ?_)
                refine lit_step (by rfl) (.tmp 55) rfl HDG.out rfl ?_
                have HHA := Aside0.mk hHeld
                have hS1 := hHeld.alloc hHeld.size (.cells (cb D) 32)
                refine hK.out _ _ (by exact hS1) (fun hHeld => ?_)
                clear hK K
                refine norm_ (a' := ?_) ?_ ?_
                rotate_left
                · first
                  | (show Act.put _ (some 56) _ = _; simp only [Act.put, List.setIfInBounds_toArray, List.set_cons_zero, List.set_cons_succ, i64_w, i32_w]; rfl)
                  | rfl
                refine one_ (i := 14) (N := some 57) #[true, true, true, true, true, true, true, true, true, true, true, true, true, true, true, false] rfl rfl (one_of HT_.out (by kernel_rfl)) (by decide) (fun K hK => ?_)
                refine Kd.R_append_step KD (w0 := wo) wo.heap.size (by rfl) (.tmp 43) (.tmp 56) 34 32 (.agg #[.int .u8 0, .int .u8 0, .int .u8 0, .int .u8 0, .int .u8 0, .int .u8 0, .int .u8 0, .int .u8 0, .int .u8 0, .int .u8 0, .int .u8 0, .int .u8 0, .int .u8 0, .int .u8 0, .int .u8 0, .int .u8 0, .int .u8 0, .int .u8 0, .int .u8 0, .int .u8 0, .int .u8 0, .int .u8 0, .int .u8 0, .int .u8 0, .int .u8 0, .int .u8 0, .int .u8 0, .int .u8 0, .int .u8 0, .int .u8 0, .int .u8 0, .int .u8 0]) 32 rfl Tryd.underlying34 infoDG rfl (by decide) (by omega) _ (U.take k) D (D.map (Value.int .u8)) (fun _ => True) (fun _ => False) rfl rfl (KD_of HDG.out) (fun _ h => h.elim) (fun _ _ => trivial) HO4.out HHA.out HHA.out.size ?aL ?_
                case aL => have := HLP.out; omega
                intro v2 w6 ho hb2 _ _
                rw [HS.out] at ho
                have HO2 := Aside0.mk ho
                clear ho
                have hS1 := hb2
                clear hb2
                refine hK.out _ _ (by exact hS1) (fun hHeld => ?_)
                clear hK K
                refine norm_ (a' := ?_) ?_ ?_
                rotate_left
                · first
                  | (show Act.put _ (some 57) _ = _; simp only [Act.put, List.setIfInBounds_toArray, List.set_cons_zero, List.set_cons_succ, i64_w, i32_w]; rfl)
                  | rfl
                refine pure_ (i := 15) (N := some 8) (v := ?_) (a' := ?_) #[true, true, true, true, true, true, true, true, true, true, true, true, true, true, true, true] rfl rfl (any_of HT_.out (by kernel_rfl)) (fun _ _ _ h => h) (Or.inl ⟨by rfl, ?_⟩) ?_ ?_
                rotate_left
                · intro w'
                  go_simp
                  with_reducible rfl
                rotate_left
                · simp only [Act.put, List.setIfInBounds_toArray, List.set_cons_zero, List.set_cons_succ, i64_w, i32_w]
                  rfl
                refine done_ (done_of HT_.out (by kernel_rfl)) ?_
                have HB4 := Aside0.mk hHeld
                clear hS0 hHeld HT_ HW_
                go_wp2
                go_roundw
                case rel => exact ⟨k + 1, q + 2, ⟨by have := HQ.out; omega⟩, by have := HQ.out; omega, by go_num, HO2, HB4⟩
                case measure => simp [intOf]; omega
              · have hpi : ¬ (q : Int) + 1 < (cur.length : Int) := by omega
                have HS := Aside0.mk (show U.take k ++ [cur.getD q []] = U.take (k + 1) by have h := HU1.out k (by have := HQ.out; omega); rw [HQ.out]; exact h)
                have HDG := Aside0.mk (isRow_getD HIR.out q hlt).1
                obtain ⟨ad, rfl, _, _⟩ := row_ld HCU.out q hlt
                generalize hD : cur.getD q [] = D at HS HDG
                have HX := Aside0.mk (row_load' HCU.out HB.out q hlt hD)
                clear hD
                go_wp2_with (first | ((with_reducible refine gate_dst (N := 62) rfl ?_); refine wpList_load_at rfl (ty := 32) (x := .tmp 61) (p := .pointer (some (ad.add (q * 32)))) (v := vd D) rfl rfl HX.out ?_) | ((with_reducible refine gate_dst (N := 63) rfl ?_); refine wpList_lit rfl (.tmp 62) rfl HDG.out rfl ?_) | ((with_reducible refine gate_builtin (b := .append) (xs := #[.tmp 58, .tmp 63]) rfl ?_); at_builtin; refine Kd.R_append KD (w0 := wo) wo.heap.size rfl (.tmp 58) (.tmp 63) 34 32 (.agg #[.int .u8 0, .int .u8 0, .int .u8 0, .int .u8 0, .int .u8 0, .int .u8 0, .int .u8 0, .int .u8 0, .int .u8 0, .int .u8 0, .int .u8 0, .int .u8 0, .int .u8 0, .int .u8 0, .int .u8 0, .int .u8 0, .int .u8 0, .int .u8 0, .int .u8 0, .int .u8 0, .int .u8 0, .int .u8 0, .int .u8 0, .int .u8 0, .int .u8 0, .int .u8 0, .int .u8 0, .int .u8 0, .int .u8 0, .int .u8 0, .int .u8 0, .int .u8 0]) 32 rfl Tryd.underlying34 infoDG rfl (by decide) (by omega) _ (U.take k) D (D.map (Value.int .u8)) (fun _ => True) (fun _ => False) rfl rfl (KD_of HDG.out) (fun _ h => h.elim) (fun _ _ => trivial) HO.out HB.out HB.out.size ?aL ?_; (case aL => have := HLP.out; omega); intro v2 w6 ho hb2 hg hat; rw [HS.out] at ho; have HO2 := Aside0.mk ho; have HB2 := Aside0.mk hb2; clear ho hb2 hg hat))
                go_roundw
                case rel => exact ⟨k + 1, q + 2, ⟨by have := HQ.out; omega⟩, by have := HQ.out; omega, by go_num, HO2, HB2⟩
                case measure => simp [intOf]; omega
            · have HT := Aside0.mk (show U.take k = U from List.take_of_length_le (by have := HUL.out; have := HQ.out; omega))
              rw [HT.out] at HO
              have hUd : done.length + 1 + U.length ≤ 1000002 := by have := HUL.out; omega
              have hUl : U.length < cur.length := by have := HUL.out; omega
              have hd9 : done.length ≤ 1000002 := by omega
              clear HUL HT HU1 HU2 HQ HIR HCU
              obtain ⟨A8, c8', rfl, hc8, hr8⟩ := Kd.R_reads HO.out
              have HBZ := Aside0.mk (below_step HBo.out HB.out)
              have HDZ := Aside0.mk (Kd.R_below HDN.out HB.out)
              have HAP := Aside0.mk (Kd.R_apartR (Kd.R_lower HO.out HBo.out.size) HDZ.out (by decide))
              clear hr8
              go_wp2_with (first | ((with_reducible refine gate_builtin (b := .append) (xs := #[.tmp 65, .tmp 67]) rfl ?_); at_builtin; refine Kd.R_append KR (w0 := w) w.heap.size rfl (.tmp 65) (.tmp 67) 58 34 (.slice none 0 0) 24 rfl Tryd.underlying58 infoRow rfl (by decide) (by omega) _ done U [.slice A8 U.length c8'] (fun _ => True) _ rfl rfl ⟨_, rfl, HAP.out⟩ (fun _ h => ⟨trivial, h.2⟩) (fun _ _ => trivial) HDZ.out HBZ.out HBZ.out.size ?aL ?_; (case aL => omega); intro v2 w6 ho hb2 hg hat; have HO2 := Aside0.mk ho; have HB2 := Aside0.mk hb2; have HC2 := Aside0.mk (RC (Kd.R_over HO.out HDZ.out (by decide) hg)); clear ho hb2 hg hat))
              go_roundw
              case rel => exact ⟨done ++ [U], U, A8, c8', HRR, rfl, hc8, by simp; omega, HUR, HC2, HO2, HB2⟩
              case measure => simp [slLen]; omega
        · have h1i : ¬ (cur.length : Int) > 1 := by omega
          have HE := Aside0.mk (show done = RR by rw [← HRR.out, rowsP_end (by omega), List.append_nil])
          go_wp2
          go_ret
          exact ⟨_, rfl, by rw [← HE.out]; exact HDN.out, HBo.out⟩
end Go.Proofs.YtllcofllnjgkcaaDoor.Ref
