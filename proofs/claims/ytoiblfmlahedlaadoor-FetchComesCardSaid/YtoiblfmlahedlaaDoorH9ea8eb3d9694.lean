/- What calls of Go functions of this seat come to, as the rows need it: under the conditions that each theorem names. -/
import Derived.Test.YtoiblfmlahedlaaDoorH6aa5081b5dc3
import Derived.Test.YtoiblfmlahedlaaDoorH68227917bba1
import Derived.Test.YtoiblfmlahedlaaDoorH90499394dd19
import Derived.Test.YtoiblfmlahedlaaDoorHfe34aa19fd09
import Derived.Test.YtoiblfmlahedlaaDoorHa8cf72a23e17
import Derived.Deep.RegionWith
section
namespace Go.Proofs.YtoiblfmlahedlaaDoor.Ref
open Go.RowKit Go.Proofs.YtoiblfmlahedlaaDoorW.PrintWords Go.Proofs.YtoiblfmlahedlaaDoorW.PrintLast Go.Proofs.YtoiblfmlahedlaaDoorW.PrintMore
set_option linter.unusedVariables false
set_option linter.unusedSimpArgs false
set_option maxRecDepth 100000
open Go.Proofs.YtoiblfmlahedlaaDoor.Sha
def rowsP (rows : List (List Int)) : List (List (List Int)) := if h : rows.length ≤ 1 then [] else upL rows :: rowsP (upL rows)
termination_by rows.length
decreasing_by rw [upL_len]; omega
theorem rowsP_end {rows : List (List Int)} (h : rows.length ≤ 1) : rowsP rows = [] := by rw [rowsP, dif_pos h]
theorem rowsP_up {rows : List (List Int)} (h : ¬ rows.length ≤ 1) : rowsP rows = upL rows :: rowsP (upL rows) := by conv => lhs; rw [rowsP, dif_neg h]
def rowsL (l : List Int) : List (List (List Int)) := leavesL l :: rowsP (leavesL l)
abbrev KR : Kd (List (List Int)) := Kd.slice 31 KD
theorem infoRow : (Tryd.prog.info? 41).map (fun i => (i.zero, i.size, i.bytes)) = some (some (.slice none 0 0), 1, 24) := by kernel_rfl
def rw_T13 : Bool × List (List Nat × List Nat) := (true, [([], []), ([], []), ([], []), ([], []), ([2, 3], [2, 3]), ([4], [4]), ([], []), ([], []), ([7], [7]), ([6, 8], [6, 8]), ([9], [9]), ([5, 10], [5, 10]), ([1, 11, 11], [1, 11]), ([12], [12]), ([0, 13, 12], [0, 13]), ([14, 14, 0, 1, 2, 3, 4, 5, 6, 7, 8, 9, 10, 11, 12, 13, 14], [0, 14])])
def rw_B13 : List Nat := [0, 0, 0, 0, 12, 28, 0, 0, 128, 448, 960, 2044, 4094, 8190, 16383, 32767]
theorem rw_tab13 : rtab .any (opsOf Tryd.f27 13) = rw_T13 := by kernel_rfl
theorem rw_bits13 : waitsOk rw_T13.2 rw_B13 = true := by kernel_rfl
theorem nodeB' (a b X : List Int) (w : World) (ha : a.length = 32) (hb : b.length = 32) (hX : X = 1 :: (a ++ b)) :
    Calls Tryd.prog 53 #[vd a, vd b] w fun e w' => ∃ A c, e = .returned (.slice A X.length c) ∧ X.length ≤ c ∧ B.C w' A X.length X ∧ Below w.heap.size w w' := by
  subst hX
  exact nodeB_calls a b w ha hb
theorem RC {w : World} {base : Nat} {ok : Nat → Prop} {A : Option Addr} {n c : Nat} {xs : List (List Int)} (h : Kd.R KD 31 w base ok (.slice A n c) xs) : KD.C w A xs.length xs := by
  obtain ⟨A', c', e, _, hC⟩ := Kd.R_reads h
  injection e with e1
  subst e1
  exact hC
theorem upN_get (rows : List (List Int)) (n k : Nat) (h : k < n) : (upN rows n)[k]? = some (pairI (rows.getD (2 * k) []) (rows.getD (2 * k + 1) [])) := by
  unfold upN
  rw [List.getElem?_map, List.getElem?_range h]
  rfl
theorem up_two (rows : List (List Int)) (k : Nat) (h : 2 * k + 1 < rows.length) : (upL rows).take k ++ [pairI (rows.getD (2 * k) []) (rows.getD (2 * k + 1) [])] = (upL rows).take (k + 1) := by
  rw [List.take_add_one]
  have : (upL rows)[k]? = some (pairI (rows.getD (2 * k) []) (rows.getD (2 * k + 1) [])) := by
    unfold upL
    split
    · rw [List.getElem?_append_left (by rw [upN_len]; omega)]
      exact upN_get _ _ _ (by omega)
    · exact upN_get _ _ _ (by omega)
  rw [this]
  rfl
theorem up_one (rows : List (List Int)) (k : Nat) (h : 2 * k + 1 = rows.length) : (upL rows).take k ++ [rows.getD (2 * k) []] = (upL rows).take (k + 1) := by
  rw [List.take_add_one]
  have : (upL rows)[k]? = some (rows.getD (2 * k) []) := by
    unfold upL
    rw [if_pos (by omega), List.getElem?_append_right (by rw [upN_len]; omega), upN_len, show k - rows.length / 2 = 0 by omega, show rows.length - 1 = 2 * k by omega]
    rfl
  rw [this]
  rfl
set_option maxHeartbeats 3200000 in
set_option maxRecDepth 100000 in
theorem rows_calls (gh : Nat) (A : Option Addr) (c : Nat) (l : List Int) (w : World) (hg : w.heap[gh]? = some (.cells hk 72 (0, 0))) (hr : B.C w A l.length l) (hc : l.length ≤ c) (hb : Sha.bytes l) (hl : l.length < 10000000) :
    Calls Tryd.prog 27 #[.pointer (some ⟨gh, 0, none⟩), .slice A l.length c] w fun e w' => ∃ v, e = .returned v ∧ Kd.R KR 41 w' w.heap.size (fun _ => True) v (rowsL l) ∧ Below w.heap.size w w' := by
  have HR := Aside0.mk hr
  have HY := Aside0.mk hb
  have HG := Aside0.mk hg
  have HC := Aside0.mk (fun w => rcount_calls l.length w (by omega))
  have hN : countN l.length ≤ 1000000 := by unfold countN; omega
  have HLV := Aside0.mk (show leavesL l = leavesP l (countN l.length) from rfl)
  have HRW := Aside0.mk (show leavesL l :: rowsP (leavesL l) = rowsL l from rfl)
  clear hr hb hg
  have HLR := Aside0.mk (leaves_D l)
  have HLL := Aside0.mk (leavesL_len l)
  generalize rowsL l = RR at HRW ⊢
  generalize hNN : countN l.length = N at HC hN HLV HLL
  have HNN := Aside0.mk hNN
  clear hNN
  go_enter Tryd.func27, Tryd.ntmps27
  go_wp2
  go_loopw [5, 6] (fun v i wr => ∃ k : Nat, k ≤ N ∧ i = .int .i64 (k : Int) ∧ Aside0 (Kd.R KD 31 wr w.heap.size (fun _ => True) v (leavesP l k)) ∧ Aside0 (Below w.heap.size w wr)) (fun _ i _ => N - (intOf i).toNat)
  case atStart => exact ⟨0, Nat.zero_le _, rfl, ⟨Kd.R_nil _ _ _ _ _⟩, ⟨Below.refl _ _⟩⟩
  case round =>
    obtain ⟨k, hk, rfl, HO, HB⟩ := hrel
    go_wp2_with fail
    refine (HC.out _).mono ?_
    rintro e w1 ⟨rfl, hw⟩
    replace hw := hw.symm
    subst hw
    by_cases hlt : k < N
    · have hkN : (k : Int) < (N : Int) := by omega
      have HS := Aside0.mk (leavesP_succ l k)
      have HLP := Aside0.mk (leavesP_len l k)
      have hcl : (chunkL l k).length ≤ 64 := by rw [chunk_len (by rw [HNN.out]; exact hlt)]; omega
      have HCB := Aside0.mk (chunk_bytes HY.out k)
      have HDG := Aside0.mk (shaI_len (0 :: (be8 k ++ chunkL l k)))
      go_wp2_with fail
      refine (rchunk_calls A c l k _ (Kd.C_below HR.out HB.out) hc hl (by rw [HNN.out]; exact hlt)).mono ?_
      rintro e w2 ⟨v, rfl, ho, hb⟩
      have HB2 := Aside0.mk (below_step HB.out hb)
      replace HO := Aside0.mk (Kd.R_below HO.out hb)
      have HRw : Aside0 (∀ A8 c8', v = .slice A8 (chunkL l k).length c8' → Rw w2 A8 (chunkL l k) _ _) := ⟨fun A8 c8' e => Rw.of (e ▸ ho)⟩
      obtain ⟨A2, c2, rfl, hc2, hr2⟩ := Kd.R_reads ho
      clear hb ho hr2 HB
      go_wp2_with fail
      refine (leafB_calls k A2 c2 (chunkL l k) _ (by omega) (HRw.out _ _ rfl).C hc2 (by omega)).mono ?_
      rintro e w3 ⟨v, rfl, ho, hb⟩
      have HB3 := Aside0.mk (below_step HB2.out hb)
      replace HO := Aside0.mk (Kd.R_below HO.out hb)
      have HLB := Aside0.mk (show Sha.bytes (0 :: (be8 k ++ chunkL l k)) from fun x hx => by
        rcases List.mem_cons.1 hx with rfl | hx
        · omega
        · exact bytes_app (be8_bytes k) HCB.out x hx)
      have HLN := Aside0.mk (show (0 :: (be8 k ++ chunkL l k)).length < 100000000 by simp [be8]; omega)
      replace HDG := Aside0.mk (show (leafI k (chunkL l k)).length = 32 from HDG.out)
      have HDE := Aside0.mk (show shaI (0 :: (be8 k ++ chunkL l k)) = leafI k (chunkL l k) from rfl)
      generalize leafI k (chunkL l k) = D at HS HDG HDE
      generalize (0 :: (be8 k ++ chunkL l k) : List Int) = lb at *
      have HRx : Aside0 (∀ A8 c8', v = .slice A8 lb.length c8' → Rw w3 A8 lb _ _) := ⟨fun A8 c8' e => Rw.of (e ▸ ho)⟩
      obtain ⟨A3, c3, rfl, hc3, hr3⟩ := Kd.R_reads ho
      clear hb ho hr3 HB2 HRw hc2
      go_wp2_with fail
      refine (hsum_calls gh A3 c3 lb _ (heap_keep HG.out HB3.out) (HRx.out _ _ rfl).C hc3 HLB.out HLN.out).mono ?_
      rintro e w4 ⟨rfl, hb⟩
      rw [HDE.out]
      have HB4 := Aside0.mk (below_step HB3.out hb)
      replace HO := Aside0.mk (Kd.R_below HO.out hb)
      clear hb HRx HB3
      go_wp2_with (first | ((with_reducible refine gate_dst (N := 25) rfl ?_); refine wpList_lit rfl (.tmp 24) rfl HDG.out rfl ?_) | ((with_reducible refine gate_builtin (b := .append) (xs := #[.tmp 17, .tmp 25]) rfl ?_); at_builtin; refine Kd.R_append KD (w0 := w) w.heap.size rfl (.tmp 17) (.tmp 25) 41 31 (.agg #[.int .u8 0, .int .u8 0, .int .u8 0, .int .u8 0, .int .u8 0, .int .u8 0, .int .u8 0, .int .u8 0, .int .u8 0, .int .u8 0, .int .u8 0, .int .u8 0, .int .u8 0, .int .u8 0, .int .u8 0, .int .u8 0, .int .u8 0, .int .u8 0, .int .u8 0, .int .u8 0, .int .u8 0, .int .u8 0, .int .u8 0, .int .u8 0, .int .u8 0, .int .u8 0, .int .u8 0, .int .u8 0, .int .u8 0, .int .u8 0, .int .u8 0, .int .u8 0]) 32 rfl Tryd.underlying41 infoDG rfl (by decide) (by omega) _ (leavesP l k) D (D.map (Value.int .u8)) (fun _ => True) (fun _ => False) rfl rfl (KD_of HDG.out) (fun _ h => h.elim) (fun _ _ => trivial) HO.out HB4.out HB4.out.size ?aL ?_; (case aL => rw [HLP.out]; omega); intro v2 w6 ho hb2 hg hat; rw [HS.out] at ho; have HO2 := Aside0.mk ho; have HB5 := Aside0.mk hb2; clear ho hb2 hg hat))
      go_roundw
      case rel => exact ⟨k + 1, by omega, by go_num, HO2, HB5⟩
      case measure => simp [intOf]; omega
    · obtain rfl : k = N := by omega
      rw [← HLV.out] at HO
      clear hlt hk HC HNN HLV
      generalize leavesL l = L at HO HRW HLR HLL
      obtain ⟨A5, c5, rfl, hc5, hr5⟩ := Kd.R_reads HO.out
      have HCL := Aside0.mk hr5
      have hL7 : L.length ≤ 1000000 := by rw [HLL.out]; exact hN
      clear hr5 HLL
      go_wp2_with (first | ((with_reducible refine gate_dst (N := 28) rfl ?_); refine Kd.R_lit KR (w0 := w) w.heap.size 41 ?hg (N := 28) ?hd (xs := [L]) (inner := [.slice A5 L.length c5]) (ok := fun _ => True) (okp := fun _ => True) ?hr ?hp (fun _ hk => hk) trivial HB.out HB.out.size (by simp) ?_; (case hd => rfl); (case hg => rfl); (case hr => first | (go_simp; done) | (go_simp; rfl)); (case hp => exact Reps.one ⟨_, rfl, HO.out⟩ (Reps.none _ _)); intro v1 w2 ho hb1 hg hnew; have HQ := Aside0.mk ho; have HBQ := Aside0.mk hb1; have HCQ := Aside0.mk (Kd.C_below HCL.out (grown_below hg)); clear ho hb1 hg hnew))
      clear HO HB HCL
      go_loopw [5, 7] (fun v5 v7 wr => ∃ (done : List (List (List Int))) (cur : List (List Int)) (A5 : Option Addr) (c5 : Nat), Aside0 (done ++ rowsP cur = RR) ∧ v5 = .slice A5 cur.length c5 ∧ cur.length ≤ c5 ∧ done.length + cur.length ≤ 1000002 ∧ Aside0 (isRow cur) ∧ Aside0 (KD.C wr A5 cur.length cur) ∧ Aside0 (Kd.R KR 41 wr w.heap.size (fun _ => True) v7 done) ∧ Aside0 (Below w.heap.size w wr)) (fun v5 _ _ => slLen v5)
      case atStart => exact ⟨[L], L, A5, c5, ⟨HRW.out⟩, rfl, hc5, by simp; omega, HLR, HCQ, HQ, HBQ⟩
      case round =>
        clear HCQ HQ HBQ hc5 hL7 HLR HRW
        obtain ⟨wo, rfl⟩ : ∃ wo, wo = wr := ⟨_, rfl⟩
        obtain ⟨done, cur, A5, c5, HRR, rfl, hc5, hdl, HIR, HCU, HDN, HBo⟩ := hrel
        by_cases h1 : 1 < cur.length
        · have h1i : (cur.length : Int) > 1 := by omega
          have HUL := Aside0.mk (upL_len cur)
          replace HRR := Aside0.mk (show (done ++ [upL cur]) ++ rowsP (upL cur) = RR by have e : rowsP cur = _ := rowsP_up (by omega); rw [← HRR.out, e, List.append_assoc]; rfl)
          have HUR := Aside0.mk (upL_row HIR.out)
          have HU2 := Aside0.mk (fun k h => up_two cur k h)
          have HU1 := Aside0.mk (fun k h => up_one cur k h)
          generalize upL cur = U at *
          have hn63 : cur.length ≤ 1000002 := by omega
          go_wp2
          go_loopw [8, 9] (fun v i wz => ∃ k q : Nat, Aside0 (q = 2 * k) ∧ 2 * k ≤ cur.length + 1 ∧ i = .int .i64 (q : Int) ∧ Aside0 (Kd.R KD 31 wz wo.heap.size (fun _ => True) v (U.take k)) ∧ Aside0 (Below wo.heap.size wo wz)) (fun _ i _ => cur.length + 2 - (intOf i).toNat)
          case atStart => exact ⟨0, 0, ⟨rfl⟩, by omega, rfl, ⟨Kd.R_nil _ _ _ _ _⟩, ⟨Below.refl _ _⟩⟩
          case round =>
            obtain ⟨wz, rfl⟩ : ∃ wz, wz = wr := ⟨_, rfl⟩
            obtain ⟨k, q, HQ, hk, rfl, HO, HB⟩ := hrel
            by_cases hlt : q < cur.length
            · have hq6 : q ≤ 1000002 := by omega
              have HLP := Aside0.mk (show (U.take k).length ≤ 1000002 by rw [List.length_take]; have := HUL.out; omega)
              obtain ⟨q1, hq1e⟩ : ∃ q1, q1 = q + 1 := ⟨_, rfl⟩
              have HQ1 := Aside0.mk hq1e
              by_cases hp : q + 1 < cur.length
              · have hpi : (q : Int) + 1 < (cur.length : Int) := by omega
                have hq1 : q1 < cur.length := by omega
                have HS := Aside0.mk (show U.take k ++ [pairI (cur.getD q []) (cur.getD q1 [])] = U.take (k + 1) by have h := HU2.out k (by have := HQ.out; omega); rw [hq1e, HQ.out]; exact h)
                have HW1 := Aside0.mk (show IntKind.i64.wrap ((q : Int) + 1) = (q1 : Int) by simp [IntKind.wrap, IntKind.bits, IntKind.signed]; omega)
                have HA := Aside0.mk (isRow_getD HIR.out q hlt)
                have HBB := Aside0.mk (isRow_getD HIR.out q1 hq1)
                obtain ⟨ad, rfl, _, _⟩ := row_ld HCU.out q hlt
                clear hq1e
                have hS0 : Below wo.heap.size wo wz.drew := below_drew1 HB.out
                have HOd := Aside0.mk (Kd.R_drew HO.out)
                generalize hea : cur.getD q [] = a at *
                generalize heb : cur.getD q1 [] = b at *
                have HX0 := Aside0.mk (show ∀ w' : World, Below wo.heap.size wo w' → (Instr.loadAt 31 (.pointer (some (ad.add (q * 32))))).run Tryd.prog w' = .ok (vd a) w' from fun w' h => row_load' HCU.out h q hlt hea)
                have HX1 := Aside0.mk (show ∀ w' : World, Below wo.heap.size wo w' → (Instr.loadAt 31 (.pointer (some (ad.add (q1 * 32))))).run Tryd.prog w' = .ok (vd b) w' from fun w' h => row_load' HCU.out h q1 hq1 heb)
                clear hea heb
                obtain ⟨X, hX⟩ : ∃ X, X = 1 :: (a ++ b) := ⟨_, rfl⟩
                have HXE := Aside0.mk hX
                have HXB := Aside0.mk (show Sha.bytes X from fun x hx => by
                  rw [HXE.out] at hx
                  rcases List.mem_cons.1 hx with rfl | hx
                  · omega
                  · exact bytes_app HA.out.2 HBB.out.2 x hx)
                have HXN := Aside0.mk (show X.length < 100000000 by rw [HXE.out]; simp [HA.out.1, HBB.out.1])
                have HPE := Aside0.mk (show shaI X = pairI a b by rw [HXE.out]; rfl)
                clear hX
                have HDG := Aside0.mk (show (pairI a b).length = 32 from shaI_len _)
                generalize pairI a b = D at HS HPE HDG
                go_upto_region 13 with (fail)
                refine start_ (n := 16) (S := fun w' => Below wo.heap.size wo w') (ds := []) #[false, false, false, false, false, false, false, false, false, false, false, false, false, false, false, false] (by kernel_rfl) rfl rfl (by exact hS0) (fun hHeld => ?_)
                refine with_tabW rw_tab13 rw_bits13 (fun HT_ HW_ => ?_)
                refine pure_ (i := 0) (N := some 43) (v := ?_) (a' := ?_) #[true, false, false, false, false, false, false, false, false, false, false, false, false, false, false, false] rfl rfl (any_of HT_.out (by kernel_rfl)) (fun _ _ _ h => h) (Or.inl ⟨by rfl, ?_⟩) ?_ ?_
                rotate_left
                · intro w'
                  go_simp
                  with_reducible rfl
                rotate_left
                · simp only [Act.put, List.setIfInBounds_toArray, List.set_cons_zero, List.set_cons_succ, i64_w, i32_w]
                  rfl
                refine pure_ (i := 1) (N := some 44) (v := ?_) (a' := ?_) #[true, true, false, false, false, false, false, false, false, false, false, false, false, false, false, false] rfl rfl (any_of HT_.out (by kernel_rfl)) (fun _ _ _ h => h) (Or.inl ⟨by rfl, ?_⟩) ?_ ?_
                rotate_left
                · intro w'
                  go_simp
                  with_reducible rfl
                rotate_left
                · simp only [Act.put, List.setIfInBounds_toArray, List.set_cons_zero, List.set_cons_succ, i64_w, i32_w]
                  rfl
                refine pure_ (i := 2) (N := some 45) (v := ?_) (a' := ?_) #[true, true, true, false, false, false, false, false, false, false, false, false, false, false, false, false] rfl rfl (any_of HT_.out (by kernel_rfl)) (fun _ _ _ h => h) (Or.inl ⟨by rfl, ?_⟩) ?_ ?_
                rotate_left
                · intro w'
                  go_simp
                  with_reducible rfl
                rotate_left
                · simp only [Act.put, List.setIfInBounds_toArray, List.set_cons_zero, List.set_cons_succ, i64_w, i32_w]
                  rfl
                refine pure_ (i := 3) (N := some 46) (v := ?_) (a' := ?_) #[true, true, true, true, false, false, false, false, false, false, false, false, false, false, false, false] rfl rfl (any_of HT_.out (by kernel_rfl)) (fun _ _ _ h => h) (Or.inl ⟨by rfl, ?_⟩) ?_ ?_
                rotate_left
                · intro w'
                  go_simp
                  with_reducible rfl
                rotate_left
                · simp only [Act.put, List.setIfInBounds_toArray, List.set_cons_zero, List.set_cons_succ, i64_w, i32_w]
                  rfl
                refine pure_ (i := 4) (N := some 47) (v := ?_) (a' := ?_) #[true, true, true, true, true, false, false, false, false, false, false, false, false, false, false, false] rfl rfl (any_of HT_.out (by kernel_rfl)) (fun _ _ _ h => h) (Or.inl ⟨by rfl, ?_⟩) ?_ ?_
                rotate_left
                · intro w'
                  go_simp
                  with_reducible rfl
                rotate_left
                · simp only [Act.put, List.setIfInBounds_toArray, List.set_cons_zero, List.set_cons_succ, i64_w, i32_w]
                  rfl
                refine pure_ (i := 6) (N := some 49) (v := ?_) (a' := ?_) #[true, true, true, true, true, false, true, false, false, false, false, false, false, false, false, false] rfl rfl (any_of HT_.out (by kernel_rfl)) (fun _ _ _ h => h) (Or.inl ⟨by rfl, ?_⟩) ?_ ?_
                rotate_left
                · intro w'
                  go_simp
                  with_reducible rfl
                rotate_left
                · simp only [Act.put, List.setIfInBounds_toArray, List.set_cons_zero, List.set_cons_succ, i64_w, i32_w]
                  rfl
                refine pure_ (i := 7) (N := some 50) (v := ?_) (a' := ?_) #[true, true, true, true, true, false, true, true, false, false, false, false, false, false, false, false] rfl rfl (any_of HT_.out (by kernel_rfl)) (fun _ _ _ h => h) (Or.inl ⟨by rfl, ?_⟩) ?_ ?_
                rotate_left
                · intro w'
                  go_simp
                  with_reducible rfl
                rotate_left
                · simp only [Act.put, List.setIfInBounds_toArray, List.set_cons_zero, List.set_cons_succ, i64_w, i32_w]
                  rfl
                refine pure_ (i := 8) (N := some 51) (v := ?_) (a' := ?_) #[true, true, true, true, true, false, true, true, true, false, false, false, false, false, false, false] rfl rfl (any_of HT_.out (by kernel_rfl)) (fun _ _ _ h => h) (Or.inl ⟨by rfl, ?_⟩) ?_ ?_
                rotate_left
                · intro w'
                  go_simp
                  rw [HW1.out]
                rotate_left
                · simp only [Act.put, List.setIfInBounds_toArray, List.set_cons_zero, List.set_cons_succ, i64_w, i32_w]
                  rfl
                refine pure_ (i := 9) (N := some 52) (v := ?_) (a' := ?_) #[true, true, true, true, true, false, true, true, true, true, false, false, false, false, false, false] rfl rfl (any_of HT_.out (by kernel_rfl)) (fun _ _ _ h => h) (Or.inl ⟨by rfl, ?_⟩) ?_ ?_
                rotate_left
                · intro w'
                  go_simp
                  with_reducible rfl
                rotate_left
                · simp only [Act.put, List.setIfInBounds_toArray, List.set_cons_zero, List.set_cons_succ, i64_w, i32_w]
                  rfl
                refine take_ (i := 5) (N := some 48) (v := ?_) (a' := ?_) #[true, true, true, true, true, true, true, true, true, true, false, false, false, false, false, false] rfl rfl (take_ofW HT_.out HW_.out (by kernel_rfl)) (fun _ _ _ h => h) (Or.inl ⟨by rfl, ?_⟩) hHeld ?_ ?_
                rotate_left
                · intro w' hSt
                  refine (exec_load (p := .pointer (some (ad.add (q * 32)))) rfl rfl (HX0.out w' hSt)).trans ?_
                  with_reducible rfl
                rotate_left
                · simp only [Act.put, List.setIfInBounds_toArray, List.set_cons_zero, List.set_cons_succ, i64_w, i32_w]
                  rfl
                refine take_ (i := 10) (N := some 53) (v := ?_) (a' := ?_) #[true, true, true, true, true, true, true, true, true, true, true, false, false, false, false, false] rfl rfl (take_ofW HT_.out HW_.out (by kernel_rfl)) (fun _ _ _ h => h) (Or.inl ⟨by rfl, ?_⟩) hHeld ?_ ?_
                rotate_left
                · intro w' hSt
                  refine (exec_load (p := .pointer (some (ad.add (q1 * 32)))) rfl rfl (HX1.out w' hSt)).trans ?_
                  with_reducible rfl
                rotate_left
                · simp only [Act.put, List.setIfInBounds_toArray, List.set_cons_zero, List.set_cons_succ, i64_w, i32_w]
                  rfl
                refine one_ (i := 11) (N := some 54) #[true, true, true, true, true, true, true, true, true, true, true, true, false, false, false, false] rfl rfl (one_of HT_.out (by kernel_rfl)) (by decide) (fun K hK => ?_)
                refine goes_ Tryd.func53 (by kernel_rfl) rfl #[vd a, vd b] (by rfl) rfl rfl (by (try simp only [List.map_toArray, List.map_cons, List.map_nil]); first | done | rfl) ?_
                refine (nodeB' a b X _ HA.out.1 HBB.out.1 HXE.out).mono ?_
                rintro e w3 ⟨A7, c7, rfl, hc7, hC7, hb⟩
                refine ⟨_, rfl, ?_⟩
                have hS1 := below_step hHeld hb
                have HO3 := Aside0.mk (Kd.R_below HOd.out hb)
                have HC7 := Aside0.mk hC7
                clear hb hC7
                refine hK.out _ _ (by exact hS1) (fun hHeld => ?_)
                clear hK K
                refine norm_ (a' := ?_) ?_ ?_
                rotate_left
                · first
                  | (show Act.put _ (some 54) _ = _; simp only [Act.put, List.setIfInBounds_toArray, List.set_cons_zero, List.set_cons_succ, i64_w, i32_w]; rfl)
                  | rfl
                refine one_ (i := 12) (N := some 55) #[true, true, true, true, true, true, true, true, true, true, true, true, true, false, false, false] rfl rfl (one_of HT_.out (by kernel_rfl)) (by decide) (fun K hK => ?_)
                refine goes_ Tryd.func28 (by kernel_rfl) rfl #[.pointer (some ⟨gh, 0, none⟩), .slice A7 X.length c7] (by rfl) rfl rfl (by (try simp only [List.map_toArray, List.map_cons, List.map_nil]); first | done | rfl) ?_
                refine (hsum_calls gh A7 c7 X _ (heap_keep HG.out (below_step HBo.out hHeld)) HC7.out hc7 HXB.out HXN.out).mono ?_
                rintro e w4 ⟨rfl, hb⟩
                refine ⟨_, rfl, ?_⟩
                rw [HPE.out]
                have hS1 := below_step hHeld hb
                have HO4 := Aside0.mk (Kd.R_below HO3.out hb)
                clear hb
                refine hK.out _ _ (by exact hS1) (fun hHeld => ?_)
                clear hK K
                refine norm_ (a' := ?_) ?_ ?_
                rotate_left
                · first
                  | (show Act.put _ (some 55) _ = _; simp only [Act.put, List.setIfInBounds_toArray, List.set_cons_zero, List.set_cons_succ, i64_w, i32_w]; rfl)
                  | rfl
                refine one_ (i := 13) (N := some 56) #[true, true, true, true, true, true, true, true, true, true, true, true, true, true, false, false] rfl rfl (one_of HT_.out (by kernel_rfl)) (by decide) (fun K hK => ?_)
                refine lit_step (by rfl) (.tmp 55) rfl HDG.out rfl ?_
                have HHA := Aside0.mk hHeld
                have hS1 := hHeld.alloc hHeld.size (.cells (cb D) 31)
                refine hK.out _ _ (by exact hS1) (fun hHeld => ?_)
                clear hK K
                refine norm_ (a' := ?_) ?_ ?_
                rotate_left
                · first
                  | (show Act.put _ (some 56) _ = _; simp only [Act.put, List.setIfInBounds_toArray, List.set_cons_zero, List.set_cons_succ, i64_w, i32_w]; rfl)
                  | rfl
                refine one_ (i := 14) (N := some 57) #[true, true, true, true, true, true, true, true, true, true, true, true, true, true, true, false] rfl rfl (one_of HT_.out (by kernel_rfl)) (by decide) (fun K hK => ?_)
                refine Kd.R_append_step KD (w0 := wo) wo.heap.size (by rfl) (.tmp 43) (.tmp 56) 41 31 (.agg #[.int .u8 0, .int .u8 0, .int .u8 0, .int .u8 0, .int .u8 0, .int .u8 0, .int .u8 0, .int .u8 0, .int .u8 0, .int .u8 0, .int .u8 0, .int .u8 0, .int .u8 0, .int .u8 0, .int .u8 0, .int .u8 0, .int .u8 0, .int .u8 0, .int .u8 0, .int .u8 0, .int .u8 0, .int .u8 0, .int .u8 0, .int .u8 0, .int .u8 0, .int .u8 0, .int .u8 0, .int .u8 0, .int .u8 0, .int .u8 0, .int .u8 0, .int .u8 0]) 32 rfl Tryd.underlying41 infoDG rfl (by decide) (by omega) _ (U.take k) D (D.map (Value.int .u8)) (fun _ => True) (fun _ => False) rfl rfl (KD_of HDG.out) (fun _ h => h.elim) (fun _ _ => trivial) HO4.out HHA.out HHA.out.size ?aL ?_
                case aL => have := HLP.out; omega
                intro v2 w6 ho hb2 _ _
                rw [HS.out] at ho
                have HO2 := Aside0.mk ho
                clear ho
                have hS1 := hb2
                clear hb2
                refine hK.out _ _ (by exact hS1) (fun hHeld => ?_)
                clear hK K
                refine norm_ (a' := ?_) ?_ ?_
                rotate_left
                · first
                  | (show Act.put _ (some 57) _ = _; simp only [Act.put, List.setIfInBounds_toArray, List.set_cons_zero, List.set_cons_succ, i64_w, i32_w]; rfl)
                  | rfl
                refine pure_ (i := 15) (N := some 8) (v := ?_) (a' := ?_) #[true, true, true, true, true, true, true, true, true, true, true, true, true, true, true, true] rfl rfl (any_of HT_.out (by kernel_rfl)) (fun _ _ _ h => h) (Or.inl ⟨by rfl, ?_⟩) ?_ ?_
                rotate_left
                · intro w'
                  go_simp
                  with_reducible rfl
                rotate_left
                · simp only [Act.put, List.setIfInBounds_toArray, List.set_cons_zero, List.set_cons_succ, i64_w, i32_w]
                  rfl
                refine done_ (done_of HT_.out (by kernel_rfl)) ?_
                have HB4 := Aside0.mk hHeld
                clear hS0 hHeld HT_ HW_
                go_wp2
                go_roundw
                case rel => exact ⟨k + 1, q + 2, ⟨by have := HQ.out; omega⟩, by have := HQ.out; omega, by go_num, HO2, HB4⟩
                case measure => simp [intOf]; omega
              · have hpi : ¬ (q : Int) + 1 < (cur.length : Int) := by omega
                have HS := Aside0.mk (show U.take k ++ [cur.getD q []] = U.take (k + 1) by have h := HU1.out k (by have := HQ.out; omega); rw [HQ.out]; exact h)
                have HDG := Aside0.mk (isRow_getD HIR.out q hlt).1
                obtain ⟨ad, rfl, _, _⟩ := row_ld HCU.out q hlt
                generalize hD : cur.getD q [] = D at HS HDG
                have HX := Aside0.mk (row_load' HCU.out HB.out q hlt hD)
                clear hD
                go_wp2_with (first | ((with_reducible refine gate_dst (N := 62) rfl ?_); refine wpList_load_at rfl (ty := 31) (x := .tmp 61) (p := .pointer (some (ad.add (q * 32)))) (v := vd D) rfl rfl HX.out ?_) | ((with_reducible refine gate_dst (N := 63) rfl ?_); refine wpList_lit rfl (.tmp 62) rfl HDG.out rfl ?_) | ((with_reducible refine gate_builtin (b := .append) (xs := #[.tmp 58, .tmp 63]) rfl ?_); at_builtin; refine Kd.R_append KD (w0 := wo) wo.heap.size rfl (.tmp 58) (.tmp 63) 41 31 (.agg #[.int .u8 0, .int .u8 0, .int .u8 0, .int .u8 0, .int .u8 0, .int .u8 0, .int .u8 0, .int .u8 0, .int .u8 0, .int .u8 0, .int .u8 0, .int .u8 0, .int .u8 0, .int .u8 0, .int .u8 0, .int .u8 0, .int .u8 0, .int .u8 0, .int .u8 0, .int .u8 0, .int .u8 0, .int .u8 0, .int .u8 0, .int .u8 0, .int .u8 0, .int .u8 0, .int .u8 0, .int .u8 0, .int .u8 0, .int .u8 0, .int .u8 0, .int .u8 0]) 32 rfl Tryd.underlying41 infoDG rfl (by decide) (by omega) _ (U.take k) D (D.map (Value.int .u8)) (fun _ => True) (fun _ => False) rfl rfl (KD_of HDG.out) (fun _ h => h.elim) (fun _ _ => trivial) HO.out HB.out HB.out.size ?aL ?_; (case aL => have := HLP.out; omega); intro v2 w6 ho hb2 hg hat; rw [HS.out] at ho; have HO2 := Aside0.mk ho; have HB2 := Aside0.mk hb2; clear ho hb2 hg hat))
                go_roundw
                case rel => exact ⟨k + 1, q + 2, ⟨by have := HQ.out; omega⟩, by have := HQ.out; omega, by go_num, HO2, HB2⟩
                case measure => simp [intOf]; omega
            · have HT := Aside0.mk (show U.take k = U from List.take_of_length_le (by have := HUL.out; have := HQ.out; omega))
              rw [HT.out] at HO
              have hUd : done.length + 1 + U.length ≤ 1000002 := by have := HUL.out; omega
              have hUl : U.length < cur.length := by have := HUL.out; omega
              have hd9 : done.length ≤ 1000002 := by omega
              clear HUL HT HU1 HU2 HQ HIR HCU
              obtain ⟨A8, c8', rfl, hc8, hr8⟩ := Kd.R_reads HO.out
              have HBZ := Aside0.mk (below_step HBo.out HB.out)
              have HDZ := Aside0.mk (Kd.R_below HDN.out HB.out)
              have HAP := Aside0.mk (Kd.R_apartR (Kd.R_lower HO.out HBo.out.size) HDZ.out (by decide))
              clear hr8
              go_wp2_with (first | ((with_reducible refine gate_builtin (b := .append) (xs := #[.tmp 65, .tmp 67]) rfl ?_); at_builtin; refine Kd.R_append KR (w0 := w) w.heap.size rfl (.tmp 65) (.tmp 67) 73 41 (.slice none 0 0) 24 rfl Tryd.underlying73 infoRow rfl (by decide) (by omega) _ done U [.slice A8 U.length c8'] (fun _ => True) _ rfl rfl ⟨_, rfl, HAP.out⟩ (fun _ h => ⟨trivial, h.2⟩) (fun _ _ => trivial) HDZ.out HBZ.out HBZ.out.size ?aL ?_; (case aL => omega); intro v2 w6 ho hb2 hg hat; have HO2 := Aside0.mk ho; have HB2 := Aside0.mk hb2; have HC2 := Aside0.mk (RC (Kd.R_over HO.out HDZ.out (by decide) hg)); clear ho hb2 hg hat))
              go_roundw
              case rel => exact ⟨done ++ [U], U, A8, c8', HRR, rfl, hc8, by simp; omega, HUR, HC2, HO2, HB2⟩
              case measure => simp [slLen]; omega
        · have h1i : ¬ (cur.length : Int) > 1 := by omega
          have HE := Aside0.mk (show done = RR by rw [← HRR.out, rowsP_end (by omega), List.append_nil])
          go_wp2
          go_ret
          exact ⟨_, rfl, by rw [← HE.out]; exact HDN.out, HBo.out⟩
end Go.Proofs.YtoiblfmlahedlaaDoor.Ref
end
section
namespace Go.Proofs.YtoiblfmlahedlaaDoor.Ref
open Go.RowKit Go.Proofs.YtoiblfmlahedlaaDoorW.PrintWords Go.Proofs.YtoiblfmlahedlaaDoorW.PrintLast Go.Proofs.YtoiblfmlahedlaaDoorW.PrintMore
set_option linter.unusedVariables false
set_option linter.unusedSimpArgs false
set_option maxRecDepth 100000
open Go.Proofs.YtoiblfmlahedlaaDoor.Sha
theorem rowR_at {w : World} {A : Option Addr} {n : Nat} {xs : List (List (List Int))} (h : Kd.C KR w A n xs) (k : Nat) (hk : k < n) : ∃ ad A0 c0, A = some ad ∧ w.cell? (ad.add k) = some (.slice A0 (xs.getD k []).length c0) ∧ (xs.getD k []).length ≤ c0 ∧ KD.C w A0 (xs.getD k []).length (xs.getD k []) := by
  obtain ⟨ad, c, e, _, hK, hc0⟩ := Kd.C_get h ([] : List (List Int)) (k : Int) (by omega) (by omega)
  have hc : ∀ j u, c[j]? = some u → w.cell? (ad.add (k * 1 + j)) = some u := hc0
  obtain ⟨A0, c0, rfl, l0, g0⟩ := hK
  simp only [Int.toNat_natCast] at l0 g0 hc
  exact ⟨ad, A0, c0, e, by have hq := hc 0 _ rfl; rwa [Nat.mul_one, Nat.add_zero] at hq, l0, g0⟩
theorem rows_last (n : Nat) : ∀ rows : List (List Int), rows.length ≤ n → (rows :: rowsP rows).getD (rowsP rows).length [] = climb rows
  | rows, h => by
    by_cases h1 : rows.length ≤ 1
    · rw [rowsP_end h1, climb_end h1]
      rfl
    · match n with
      | 0 => omega
      | n + 1 =>
        have hl := upL_len rows
        have ih := rows_last n (upL rows) (by omega)
        have e : rowsP rows = _ := rowsP_up h1
        rw [e, climb_up h1, ← ih]
        simp
theorem climb_row {rows : List (List Int)} (n : Nat) (hn : rows.length ≤ n) (h : isRow rows) (h1 : 1 ≤ rows.length) : isRow (climb rows) ∧ 1 ≤ (climb rows).length ∧ (climb rows).length ≤ 1 := by
  induction n generalizing rows with
  | zero => omega
  | succ n ih =>
    by_cases h2 : rows.length ≤ 1
    · rw [climb_end h2]
      exact ⟨h, h1, h2⟩
    · rw [climb_up h2]
      have hl := upL_len rows
      exact ih (by omega) (upL_row h) (by omega)
set_option maxHeartbeats 1600000 in
set_option maxRecDepth 100000 in
theorem rroot_calls (gh : Nat) (A : Option Addr) (c : Nat) (l : List Int) (w : World) (hg : w.heap[gh]? = some (.cells hk 72 (0, 0))) (hr : B.C w A l.length l) (hc : l.length ≤ c) (hb : Sha.bytes l) (hl : l.length < 10000000) :
    Calls Tryd.prog 11 #[.pointer (some ⟨gh, 0, none⟩), .slice A l.length c] w fun e w' => e = .returned (vd (rootOf l)) ∧ Below w.heap.size w w' := by
  have HR := Aside0.mk hr
  have HY := Aside0.mk hb
  have HG := Aside0.mk hg
  have HLL := Aside0.mk (show 1 ≤ (leavesL l).length by rw [leavesL_len]; exact count_pos _)
  have HCR := Aside0.mk (climb_row (rows := leavesL l) _ (Nat.le_refl _) (leaves_D l) HLL.out)
  have HLA := Aside0.mk (rows_last _ (leavesL l) (Nat.le_refl _))
  have HRO := Aside0.mk (show rootOf l = shaI (2 :: (be8 l.length ++ (climb (leavesL l)).getD 0 [])) from rfl)
  have HLR := Aside0.mk (show (rowsL l).length = (rowsP (leavesL l)).length + 1 from rfl)
  have HLQ := Aside0.mk (show rowsL l = leavesL l :: rowsP (leavesL l) from rfl)
  rw [← HLQ.out] at HLA
  generalize rootOf l = RT at HRO ⊢
  clear hr hb hg HLL HLQ
  go_enter Tryd.func11, Tryd.ntmps11
  go_upto_region 1 with (fail)
  obtain ⟨w1, hw1, HB1, HD, HZ1⟩ := dg_start w
  rw [hw1]
  clear hw1
  go_wp2_with fail
  refine (rows_calls gh A c l _ (heap_keep HG.out HB1.out) (Kd.C_below HR.out HB1.out) hc HY.out hl).mono ?_
  rintro e w2 ⟨v, rfl, ho, hb⟩
  obtain ⟨A3, c3, rfl, hc3, hr3⟩ := Kd.R_reads ho
  have HB2 := Aside0.mk (below_step HB1.out hb)
  have HD2 := Aside0.mk (heap_keep HD.out hb)
  obtain ⟨q, hq⟩ : ∃ q, q = (rowsP (leavesL l)).length := ⟨_, rfl⟩
  rw [← hq] at HLA HLR
  have hlr : (rowsL l).length = q + 1 := HLR.out
  obtain ⟨ad, A0, c0, rfl, hx0, hc0, hr0⟩ := rowR_at hr3 q (by omega)
  rw [HLA.out] at hx0 hc0 hr0
  have hn1 : (climb (leavesL l)).length = 1 := by have := HCR.out; omega
  rw [hn1] at hx0 hc0 hr0
  obtain ⟨ad0, rfl, _, _⟩ := row_ld hr0 0 (by omega)
  have HX := Aside0.mk (show ∀ w' : World, Below w2.heap.size w2 w' → ∀ D, (climb (leavesL l)).getD 0 [] = D → (Instr.loadAt 31 (.pointer (some ad0))).run Tryd.prog w' = .ok (vd D) w' from fun w' h D hD => by have := row_load' hr0 h 0 (by omega) hD; rwa [Nat.zero_mul, Addr.add_zero'] at this)
  have HTD := Aside0.mk (isRow_getD HCR.out.1 0 (by omega))
  generalize (climb (leavesL l)).getD 0 [] = D at HX HTD HRO
  replace HX := Aside0.mk (HX.out w2 (Below.refl _ _) D rfl)
  have hq9 : q ≤ 9223372036854775806 := by have := ho; have := hr3.2.1; omega
  generalize rowsL l = RL at *
  clear ho hb hr3 hr0 HB1 HD HLA hn1 HCR hq HLR
  have hqi : (RL.length : Int) - 1 = (q : Int) := by omega
  have hql : q < RL.length := by omega
  go_wp2_with (first | ((with_reducible refine gate_dst (N := 19) rfl ?_); refine wpList_load_at rfl (ty := 31) (x := .tmp 18) (p := .pointer (some ad0)) (v := vd D) rfl rfl HX.out ?_))
  refine (rootB_calls l.length D _ (by omega) HTD.out.1).mono ?_
  rintro e w3 ⟨A7, c7, rfl, hc7, hC7, hb⟩
  have HB3 := Aside0.mk (below_step HB2.out hb)
  have HD3 := Aside0.mk (heap_keep HD2.out hb)
  have HXB := Aside0.mk (show Sha.bytes (2 :: (be8 l.length ++ D)) from fun x hx => by
    rcases List.mem_cons.1 hx with rfl | hx
    · omega
    · exact bytes_app (be8_bytes _) HTD.out.2 x hx)
  have HXN := Aside0.mk (show (2 :: (be8 l.length ++ D)).length < 100000000 by simp [HTD.out.1, be8])
  generalize (2 :: (be8 l.length ++ D) : List Int) = X at *
  clear hb hx0
  go_wp2_with fail
  refine (hsum_calls gh A7 c7 X _ (heap_keep HG.out HB3.out) hC7 hc7 HXB.out HXN.out).mono ?_
  rintro e w4 ⟨rfl, hb⟩
  rw [← HRO.out]
  have HB4 := Aside0.mk (below_step HB3.out hb)
  have HD4 := Aside0.mk (heap_keep HD3.out hb)
  have HSL := Aside0.mk (show RT.length = 32 by rw [HRO.out]; exact shaI_len _)
  clear hb
  go_wp2_with (first | (refine wpList_store_row rfl 31 (.tmp 4) (.tmp 21) rfl w.heap.size (cb RT) rfl rfl 31 _ HD4.out (infoDg _ HSL.out) (by rw [cb_size, cb_size, HSL.out]; simp) (cb_one _) ?_))
  (try simp only [Exit.inBlock, Exit.then])
  exact dg_ret rfl rfl HSL.out (setRow_heap _ _ _ _ _ _ HD4.out) rfl ⟨rfl, below_setRow HB4.out (Nat.le_refl _) _⟩
end Go.Proofs.YtoiblfmlahedlaaDoor.Ref
end
section
namespace Go.Proofs.YtoiblfmlahedlaaDoor.Ref
open Go.RowKit Go.Proofs.YtoiblfmlahedlaaDoorW.PrintWords Go.Proofs.YtoiblfmlahedlaaDoorW.PrintLast Go.Proofs.YtoiblfmlahedlaaDoorW.PrintMore
set_option linter.unusedVariables false
set_option linter.unusedSimpArgs false
set_option maxRecDepth 100000
open Go.Proofs.YtoiblfmlahedlaaDoor.Sha
set_option maxHeartbeats 3200000 in
set_option maxRecDepth 100000 in
theorem rproof_calls (gh : Nat) (A : Option Addr) (c : Nat) (l : List Int) (i0 : Nat) (w : World) (hg : w.heap[gh]? = some (.cells hk 72 (0, 0))) (hr : B.C w A l.length l) (hc : l.length ≤ c) (hb : Sha.bytes l) (hl : l.length < 10000000) (hi : i0 < countN l.length) :
    Calls Tryd.prog 19 #[.pointer (some ⟨gh, 0, none⟩), .slice A l.length c, .int .i64 (i0 : Int)] w fun e w' => ∃ v, e = .returned v ∧ Kd.R KD 31 w' w.heap.size (fun _ => True) v (proofOf l i0) ∧ Below w.heap.size w w' := by
  have HR := Aside0.mk hr
  have HY := Aside0.mk hb
  have HG := Aside0.mk hg
  have HLN := Aside0.mk (leavesL_len l)
  have HLD := Aside0.mk (leaves_D l)
  have HPR := Aside0.mk (show [] ++ proofP (leavesL l) i0 = proofOf l i0 from rfl)
  have HDR := Aside0.mk (show (rowsL l).drop 0 = leavesL l :: rowsP (leavesL l) from rfl)
  have hcm : countN l.length ≤ 1000000 := by unfold countN; omega
  have hiL : i0 < (leavesL l).length := by rw [HLN.out]; exact hi
  have HL6 := Aside0.mk (show (leavesL l).length ≤ 1000000 by rw [HLN.out]; exact hcm)
  generalize proofOf l i0 = PR at HPR ⊢
  clear hr hb hg HLN
  go_enter Tryd.func19, Tryd.ntmps19
  go_wp2_with fail
  refine (rows_calls gh A c l _ HG.out HR.out hc HY.out hl).mono ?_
  rintro e w2 ⟨v, rfl, ho, hb⟩
  obtain ⟨A3, c3, rfl, hc3, hr3⟩ := Kd.R_reads ho
  have HRC := Aside0.mk hr3
  have HB2 := Aside0.mk hb
  have hRL := hr3.2.1
  clear ho hb hr3
  generalize rowsL l = RL at *
  generalize leavesL l = L at *
  clear hcm hi
  go_wp2
  go_loopw [2, 7, 9] (fun vi v vr wr => ∃ (r i : Nat) (cur acc : List (List Int)), i < cur.length ∧ Aside0 (isRow cur) ∧ Aside0 (RL.drop r = cur :: rowsP cur) ∧ Aside0 (acc ++ proofP cur i = PR) ∧ Aside0 (acc.length + cur.length ≤ 1000002) ∧ vi = .int .i64 (i : Int) ∧ vr = .int .i64 (r : Int) ∧ Aside0 (Kd.R KD 31 wr w2.heap.size (fun _ => True) v acc) ∧ Aside0 (Below w2.heap.size w2 wr)) (fun _ _ vr _ => RL.length - (intOf vr).toNat)
  case atStart => exact ⟨0, i0, L, [], hiL, HLD, HDR, HPR, ⟨by have := HL6.out; simp; omega⟩, rfl, rfl, ⟨Kd.R_nil _ _ _ _ _⟩, ⟨Below.refl _ _⟩⟩
  case round =>
    clear HLD HDR HPR HL6 hiL
    obtain ⟨wo, rfl⟩ : ∃ wo, wo = wr := ⟨_, rfl⟩
    obtain ⟨r, i, cur, acc, hic, HIR, HDU0, HPR, HAL, rfl, rfl, HO, HB⟩ := hrel
    have hlen : RL.length = r + (1 + (rowsP cur).length) := by
      have h := congrArg List.length HDU0.out
      rw [List.length_drop, List.length_cons] at h
      omega
    have hgr : RL.getD r [] = cur := by
      have h := congrArg (fun z => z[0]?) HDU0.out
      simp only [List.getElem?_drop, Nat.add_zero, List.getElem?_cons_zero] at h
      rw [List.getD_eq_getElem?_getD, h]
      rfl
    have hrl : r < RL.length := by omega
    obtain ⟨ad, A0, c0, rfl, hx0, hc0, hr0⟩ := rowR_at (Kd.C_below HRC.out HB.out) r hrl
    rw [hgr] at hx0 hc0 hr0
    have HCC := Aside0.mk hr0
    clear hr0 hgr
    have hi6 : i ≤ 1000002 := by have := HAL.out; omega
    have hcu6 : cur.length ≤ 1000002 := by have := HAL.out; omega
    by_cases h1 : 1 < cur.length
    · have e0 : rowsP cur = _ := rowsP_up (by omega)
      have HUL := upL_len cur
      have hr1 : r + 1 < RL.length := by rw [hlen, e0, List.length_cons]; omega
      have hr1i : (r : Int) + 1 < (RL.length : Int) := by omega
      have HDU := Aside0.mk (show RL.drop (r + 1) = upL cur :: rowsP (upL cur) by rw [← List.drop_drop, HDU0.out, e0]; rfl)
      have HPU := Aside0.mk (proofP_up (rows := cur) i (by omega))
      have HUR := Aside0.mk (upL_row HIR.out)
      clear e0 hlen HDU0
      generalize upL cur = U at *
      have hiU : i / 2 < U.length := by omega
      obtain ⟨m2, hm2e⟩ : ∃ m2, m2 = i % 2 := ⟨_, rfl⟩
      have hm2 : (i : Int) % 2 = (m2 : Int) := by omega
      by_cases he : i % 2 = 0
      · have e1 : ((m2 : Int) == 0) = true := by simp; omega
        obtain ⟨o, hoe⟩ : ∃ o, o = i + 1 := ⟨_, rfl⟩
        have HOI := Aside0.mk (show o = oth i by rw [hoe]; unfold oth; rw [if_pos he])
        have hoi : (i : Int) + 1 = (o : Int) := by omega
        clear hoe hm2e he
        by_cases ho : o < cur.length
        · have HP2 := Aside0.mk (show (acc ++ [cur.getD o []]) ++ proofP U (i / 2) = PR by rw [← HPR.out, HPU.out, if_pos (by rw [← HOI.out]; exact ho), HOI.out, List.append_assoc])
          have HDG := Aside0.mk (isRow_getD HIR.out o ho).1
          obtain ⟨ad0, rfl, _, _⟩ := row_ld HCC.out o ho
          generalize hD : cur.getD o [] = D at HP2 HDG
          have HX := Aside0.mk (row_load' HCC.out (Below.refl _ _) o ho hD)
          clear hD
          go_wp2_with (first | ((with_reducible refine gate_dst (N := 42) rfl ?_); refine wpList_load_at rfl (ty := 31) (x := .tmp 41) (p := .pointer (some (ad0.add (o * 32)))) (v := vd D) rfl rfl HX.out ?_) | ((with_reducible refine gate_dst (N := 43) rfl ?_); refine wpList_lit rfl (.tmp 42) rfl HDG.out rfl ?_) | ((with_reducible refine gate_builtin (b := .append) (xs := #[.tmp 35, .tmp 43]) rfl ?_); at_builtin; refine Kd.R_append KD (w0 := w2) w2.heap.size rfl (.tmp 35) (.tmp 43) 41 31 (.agg #[.int .u8 0, .int .u8 0, .int .u8 0, .int .u8 0, .int .u8 0, .int .u8 0, .int .u8 0, .int .u8 0, .int .u8 0, .int .u8 0, .int .u8 0, .int .u8 0, .int .u8 0, .int .u8 0, .int .u8 0, .int .u8 0, .int .u8 0, .int .u8 0, .int .u8 0, .int .u8 0, .int .u8 0, .int .u8 0, .int .u8 0, .int .u8 0, .int .u8 0, .int .u8 0, .int .u8 0, .int .u8 0, .int .u8 0, .int .u8 0, .int .u8 0, .int .u8 0]) 32 rfl Tryd.underlying41 infoDG rfl (by decide) (by omega) _ (acc) D (D.map (Value.int .u8)) (fun _ => True) (fun _ => False) rfl rfl (KD_of HDG.out) (fun _ h => h.elim) (fun _ _ => trivial) HO.out HB.out HB.out.size ?aL ?_; (case aL => have := HAL.out; omega); intro v2 w6 ho hb2 hg hat; have HO2 := Aside0.mk ho; have HB2 := Aside0.mk hb2; clear ho hb2 hg hat))
          go_roundw
          case rel => exact ⟨r + 1, i / 2, U, acc ++ [D], hiU, HUR, HDU, HP2, ⟨by have := HAL.out; simp; omega⟩, by go_num, by go_num, HO2, HB2⟩
          case measure => simp [intOf]; omega
        · have HP2 := Aside0.mk (show acc ++ proofP U (i / 2) = PR by rw [← HPR.out, HPU.out, if_neg (by rw [← HOI.out]; exact ho)]; rfl)
          go_wp2
          go_roundw
          case rel => exact ⟨r + 1, i / 2, U, acc, hiU, HUR, HDU, HP2, ⟨by have := HAL.out; omega⟩, by go_num, by go_num, HO, HB⟩
          case measure => simp [intOf]; omega
      · have e1 : ((m2 : Int) == 0) = false := by simp; omega
        obtain ⟨o, hoe⟩ : ∃ o, o = i - 1 := ⟨_, rfl⟩
        have HOI := Aside0.mk (show o = oth i by rw [hoe]; unfold oth; rw [if_neg he])
        have hoi : (i : Int) - 1 = (o : Int) := by omega
        clear hoe hm2e he
        by_cases ho : o < cur.length
        · have HP2 := Aside0.mk (show (acc ++ [cur.getD o []]) ++ proofP U (i / 2) = PR by rw [← HPR.out, HPU.out, if_pos (by rw [← HOI.out]; exact ho), HOI.out, List.append_assoc])
          have HDG := Aside0.mk (isRow_getD HIR.out o ho).1
          obtain ⟨ad0, rfl, _, _⟩ := row_ld HCC.out o ho
          generalize hD : cur.getD o [] = D at HP2 HDG
          have HX := Aside0.mk (row_load' HCC.out (Below.refl _ _) o ho hD)
          clear hD
          go_wp2_with (first | ((with_reducible refine gate_dst (N := 42) rfl ?_); refine wpList_load_at rfl (ty := 31) (x := .tmp 41) (p := .pointer (some (ad0.add (o * 32)))) (v := vd D) rfl rfl HX.out ?_) | ((with_reducible refine gate_dst (N := 43) rfl ?_); refine wpList_lit rfl (.tmp 42) rfl HDG.out rfl ?_) | ((with_reducible refine gate_builtin (b := .append) (xs := #[.tmp 35, .tmp 43]) rfl ?_); at_builtin; refine Kd.R_append KD (w0 := w2) w2.heap.size rfl (.tmp 35) (.tmp 43) 41 31 (.agg #[.int .u8 0, .int .u8 0, .int .u8 0, .int .u8 0, .int .u8 0, .int .u8 0, .int .u8 0, .int .u8 0, .int .u8 0, .int .u8 0, .int .u8 0, .int .u8 0, .int .u8 0, .int .u8 0, .int .u8 0, .int .u8 0, .int .u8 0, .int .u8 0, .int .u8 0, .int .u8 0, .int .u8 0, .int .u8 0, .int .u8 0, .int .u8 0, .int .u8 0, .int .u8 0, .int .u8 0, .int .u8 0, .int .u8 0, .int .u8 0, .int .u8 0, .int .u8 0]) 32 rfl Tryd.underlying41 infoDG rfl (by decide) (by omega) _ (acc) D (D.map (Value.int .u8)) (fun _ => True) (fun _ => False) rfl rfl (KD_of HDG.out) (fun _ h => h.elim) (fun _ _ => trivial) HO.out HB.out HB.out.size ?aL ?_; (case aL => have := HAL.out; omega); intro v2 w6 ho hb2 hg hat; have HO2 := Aside0.mk ho; have HB2 := Aside0.mk hb2; clear ho hb2 hg hat))
          go_roundw
          case rel => exact ⟨r + 1, i / 2, U, acc ++ [D], hiU, HUR, HDU, HP2, ⟨by have := HAL.out; simp; omega⟩, by go_num, by go_num, HO2, HB2⟩
          case measure => simp [intOf]; omega
        · have HP2 := Aside0.mk (show acc ++ proofP U (i / 2) = PR by rw [← HPR.out, HPU.out, if_neg (by rw [← HOI.out]; exact ho)]; rfl)
          go_wp2
          go_roundw
          case rel => exact ⟨r + 1, i / 2, U, acc, hiU, HUR, HDU, HP2, ⟨by have := HAL.out; omega⟩, by go_num, by go_num, HO, HB⟩
          case measure => simp [intOf]; omega
    · have e0 : rowsP cur = _ := rowsP_end (by omega)
      have hr1 : ¬ r + 1 < RL.length := by rw [hlen, e0, List.length_nil]; omega
      have hr1i : ¬ (r : Int) + 1 < (RL.length : Int) := by omega
      have HE := Aside0.mk (show acc = PR by rw [← HPR.out, proofP_end _ (by omega), List.append_nil])
      clear e0 hlen
      go_wp2
      go_ret
      exact ⟨_, rfl, by rw [← HE.out]; exact Kd.R_lower HO.out HB2.out.size, below_step HB2.out HB.out⟩
end Go.Proofs.YtoiblfmlahedlaaDoor.Ref
end
section
namespace Go.Proofs.YtoiblfmlahedlaaDoor.Sha
open Go.RowKit Go.Proofs.YtoiblfmlahedlaaDoorW.PrintWords Go.Proofs.YtoiblfmlahedlaaDoorW.PrintLast Go.Proofs.YtoiblfmlahedlaaDoorW.PrintMore
set_option linter.unusedVariables false
set_option linter.unusedSimpArgs false
set_option maxRecDepth 100000
def chk (n i : Nat) (d : List Int) (p : List (List Int)) : Option (List Int × List (List Int)) :=
  if h : n ≤ 1 then some (d, p) else
    if n ≤ oth i then chk ((n + 1) / 2) (i / 2) d p else
      match p with
      | [] => none
      | x :: q => chk ((n + 1) / 2) (i / 2) (if i % 2 = 0 then pairI d x else pairI x d) q
termination_by n
decreasing_by all_goals omega
theorem chk_end {n : Nat} (i : Nat) (d : List Int) (p : List (List Int)) (h : n ≤ 1) : chk n i d p = some (d, p) := by rw [chk.eq_def, dif_pos h]
theorem chk_alone {n i : Nat} (d : List Int) (p : List (List Int)) (h : ¬ n ≤ 1) (h2 : n ≤ oth i) : chk n i d p = chk ((n + 1) / 2) (i / 2) d p := by
  conv => lhs; rw [chk.eq_def, dif_neg h, if_pos h2]
theorem chk_none {n i : Nat} (d : List Int) (h : ¬ n ≤ 1) (h2 : ¬ n ≤ oth i) : chk n i d [] = none := by
  rw [chk.eq_def, dif_neg h, if_neg h2]
theorem chk_cons {n i : Nat} (d x : List Int) (q : List (List Int)) (h : ¬ n ≤ 1) (h2 : ¬ n ≤ oth i) : chk n i d (x :: q) = chk ((n + 1) / 2) (i / 2) (if i % 2 = 0 then pairI d x else pairI x d) q := by
  conv => lhs; rw [chk.eq_def, dif_neg h, if_neg h2]
theorem chk_step {n i : Nat} (d : List Int) {q : List (List Int)} (h : ¬ n ≤ 1) (h2 : ¬ n ≤ oth i) (hq : 0 < q.length) : chk n i d q = chk ((n + 1) / 2) (i / 2) (if i % 2 = 0 then pairI d (q.getD 0 []) else pairI (q.getD 0 []) d) (q.drop 1) := by
  cases q with
  | nil => simp at hq
  | cons x r => rw [chk_cons d x r h h2]; rfl
def topB (n : Nat) (want : List Int) : Option (List Int × List (List Int)) → Bool
  | none => false
  | some (d, r) => r.length == 0 && decide (rootI n d = want)
theorem topB_nil (n : Nat) (want d : List Int) : topB n want (some (d, [])) = decide (rootI n d = want) := by
  show (([] : List (List Int)).length == 0 && decide (rootI n d = want)) = _
  generalize rootI n d = r
  simp
theorem topB_left (n : Nat) (want d : List Int) {q : List (List Int)} (hq : 0 < q.length) : topB n want (some (d, q)) = false := by
  show (q.length == 0 && decide (rootI n d = want)) = _
  generalize rootI n d = r
  simp only [Bool.and_eq_false_iff]
  left
  rw [beq_eq_false_iff_ne]
  omega
def checkR (want : List Int) (n i : Nat) (c : List Int) (p : List (List Int)) : Bool := topB n want (chk (countN n) i (leafI i c) p)
def sizeN (n i : Nat) : Nat := min 64 (n - 64 * i)
def checkB (want : List Int) (n i : Int) (c : List Int) (p : List (List Int)) : Bool :=
  if 0 ≤ n ∧ 0 ≤ i ∧ i < (countN n.toNat : Int) ∧ c.length = sizeN n.toNat i.toNat then checkR want n.toNat i.toNat c p else false
def pathR (n i : Nat) (d : List Int) (p : List (List Int)) : Option (List (List Int) × List Int × List (List Int)) :=
  if h : n ≤ 1 then some ([], d, p) else
    if n ≤ oth i then pathR ((n + 1) / 2) (i / 2) d p else
      match p with
      | [] => none
      | x :: q => (pathR ((n + 1) / 2) (i / 2) (if i % 2 = 0 then pairI d x else pairI x d) q).map fun r => ((if i % 2 = 0 then 1 :: (d ++ x) else 1 :: (x ++ d)) :: r.1, r.2)
termination_by n
decreasing_by all_goals omega
theorem pathR_end {n : Nat} (i : Nat) (d : List Int) (p : List (List Int)) (h : n ≤ 1) : pathR n i d p = some ([], d, p) := by rw [pathR.eq_def, dif_pos h]
theorem pathR_alone {n i : Nat} (d : List Int) (p : List (List Int)) (h : ¬ n ≤ 1) (h2 : n ≤ oth i) : pathR n i d p = pathR ((n + 1) / 2) (i / 2) d p := by
  conv => lhs; rw [pathR.eq_def, dif_neg h, if_pos h2]
theorem pathR_none {n i : Nat} (d : List Int) (h : ¬ n ≤ 1) (h2 : ¬ n ≤ oth i) : pathR n i d [] = none := by
  rw [pathR.eq_def, dif_neg h, if_neg h2]
theorem pathR_cons {n i : Nat} (d x : List Int) (q : List (List Int)) (h : ¬ n ≤ 1) (h2 : ¬ n ≤ oth i) : pathR n i d (x :: q) = (pathR ((n + 1) / 2) (i / 2) (if i % 2 = 0 then pairI d x else pairI x d) q).map fun r => ((if i % 2 = 0 then 1 :: (d ++ x) else 1 :: (x ++ d)) :: r.1, r.2) := by
  conv => lhs; rw [pathR.eq_def, dif_neg h, if_neg h2]
theorem pathR_chk : ∀ (n i : Nat) (d : List Int) (p : List (List Int)), (pathR n i d p).map (fun r => r.2) = chk n i d p := by
  intro n
  induction n using Nat.strongRecOn with
  | ind n ih =>
    intro i d p
    by_cases h : n ≤ 1
    · rw [pathR_end _ _ _ h, chk_end _ _ _ h]; rfl
    · by_cases h2 : n ≤ oth i
      · rw [pathR_alone _ _ h h2, chk_alone _ _ h h2]; exact ih _ (by omega) _ _ _
      · cases p with
        | nil => rw [pathR_none _ h h2, chk_none _ h h2]; rfl
        | cons x q =>
          rw [pathR_cons _ _ _ h h2, chk_cons _ _ _ h h2, ← ih _ (by omega), Option.map_map]
          rfl
end Go.Proofs.YtoiblfmlahedlaaDoor.Sha
namespace Go.Proofs.YtoiblfmlahedlaaDoor.Sha
open Go.RowKit Go.Proofs.YtoiblfmlahedlaaDoorW.PrintWords Go.Proofs.YtoiblfmlahedlaaDoorW.PrintLast Go.Proofs.YtoiblfmlahedlaaDoorW.PrintMore
set_option linter.unusedVariables false
set_option linter.unusedSimpArgs false
set_option maxHeartbeats 800000 in
set_option maxRecDepth 100000 in
theorem check_no (D : List Int) (n i : Int) (A A' : Option Addr) (c c' : Nat) (l : List Int) (p : List (List Int)) (w : World) (hn : n < 9223372036854775808) (hl : l.length < 10000000)
    (hno : ¬ (0 ≤ n ∧ 0 ≤ i ∧ i < (countN n.toNat : Int) ∧ l.length = sizeN n.toNat i.toNat)) :
    Calls Tryd.prog 40 #[vd D, .int .i64 n, .int .i64 i, .slice A l.length c, .slice A' p.length c'] w fun e w' => e = .returned (.bool false) ∧ Below w.heap.size w w' := by
  by_cases h0 : i < 0
  · have HCN : Aside0 (∃ N : Int, ∀ w, Calls Tryd.prog 34 #[.int .i64 n] w fun e w' => e = .returned (.int .i64 N) ∧ w' = w) := by
      by_cases hz : n < 0
      · exact ⟨0, fun w => count_neg n w hz⟩
      · obtain ⟨m, rfl⟩ := Int.eq_ofNat_of_zero_le (Int.not_lt.1 hz)
        exact ⟨_, fun w => count_calls m w (by omega)⟩
    obtain ⟨N, hN⟩ := HCN.out
    have HN := Aside0.mk hN
    clear hN HCN hno hn hl
    go_enter Tryd.func40, Tryd.ntmps40
    go_wp2_with fail
    refine (HN.out _).mono ?_
    rintro e w1 ⟨rfl, rfl⟩
    go_wp2
    go_ret
    exact ⟨rfl, (Below.refl _ _).alloc (Nat.le_refl _) _⟩
  by_cases hz : n < 0
  · have hi : 0 ≤ i := by omega
    clear hno hn hl
    go_enter Tryd.func40, Tryd.ntmps40
    go_wp2_with fail
    refine (count_neg n _ hz).mono ?_
    rintro e w1 ⟨rfl, rfl⟩
    go_wp2
    go_ret
    exact ⟨rfl, (Below.refl _ _).alloc (Nat.le_refl _) _⟩
  obtain ⟨m, rfl⟩ := Int.eq_ofNat_of_zero_le (Int.not_lt.1 hz)
  obtain ⟨j, rfl⟩ := Int.eq_ofNat_of_zero_le (Int.not_lt.1 h0)
  have HC := Aside0.mk (fun w => count_calls m w (by omega))
  rw [Int.toNat_natCast, Int.toNat_natCast] at hno
  clear hz h0
  by_cases hj : countN m ≤ j
  · have e1 : decide ((j : Int) ≥ (countN m : Int)) = true := decide_eq_true (by omega)
    have e2 : decide (countN m ≤ j) = true := decide_eq_true hj
    clear hno hn hl
    generalize countN m = N at *
    go_enter Tryd.func40, Tryd.ntmps40
    go_wp2_with fail
    refine (HC.out _).mono ?_
    rintro e w1 ⟨rfl, rfl⟩
    go_wp2
    go_ret
    exact ⟨rfl, (Below.refl _ _).alloc (Nat.le_refl _) _⟩
  · have e1 : decide ((j : Int) ≥ (countN m : Int)) = false := decide_eq_false (by omega)
    have e2 : decide (countN m ≤ j) = false := decide_eq_false hj
    have h64 := count_lt (Nat.lt_of_not_le hj)
    obtain ⟨d, hd⟩ : ∃ d, d = m - 64 * j := ⟨_, rfl⟩
    have hs : l.length ≠ min 64 d := fun h => hno ⟨by omega, by omega, by omega, by rw [hd] at h; exact h⟩
    obtain ⟨q, hq64⟩ : ∃ q, q = 64 * j := ⟨_, rfl⟩
    have hw1 : IntKind.i64.wrap ((j : Int) * 64) = (q : Int) := by rw [IntKind.wrap_i64]; omega
    have hw2 : IntKind.i64.wrap ((m : Int) - (q : Int)) = (d : Int) := by rw [IntKind.wrap_i64]; omega
    have hjn : j < countN m := Nat.lt_of_not_le hj
    clear hno hj hd h64 hn hq64
    generalize countN m = N at *
    by_cases h4 : d < 64
    · rw [Nat.min_eq_right (by omega)] at hs
      have hq : ((l.length : Int) != (d : Int)) = true := by rw [bne_iff_ne]; omega
      have hq2 : (l.length != d) = true := by simpa using hs
      have hdi4 : (d : Int) < 64 := by omega
      go_enter Tryd.func40, Tryd.ntmps40
      go_wp2_with fail
      refine (HC.out _).mono ?_
      rintro e w1 ⟨rfl, rfl⟩
      go_wp2
      go_ret
      exact ⟨rfl, (Below.refl _ _).alloc (Nat.le_refl _) _⟩
    · rw [Nat.min_eq_left (by omega)] at hs
      have hq : ((l.length : Int) != 64) = true := by rw [bne_iff_ne]; omega
      have hdi4 : ¬ (d : Int) < 64 := by omega
      go_enter Tryd.func40, Tryd.ntmps40
      go_wp2_with fail
      refine (HC.out _).mono ?_
      rintro e w1 ⟨rfl, rfl⟩
      go_wp2
      go_ret
      exact ⟨rfl, (Below.refl _ _).alloc (Nat.le_refl _) _⟩
end Go.Proofs.YtoiblfmlahedlaaDoor.Sha
namespace Go.Proofs.YtoiblfmlahedlaaDoor.Sha
open Go.RowKit Go.Proofs.YtoiblfmlahedlaaDoorW.PrintWords Go.Proofs.YtoiblfmlahedlaaDoorW.PrintLast Go.Proofs.YtoiblfmlahedlaaDoorW.PrintMore
set_option linter.unusedVariables false
set_option linter.unusedSimpArgs false
def cka_T11 : Bool × List (List Nat × List Nat) := (true, [([], []), ([], []), ([1], [1]), ([2], [2]), ([0, 3], [0, 3]), ([4, 4, 0, 1, 2, 3, 4], [4])])
def cka_B11 : List Nat := [0, 0, 2, 6, 15, 31]
theorem cka_tab11 : rtab .any (opsOf Tryd.f40 11) = cka_T11 := by kernel_rfl
theorem cka_bits11 : waitsOk cka_T11.2 cka_B11 = true := by kernel_rfl
def ckb_T12 : Bool × List (List Nat × List Nat) := (true, [([], []), ([0], [0]), ([1], [1]), ([], []), ([2, 3], [2, 3]), ([4, 4, 0, 1, 2, 3, 4], [4])])
def ckb_B12 : List Nat := [0, 1, 3, 0, 15, 31]
theorem ckb_tab12 : rtab .any (opsOf Tryd.f40 12) = ckb_T12 := by kernel_rfl
theorem ckb_bits12 : waitsOk ckb_T12.2 ckb_B12 = true := by kernel_rfl
def ckc_T14 : Bool × List (List Nat × List Nat) := (true, [([], []), ([0], [0]), ([1], [1]), ([2], [2]), ([3], [3]), ([3], [3]), ([4, 5, 3, 3], [3, 4, 5]), ([3], [3]), ([6, 7, 3], [3, 6, 7]), ([3, 8], [3, 8]), ([9, 6, 0, 1, 2, 3, 4, 5, 6, 7, 8, 9], [9])])
def ckc_B14 : List Nat := [0, 1, 3, 7, 15, 15, 63, 15, 255, 511, 1023]
theorem ckc_tab14 : rtab .any (opsOf Tryd.f40 14) = ckc_T14 := by kernel_rfl
theorem ckc_bits14 : waitsOk ckc_T14.2 ckc_B14 = true := by kernel_rfl
theorem ldg {w : World} {g : Nat} {D : List Int} (hg : w.heap[g]? = some (.cells (cb D) 31 (0, 0))) (hD : D.length = 32) :
    ∀ w' : World, Below w.heap.size w w' → (Instr.loadAt 31 (.pointer (some ⟨g, 0, none⟩))).run Tryd.prog w' = .ok (vd D) w' := fun w' h =>
  loadRow_take 31 g 31 (cb D) _ (heap_keep hg h) Tryd.underlying31 rfl (infoDg _ hD)
set_option maxHeartbeats 1600000 in
set_option maxRecDepth 100000 in
theorem check_yes (D : List Int) (m j : Nat) (A A' : Option Addr) (c c' : Nat) (l : List Int) (p : List (List Int)) (w : World) (hD : D.length = 32) (hm : m < 9223372036854775808) (hj : j < countN m) (hs : l.length = sizeN m j)
    (hr : B.C w A l.length l) (hc : l.length ≤ c) (hb : bytes l) (hp : KD.C w A' p.length p) (hc' : p.length ≤ c') (hpr : isRow p) (hpl : p.length < 10000000) (hT : Tab w) :
    Calls Tryd.prog 40 #[vd D, .int .i64 m, .int .i64 j, .slice A l.length c, .slice A' p.length c'] w fun e w' => e = .returned (.bool (checkR D m j l p)) ∧ Below w.heap.size w w' := by
  have HR := Aside0.mk hr
  have HY := Aside0.mk hb
  have HP := Aside0.mk hp
  have HPR := Aside0.mk hpr
  have HTAB := Aside0.mk hT
  have HM := Aside0.mk hm
  have HDL := Aside0.mk hD
  have HC := Aside0.mk (fun w => count_calls m w hm)
  have HL64 := Aside0.mk (show l.length ≤ 64 by rw [hs]; unfold sizeN; omega)
  have HJN := Aside0.mk (show j < countN m ∧ countN m ≤ 144115188075855872 ∧ 64 * j ≤ m ∧ j < 9223372036854775808 from ⟨hj, by unfold countN; omega, by have := count_lt hj; omega, by unfold countN at hj; omega⟩)
  have HS := Aside0.mk hs
  clear hr hb hp hpr hT hm hD hj hs
  have HRES := Aside0.mk (show topB m D (chk (countN m) j (leafI j l) p) = checkR D m j l p from rfl)
  generalize checkR D m j l p = RES at HRES ⊢
  go_enter Tryd.func40, Tryd.ntmps40
  go_wp2_with fail
  have HBX := Aside0.mk (show Below w.heap.size w (w.alloc (.cells (cb D) 31)) from (Below.refl _ _).alloc (Nat.le_refl _) _)
  have HGW := Aside0.mk (heap_new w (.cells (cb D) 31))
  refine (HC.out _).mono ?_
  rintro e w1 ⟨rfl, hw⟩
  replace hw := hw.symm
  subst hw
  go_upto_region 2 with (fail)
  generalize w.alloc (.cells (cb D) 31) = w1 at HBX HGW ⊢
  go_cut [31] (fun v wx => v = .bool false ∧ wx = w1)
  case first =>
    obtain ⟨h1, h2, h3, h4⟩ := HJN.out
    have e1 : decide ((j : Int) ≥ (countN m : Int)) = false := decide_eq_false (by omega)
    have e2 : decide (countN m ≤ j) = false := decide_eq_false (by omega)
    obtain ⟨d, hd⟩ : ∃ d, d = m - 64 * j := ⟨_, rfl⟩
    have hsz : l.length = min 64 d := by rw [hd]; exact HS.out
    obtain ⟨q, hq64⟩ : ∃ q, q = 64 * j := ⟨_, rfl⟩
    have hmb := HM.out
    have hw1 : IntKind.i64.wrap ((j : Int) * 64) = (q : Int) := by rw [IntKind.wrap_i64]; omega
    have hw2 : IntKind.i64.wrap ((m : Int) - (q : Int)) = (d : Int) := by rw [IntKind.wrap_i64]; omega
    clear h2 h3 h4 hd hq64 hmb
    generalize countN m = N at *
    by_cases h4 : d < 64
    · rw [Nat.min_eq_right (by omega)] at hsz
      have hq : ((l.length : Int) != (d : Int)) = false := by rw [bne_eq_false_iff_eq]; omega
      have hq2 : (l.length != d) = false := by simpa using hsz
      have hdi4 : (d : Int) < 64 := by omega
      clear hsz
      go_wp2
      go_meet
      exact ⟨rfl, rfl⟩
    · rw [Nat.min_eq_left (by omega)] at hsz
      have hq : ((l.length : Int) != 64) = false := by rw [bne_eq_false_iff_eq]; omega
      have hq2 : (l.length != 64) = false := by simpa using hsz
      have hdi4 : ¬ (d : Int) < 64 := by omega
      clear hsz
      go_wp2
      go_meet
      exact ⟨rfl, rfl⟩
  case rest =>
    obtain ⟨rfl, rfl⟩ := hcut
    go_wp2_with fail
    refine (leaf_calls j A c l _ (Kd.C_below HR.out HBX.out) hc HY.out HJN.out.2.2.2 (by have := HL64.out; omega) (HTAB.out.below HBX.out)).mono ?_
    rintro e w3 ⟨rfl, hb⟩
    have HD0 := Aside0.mk (show isD (leafI j l) by unfold leafI; exact sha_D _)
    have HB3 := Aside0.mk (below_step HBX.out hb)
    have HGW3 := Aside0.mk (heap_keep HGW.out hb)
    clear hb HBX HGW
    have hN1 := count_pos m
    have hjN := HJN.out.1
    have HN2 := Aside0.mk HJN.out.2.1
    clear HJN
    generalize leafI j l = d0 at HD0 HRES ⊢
    generalize countN m = N0 at HRES HN2 hjN hN1 ⊢
    have HRES2 := Aside0.mk (show ∃ r, r = chk N0 j d0 p ∧ topB m D r = RES from ⟨_, rfl, HRES.out⟩)
    obtain ⟨R0, hR0, hRR⟩ := HRES2.out
    have HR0 := Aside0.mk hR0.symm
    have HRR := Aside0.mk hRR
    clear hR0 hRR HRES HRES2
    go_wp2_with (first | (obtain ⟨w4, hw4, HB4, HD4, HZ4⟩ := dg_start w3; rw [hw4]; clear hw4; refine wpList_store_row rfl 31 (.tmp 12) (.tmp 34) rfl w3.heap.size (cb d0) rfl rfl 31 _ HD4.out (infoDg _ HD0.out.1) (by rw [cb_size, cb_size, HD0.out.1]; simp) (cb_one _) ?_))
    have hgw : w.heap.size < w3.heap.size := (Array.getElem?_eq_some_iff.1 HGW3.out).1
    obtain ⟨w5, hw5, HG5, HGW5, HB5⟩ : ∃ w5, w4.setRow w3.heap.size (cb d0) = w5 ∧ Aside0 (w5.heap[w3.heap.size]? = some (.cells (cb d0) 31 (0, 0))) ∧ Aside0 (w5.heap[w.heap.size]? = some (.cells (cb D) 31 (0, 0))) ∧ Aside0 (Below w.heap.size w w5) :=
      ⟨_, rfl, ⟨setRow_heap _ _ _ _ _ _ HD4.out⟩, ⟨by rw [setRow_other _ _ _ _ (by omega)]; exact heap_keep HGW3.out HB4.out⟩, ⟨below_setRow (below_step HB3.out HB4.out) (by omega) _⟩⟩
    rw [hw5]
    have hgw2 : w.heap.size ≤ w3.heap.size ∧ w.heap.size ≠ w3.heap.size := by omega
    have HGE := Aside0.mk hgw2
    clear hw5 HB4 HD4 HZ4 HB3 HGW3 hgw hgw2
    generalize w3.heap.size = g at *
    clear hc
    simp only [Act.put]
    go_loopw [2, 4, 11] (fun vi vp vn wr => ∃ (N I : Nat) (d : List Int) (q : List (List Int)) (A4 : Option Addr) (c4 : Nat), vi = .int .i64 (I : Int) ∧ vp = .slice A4 q.length c4 ∧ vn = .int .i64 (N : Int) ∧ Aside0 (N ≤ 144115188075855872) ∧ I < N ∧ q.length ≤ c4 ∧ q.length < 10000000 ∧ Aside0 (isD d) ∧ Aside0 (isRow q) ∧ Aside0 (KD.C w A4 q.length q) ∧ Aside0 (chk N I d q = R0) ∧ Aside0 (wr.heap[g]? = some (.cells (cb d) 31 (0, 0))) ∧ Aside0 (wr.heap[w.heap.size]? = some (.cells (cb D) 31 (0, 0))) ∧ Aside0 (Below w.heap.size w wr)) (fun _ _ v _ => (intOf v).toNat)
    case atStart => exact ⟨N0, j, d0, p, A', c', rfl, rfl, rfl, HN2, hjN, hc', hpl, HD0, HPR, HP, HR0, HG5, HGW5, HB5⟩
    case round =>
      clear HN2 hjN hN1 hc' hpl HD0 HPR HP HR0 HG5 HGW5 HB5
      obtain ⟨N, I, d, q, A4, c4, rfl, rfl, rfl, HN, hI, hc4, hq7, HD, HQR, HQ, HCK, HG, HGW, HB⟩ := hrel
      have HTR := Aside0.mk (HTAB.out.below HB.out)
      have HLG := Aside0.mk (ldg HG.out HD.out.1)
      by_cases hn1 : 1 < N
      · --STOP3
        have e1 : decide ((N : Int) > 1) = true := decide_eq_true (by omega)
        have hx1 := xor1 I (by have := HN.out; omega)
        have hN57 : (N : Int) + 1 ≤ 144115188075855873 := by have := HN.out; omega
        have hN2 : (N + 1) / 2 < N ∧ I / 2 < (N + 1) / 2 := by omega
        have HNN := Aside0.mk (show (N + 1) / 2 ≤ 144115188075855872 by have := HN.out; omega)
        by_cases hal : N ≤ oth I
        · have e3 : decide (((oth I : Nat) : Int) ≥ (N : Int)) = true := decide_eq_true (by omega)
          have e4 : decide (N ≤ oth I) = true := decide_eq_true hal
          have HCK2 := Aside0.mk ((chk_alone d q (by omega) hal).symm.trans HCK.out)
          generalize oth I = o at *
          go_wp2
          go_roundw
          case rel => exact ⟨(N + 1) / 2, I / 2, d, q, A4, c4, by go_num, rfl, by go_num, HNN, hN2.2, hc4, hq7, HD, HQR, HQ, HCK2, HG, HGW, HB⟩
          case measure => simp [intOf]; omega
        · have e3 : decide (((oth I : Nat) : Int) ≥ (N : Int)) = false := decide_eq_false (by omega)
          have e4 : decide (N ≤ oth I) = false := decide_eq_false hal
          by_cases hq0 : 0 < q.length
          · have HCK2 := Aside0.mk ((chk_step d (by omega) hal hq0).symm.trans HCK.out)
            have eq0 : (q.length == 0) = false := by rw [beq_eq_false_iff_ne]; omega
            have eq1 : ((q.length : Int) == 0) = false := by rw [beq_eq_false_iff_ne]; omega
            obtain ⟨A6, c6, hcut, hcc, hc6⟩ := cutD A4 c4 q 1 (by omega) hc4
            replace hcut : ∀ W : World, (Instr.slice 41 (.slice A4 q.length c4) (some (.int .i64 1)) none none).run Tryd.prog W = .ok (.slice A6 (q.drop 1).length c6) W := hcut
            have HQ2 := Aside0.mk (hcc _ HQ.out)
            have hq72 : (q.drop 1).length < 10000000 := by rw [List.length_drop]; omega
            have HQR2 := Aside0.mk (show isRow (q.drop 1) from fun d hd => HQR.out d (List.mem_of_mem_drop hd))
            obtain ⟨ad, rfl, _, _⟩ := row_ld HQ.out 0 hq0
            have HXD := Aside0.mk (isRow_getD HQR.out 0 hq0)
            generalize hxe : q.getD 0 [] = x at HXD HCK2
            have hx := fun (w' : World) (h : Below wr.heap.size wr w') => row_load' HQ.out (below_step HB.out h) 0 hq0 hxe
            simp only [Nat.zero_mul, Addr.add_zero'] at hx
            have HX := Aside0.mk hx
            clear hx hxe hcc HQ HQR
            generalize q.drop 1 = q2 at *
            by_cases hpar : I % 2 = 0
            · rw [if_pos hpar] at HCK2
              have e5 : decide ((I : Int) % 2 = 0) = true := decide_eq_true (by omega)
              have e6 : ((I : Int) % 2 == 0) = true := by simpa using (show (I : Int) % 2 = 0 by omega)
              have HD2 := Aside0.mk (show isD (pairI d x) by unfold pairI; exact sha_D _)
              generalize hdn : pairI d x = D2 at HCK2 HD2
              have HDN := Aside0.mk hdn
              clear hdn
              generalize oth I = o at *
              go_upto_region 11 with (fail)
              have hS0 : Below wr.heap.size wr wr.drew := below_drew1 (Below.refl _ _)
              refine start_ (n := 6) (S := fun w' => Below wr.heap.size wr w') (ds := [4,5]) #[false, false, false, false, false, false] (by kernel_rfl) rfl rfl (by exact hS0) (fun hHeld => ?_)
              refine with_tabW cka_tab11 cka_bits11 (fun HT_ HW_ => ?_)
              refine pure_ (i := 1) (N := some 53) (v := ?_) (a' := ?_) #[false, true, false, false, false, false] rfl rfl (any_of HT_.out (by kernel_rfl)) (fun _ _ _ h => h) (Or.inl ⟨by rfl, ?_⟩) ?_ ?_
              rotate_left
              · intro w'
                go_simp
                with_reducible rfl
              rotate_left
              · simp only [Act.put, List.setIfInBounds_toArray, List.set_cons_zero, List.set_cons_succ, i64_w, i32_w]
                rfl
              refine pure_ (i := 2) (N := some 54) (v := ?_) (a' := ?_) #[false, true, true, false, false, false] rfl rfl (any_of HT_.out (by kernel_rfl)) (fun _ _ _ h => h) (Or.inl ⟨by rfl, ?_⟩) ?_ ?_
              rotate_left
              · intro w'
                go_simp
                with_reducible rfl
              rotate_left
              · simp only [Act.put, List.setIfInBounds_toArray, List.set_cons_zero, List.set_cons_succ, i64_w, i32_w]
                rfl
              refine take_ (i := 0) (N := some 52) (v := ?_) (a' := ?_) #[true, true, true, false, false, false] rfl rfl (take_ofW HT_.out HW_.out (by kernel_rfl)) (fun _ _ _ h => h) (Or.inl ⟨by rfl, ?_⟩) hHeld ?_ ?_
              rotate_left
              · intro w' hSt
                refine (exec_load (p := .pointer (some ⟨g, 0, none⟩)) rfl rfl (HLG.out w' hSt)).trans ?_
                with_reducible rfl
              rotate_left
              · simp only [Act.put, List.setIfInBounds_toArray, List.set_cons_zero, List.set_cons_succ, i64_w, i32_w]
                rfl
              refine take_ (i := 3) (N := some 55) (v := ?_) (a' := ?_) #[true, true, true, true, false, false] rfl rfl (take_ofW HT_.out HW_.out (by kernel_rfl)) (fun _ _ _ h => h) (Or.inl ⟨by rfl, ?_⟩) hHeld ?_ ?_
              rotate_left
              · intro w' hSt
                refine (exec_load (p := .pointer (some ad)) rfl rfl (HX.out w' hSt)).trans ?_
                with_reducible rfl
              rotate_left
              · simp only [Act.put, List.setIfInBounds_toArray, List.set_cons_zero, List.set_cons_succ, i64_w, i32_w]
                rfl
              refine last_ (i := 4) (N := some 56) #[true, true, true, true, true, false] rfl rfl (one_of HT_.out (by kernel_rfl)) (by decide) (fun K hK => ?_)
              refine goes_ Tryd.func66 (by kernel_rfl) rfl #[vd d, vd x] (by rfl) rfl rfl (by (try simp only [List.map_toArray, List.map_cons, List.map_nil]); first | done | rfl) ?_
              refine (pair_calls d x _ HD.out.1 HXD.out.1 HD.out.2 HXD.out.2 (HTR.out.below hHeld)).mono ?_
              rintro e w3 ⟨rfl, hb⟩
              refine ⟨_, rfl, ?_⟩
              rw [HDN.out]
              have HBa := Aside0.mk (below_step hHeld hb)
              clear hb
              refine hK.out _ _ ?_
              clear hK K
              refine norm_ (a' := ?_) ?_ ?_
              rotate_left
              · first
                | (show Act.put _ (some 56) _ = _; simp only [Act.put, List.setIfInBounds_toArray, List.set_cons_zero, List.set_cons_succ, i64_w, i32_w]; rfl)
                | rfl
              refine last_ (i := 5) (N := none) #[true, true, true, true, true, true] rfl rfl (one_of HT_.out (by kernel_rfl)) (by decide) (fun K hK => ?_)
              refine storeRow_step (by rfl) 31 (.tmp 12) (.tmp 56) rfl g (cb D2) rfl rfl 31 _ (heap_keep HG.out HBa.out) (infoDg _ HD2.out.1) (by rw [cb_size, cb_size, HD2.out.1, HD.out.1]) (cb_one _) ?_
              refine hK.out _ _ ?_
              clear hK K
              refine norm_ (a' := ?_) ?_ ?_
              rotate_left
              · first
                | (show Act.put _ none _ = _; simp only [Act.put, List.setIfInBounds_toArray, List.set_cons_zero, List.set_cons_succ, i64_w, i32_w]; rfl)
                | rfl
              refine done_ (done_of HT_.out (by kernel_rfl)) ?_
              clear hS0 hHeld HT_ HW_
              go_wp2
              go_roundw
              case rel => exact ⟨(N + 1) / 2, I / 2, D2, q2, A6, c6, by go_num, rfl, by go_num, HNN, hN2.2, hc6, hq72, HD2, HQR2, HQ2, HCK2, ⟨setRow_heap _ _ _ _ _ _ (heap_keep HG.out HBa.out)⟩, ⟨by rw [setRow_other _ _ _ _ HGE.out.2]; exact heap_keep HGW.out HBa.out⟩, ⟨below_setRow (below_step HB.out HBa.out) HGE.out.1 _⟩⟩
              case measure => simp [intOf]; omega
            · rw [if_neg hpar] at HCK2
              have e5 : decide ((I : Int) % 2 = 0) = false := decide_eq_false (by omega)
              have e6 : ((I : Int) % 2 == 0) = false := by rw [beq_eq_false_iff_ne]; omega
              have HD2 := Aside0.mk (show isD (pairI x d) by unfold pairI; exact sha_D _)
              generalize hdn : pairI x d = D2 at HCK2 HD2
              have HDN := Aside0.mk hdn
              clear hdn
              generalize oth I = o at *
              go_upto_region 12 with (fail)
              have hS0 : Below wr.heap.size wr wr.drew := below_drew1 (Below.refl _ _)
              refine start_ (n := 6) (S := fun w' => Below wr.heap.size wr w') (ds := [4,5]) #[false, false, false, false, false, false] (by kernel_rfl) rfl rfl (by exact hS0) (fun hHeld => ?_)
              refine with_tabW ckb_tab12 ckb_bits12 (fun HT_ HW_ => ?_)
              refine pure_ (i := 0) (N := some 57) (v := ?_) (a' := ?_) #[true, false, false, false, false, false] rfl rfl (any_of HT_.out (by kernel_rfl)) (fun _ _ _ h => h) (Or.inl ⟨by rfl, ?_⟩) ?_ ?_
              rotate_left
              · intro w'
                go_simp
                with_reducible rfl
              rotate_left
              · simp only [Act.put, List.setIfInBounds_toArray, List.set_cons_zero, List.set_cons_succ, i64_w, i32_w]
                rfl
              refine pure_ (i := 1) (N := some 58) (v := ?_) (a' := ?_) #[true, true, false, false, false, false] rfl rfl (any_of HT_.out (by kernel_rfl)) (fun _ _ _ h => h) (Or.inl ⟨by rfl, ?_⟩) ?_ ?_
              rotate_left
              · intro w'
                go_simp
                with_reducible rfl
              rotate_left
              · simp only [Act.put, List.setIfInBounds_toArray, List.set_cons_zero, List.set_cons_succ, i64_w, i32_w]
                rfl
              refine take_ (i := 2) (N := some 59) (v := ?_) (a' := ?_) #[true, true, true, false, false, false] rfl rfl (take_ofW HT_.out HW_.out (by kernel_rfl)) (fun _ _ _ h => h) (Or.inl ⟨by rfl, ?_⟩) hHeld ?_ ?_
              rotate_left
              · intro w' hSt
                refine (exec_load (p := .pointer (some ad)) rfl rfl (HX.out w' hSt)).trans ?_
                with_reducible rfl
              rotate_left
              · simp only [Act.put, List.setIfInBounds_toArray, List.set_cons_zero, List.set_cons_succ, i64_w, i32_w]
                rfl
              refine take_ (i := 3) (N := some 60) (v := ?_) (a' := ?_) #[true, true, true, true, false, false] rfl rfl (take_ofW HT_.out HW_.out (by kernel_rfl)) (fun _ _ _ h => h) (Or.inl ⟨by rfl, ?_⟩) hHeld ?_ ?_
              rotate_left
              · intro w' hSt
                refine (exec_load (p := .pointer (some ⟨g, 0, none⟩)) rfl rfl (HLG.out w' hSt)).trans ?_
                with_reducible rfl
              rotate_left
              · simp only [Act.put, List.setIfInBounds_toArray, List.set_cons_zero, List.set_cons_succ, i64_w, i32_w]
                rfl
              refine last_ (i := 4) (N := some 61) #[true, true, true, true, true, false] rfl rfl (one_of HT_.out (by kernel_rfl)) (by decide) (fun K hK => ?_)
              refine goes_ Tryd.func66 (by kernel_rfl) rfl #[vd x, vd d] (by rfl) rfl rfl (by (try simp only [List.map_toArray, List.map_cons, List.map_nil]); first | done | rfl) ?_
              refine (pair_calls x d _ HXD.out.1 HD.out.1 HXD.out.2 HD.out.2 (HTR.out.below hHeld)).mono ?_
              rintro e w3 ⟨rfl, hb⟩
              refine ⟨_, rfl, ?_⟩
              rw [HDN.out]
              have HBa := Aside0.mk (below_step hHeld hb)
              clear hb
              refine hK.out _ _ ?_
              clear hK K
              refine norm_ (a' := ?_) ?_ ?_
              rotate_left
              · first
                | (show Act.put _ (some 61) _ = _; simp only [Act.put, List.setIfInBounds_toArray, List.set_cons_zero, List.set_cons_succ, i64_w, i32_w]; rfl)
                | rfl
              refine last_ (i := 5) (N := none) #[true, true, true, true, true, true] rfl rfl (one_of HT_.out (by kernel_rfl)) (by decide) (fun K hK => ?_)
              refine storeRow_step (by rfl) 31 (.tmp 12) (.tmp 61) rfl g (cb D2) rfl rfl 31 _ (heap_keep HG.out HBa.out) (infoDg _ HD2.out.1) (by rw [cb_size, cb_size, HD2.out.1, HD.out.1]) (cb_one _) ?_
              refine hK.out _ _ ?_
              clear hK K
              refine norm_ (a' := ?_) ?_ ?_
              rotate_left
              · first
                | (show Act.put _ none _ = _; simp only [Act.put, List.setIfInBounds_toArray, List.set_cons_zero, List.set_cons_succ, i64_w, i32_w]; rfl)
                | rfl
              refine done_ (done_of HT_.out (by kernel_rfl)) ?_
              clear hS0 hHeld HT_ HW_
              go_wp2
              go_roundw
              case rel => exact ⟨(N + 1) / 2, I / 2, D2, q2, A6, c6, by go_num, rfl, by go_num, HNN, hN2.2, hc6, hq72, HD2, HQR2, HQ2, HCK2, ⟨setRow_heap _ _ _ _ _ _ (heap_keep HG.out HBa.out)⟩, ⟨by rw [setRow_other _ _ _ _ HGE.out.2]; exact heap_keep HGW.out HBa.out⟩, ⟨below_setRow (below_step HB.out HBa.out) HGE.out.1 _⟩⟩
              case measure => simp [intOf]; omega
          · obtain rfl : q = [] := List.length_eq_zero_iff.1 (by omega)
            rw [chk_none d (by omega) hal] at HCK
            have HE := Aside0.mk (show RES = false by rw [← HRR.out, ← HCK.out]; rfl)
            generalize oth I = o at *
            go_wp2
            go_ret
            exact ⟨by rw [HE.out]; rfl, HB.out⟩
      · have e1 : decide ((N : Int) > 1) = false := decide_eq_false (by omega)
        rw [chk_end I d q (by omega)] at HCK
        by_cases hq0 : 0 < q.length
        · have HE := Aside0.mk (show RES = false by rw [← HRR.out, ← HCK.out]; exact topB_left m D d hq0)
          have eq0 : (q.length == 0) = false := by rw [beq_eq_false_iff_ne]; omega
          have eq1 : ((q.length : Int) == 0) = false := by rw [beq_eq_false_iff_ne]; omega
          go_upto_region 14 with (fail)
          have hS0 : Below wr.heap.size wr wr.drew := below_drew1 (Below.refl _ _)
          refine start_ (n := 11) (S := fun w' => Below wr.heap.size wr w') (ds := []) #[false, false, false, false, false, false, false, false, false, false, false] (by kernel_rfl) rfl rfl (by exact hS0) (fun hHeld => ?_)
          refine with_tabW ckc_tab14 ckc_bits14 (fun HT_ HW_ => ?_)
          refine pure_ (i := 0) (N := some 64) (v := ?_) (a' := ?_) #[true, false, false, false, false, false, false, false, false, false, false] rfl rfl (any_of HT_.out (by kernel_rfl)) (fun _ _ _ h => h) (Or.inl ⟨by rfl, ?_⟩) ?_ ?_
          rotate_left
          · intro w'
            go_simp
            with_reducible rfl
          rotate_left
          · simp only [Act.put, List.setIfInBounds_toArray, List.set_cons_zero, List.set_cons_succ, i64_w, i32_w]
            rfl
          refine pure_ (i := 1) (N := some 65) (v := ?_) (a' := ?_) #[true, true, false, false, false, false, false, false, false, false, false] rfl rfl (any_of HT_.out (by kernel_rfl)) (fun _ _ _ h => h) (Or.inl ⟨by rfl, ?_⟩) ?_ ?_
          rotate_left
          · intro w'
            go_simp
            with_reducible rfl
          rotate_left
          · simp only [Act.put, List.setIfInBounds_toArray, List.set_cons_zero, List.set_cons_succ, i64_w, i32_w]
            rfl
          refine pure_ (i := 2) (N := some 66) (v := ?_) (a' := ?_) #[true, true, true, false, false, false, false, false, false, false, false] rfl rfl (any_of HT_.out (by kernel_rfl)) (fun _ _ _ h => h) (Or.inl ⟨by rfl, ?_⟩) ?_ ?_
          rotate_left
          · intro w'
            go_simp
            with_reducible rfl
          rotate_left
          · simp only [Act.put, List.setIfInBounds_toArray, List.set_cons_zero, List.set_cons_succ, i64_w, i32_w]
            rfl
          refine pure_ (i := 3) (N := some 67) (v := ?_) (a' := ?_) #[true, true, true, true, false, false, false, false, false, false, false] rfl rfl (any_of HT_.out (by kernel_rfl)) (fun _ _ _ h => h) (Or.inl ⟨by rfl, ?_⟩) ?_ ?_
          rotate_left
          · intro w'
            go_simp
            with_reducible rfl
          rotate_left
          · simp only [Act.put, List.setIfInBounds_toArray, List.set_cons_zero, List.set_cons_succ, i64_w, i32_w]
            rfl
          refine pure_ (i := 4) (N := some 68) (v := undef) (a' := ?_) #[true, true, true, true, true, false, false, false, false, false, false] rfl rfl (any_of HT_.out (by kernel_rfl)) (fun _ _ _ h => h) (Or.inr ⟨by rfl, rfl⟩) ?_ ?_
          rotate_left
          · simp only [Act.put, List.setIfInBounds_toArray, List.set_cons_zero, List.set_cons_succ, i64_w, i32_w]
            rfl
          refine pure_ (i := 5) (N := some 69) (v := undef) (a' := ?_) #[true, true, true, true, true, true, false, false, false, false, false] rfl rfl (any_of HT_.out (by kernel_rfl)) (fun _ _ _ h => h) (Or.inr ⟨by rfl, rfl⟩) ?_ ?_
          rotate_left
          · simp only [Act.put, List.setIfInBounds_toArray, List.set_cons_zero, List.set_cons_succ, i64_w, i32_w]
            rfl
          refine pure_ (i := 6) (N := some 70) (v := undef) (a' := ?_) #[true, true, true, true, true, true, true, false, false, false, false] rfl rfl (any_of HT_.out (by kernel_rfl)) (fun _ _ _ h => h) (Or.inr ⟨by rfl, rfl⟩) ?_ ?_
          rotate_left
          · simp only [Act.put, List.setIfInBounds_toArray, List.set_cons_zero, List.set_cons_succ, i64_w, i32_w]
            rfl
          refine pure_ (i := 7) (N := some 71) (v := undef) (a' := ?_) #[true, true, true, true, true, true, true, true, false, false, false] rfl rfl (any_of HT_.out (by kernel_rfl)) (fun _ _ _ h => h) (Or.inr ⟨by rfl, rfl⟩) ?_ ?_
          rotate_left
          · simp only [Act.put, List.setIfInBounds_toArray, List.set_cons_zero, List.set_cons_succ, i64_w, i32_w]
            rfl
          refine pure_ (i := 8) (N := some 72) (v := undef) (a' := ?_) #[true, true, true, true, true, true, true, true, true, false, false] rfl rfl (any_of HT_.out (by kernel_rfl)) (fun _ _ _ h => h) (Or.inr ⟨by rfl, rfl⟩) ?_ ?_
          rotate_left
          · simp only [Act.put, List.setIfInBounds_toArray, List.set_cons_zero, List.set_cons_succ, i64_w, i32_w]
            rfl
          refine pure_ (i := 9) (N := some 73) (v := ?_) (a' := ?_) #[true, true, true, true, true, true, true, true, true, true, false] rfl rfl (any_of HT_.out (by kernel_rfl)) (fun _ _ _ h => h) (Or.inl ⟨by rfl, ?_⟩) ?_ ?_
          rotate_left
          · intro w'
            go_simp
            with_reducible rfl
          rotate_left
          · simp only [Act.put, List.setIfInBounds_toArray, List.set_cons_zero, List.set_cons_succ, i64_w, i32_w]
            rfl
          refine pure_ (i := 10) (N := some 10) (v := ?_) (a' := ?_) #[true, true, true, true, true, true, true, true, true, true, true] rfl rfl (any_of HT_.out (by kernel_rfl)) (fun _ _ _ h => h) (Or.inl ⟨by rfl, ?_⟩) ?_ ?_
          rotate_left
          · intro w'
            go_simp
            with_reducible rfl
          rotate_left
          · simp only [Act.put, List.setIfInBounds_toArray, List.set_cons_zero, List.set_cons_succ, i64_w, i32_w]
            rfl
          refine done_ (done_of HT_.out (by kernel_rfl)) ?_
          have HBz := Aside0.mk (below_step HB.out hHeld)
          clear hS0 hHeld HT_ HW_
          go_wp2
          go_ret
          exact ⟨by rw [HE.out]; rfl, HBz.out⟩
        · obtain rfl : q = [] := List.length_eq_zero_iff.1 (by omega)
          have HE := Aside0.mk (show RES = decide (rootI m d = D) by rw [← HRR.out, ← HCK.out]; exact topB_nil m D d)
          have HRL := Aside0.mk (show (rootI m d).length = 32 by unfold rootI; exact shaI_len _)
          have HLW := Aside0.mk (ldg HGW.out HDL.out)
          generalize hrt : rootI m d = RT at HE HRL
          have HRT := Aside0.mk hrt
          clear hrt
          have heq : ∀ w : World, (Op.equalIn 10000 31 (vd RT) (vd D)).run Tryd.prog w = .ok (decide (RT = D)) w := fun w => eqD HRL.out HDL.out w
          generalize decide (RT = D) = ans at HE heq
          go_upto_region 14 with (fail)
          have hS0 : Below wr.heap.size wr wr.drew := below_drew1 (Below.refl _ _)
          refine start_ (n := 11) (S := fun w' => Below wr.heap.size wr w') (ds := []) #[false, false, false, false, false, false, false, false, false, false, false] (by kernel_rfl) rfl rfl (by exact hS0) (fun hHeld => ?_)
          refine with_tabW ckc_tab14 ckc_bits14 (fun HT_ HW_ => ?_)
          refine pure_ (i := 0) (N := some 64) (v := ?_) (a' := ?_) #[true, false, false, false, false, false, false, false, false, false, false] rfl rfl (any_of HT_.out (by kernel_rfl)) (fun _ _ _ h => h) (Or.inl ⟨by rfl, ?_⟩) ?_ ?_
          rotate_left
          · intro w'
            go_simp
            with_reducible rfl
          rotate_left
          · simp only [Act.put, List.setIfInBounds_toArray, List.set_cons_zero, List.set_cons_succ, i64_w, i32_w]
            rfl
          refine pure_ (i := 1) (N := some 65) (v := ?_) (a' := ?_) #[true, true, false, false, false, false, false, false, false, false, false] rfl rfl (any_of HT_.out (by kernel_rfl)) (fun _ _ _ h => h) (Or.inl ⟨by rfl, ?_⟩) ?_ ?_
          rotate_left
          · intro w'
            go_simp
            with_reducible rfl
          rotate_left
          · simp only [Act.put, List.setIfInBounds_toArray, List.set_cons_zero, List.set_cons_succ, i64_w, i32_w]
            rfl
          refine pure_ (i := 2) (N := some 66) (v := ?_) (a' := ?_) #[true, true, true, false, false, false, false, false, false, false, false] rfl rfl (any_of HT_.out (by kernel_rfl)) (fun _ _ _ h => h) (Or.inl ⟨by rfl, ?_⟩) ?_ ?_
          rotate_left
          · intro w'
            go_simp
            with_reducible rfl
          rotate_left
          · simp only [Act.put, List.setIfInBounds_toArray, List.set_cons_zero, List.set_cons_succ, i64_w, i32_w]
            rfl
          refine pure_ (i := 3) (N := some 67) (v := ?_) (a' := ?_) #[true, true, true, true, false, false, false, false, false, false, false] rfl rfl (any_of HT_.out (by kernel_rfl)) (fun _ _ _ h => h) (Or.inl ⟨by rfl, ?_⟩) ?_ ?_
          rotate_left
          · intro w'
            go_simp
            with_reducible rfl
          rotate_left
          · simp only [Act.put, List.setIfInBounds_toArray, List.set_cons_zero, List.set_cons_succ, i64_w, i32_w]
            rfl
          refine pure_ (i := 4) (N := some 68) (v := ?_) (a' := ?_) #[true, true, true, true, true, false, false, false, false, false, false] rfl rfl (any_of HT_.out (by kernel_rfl)) (fun _ _ _ h => h) (Or.inl ⟨by rfl, ?_⟩) ?_ ?_
          rotate_left
          · intro w'
            go_simp
            with_reducible rfl
          rotate_left
          · simp only [Act.put, List.setIfInBounds_toArray, List.set_cons_zero, List.set_cons_succ, i64_w, i32_w]
            rfl
          refine take_ (i := 5) (N := some 69) (v := ?_) (a' := ?_) #[true, true, true, true, true, true, false, false, false, false, false] rfl rfl (take_ofW HT_.out HW_.out (by kernel_rfl)) (fun _ _ _ h => h) (Or.inl ⟨by rfl, ?_⟩) hHeld ?_ ?_
          rotate_left
          · intro w' hSt
            refine (exec_load (p := .pointer (some ⟨g, 0, none⟩)) rfl rfl (HLG.out w' hSt)).trans ?_
            with_reducible rfl
          rotate_left
          · simp only [Act.put, List.setIfInBounds_toArray, List.set_cons_zero, List.set_cons_succ, i64_w, i32_w]
            rfl
          refine take_ (i := 7) (N := some 71) (v := ?_) (a' := ?_) #[true, true, true, true, true, true, false, true, false, false, false] rfl rfl (take_ofW HT_.out HW_.out (by kernel_rfl)) (fun _ _ _ h => h) (Or.inl ⟨by rfl, ?_⟩) hHeld ?_ ?_
          rotate_left
          · intro w' hSt
            refine (exec_load (p := .pointer (some ⟨w.heap.size, 0, none⟩)) rfl rfl (HLW.out w' hSt)).trans ?_
            with_reducible rfl
          rotate_left
          · simp only [Act.put, List.setIfInBounds_toArray, List.set_cons_zero, List.set_cons_succ, i64_w, i32_w]
            rfl
          refine one_ (i := 6) (N := some 70) #[true, true, true, true, true, true, true, true, false, false, false] rfl rfl (one_of HT_.out (by kernel_rfl)) (by decide) (fun K hK => ?_)
          refine goes_ Tryd.func67 (by kernel_rfl) rfl #[.int .i64 (m : Int), vd d] (by rfl) rfl rfl (by (try simp only [List.map_toArray, List.map_cons, List.map_nil]); first | done | rfl) ?_
          refine (root_calls m d _ HM.out HD.out.1 HD.out.2 (HTR.out.below hHeld)).mono ?_
          rintro e w3 ⟨rfl, hb⟩
          refine ⟨_, rfl, ?_⟩
          rw [HRT.out]
          have hS1 := below_step hHeld hb
          clear hb
          refine hK.out _ _ (by exact hS1) (fun hHeld => ?_)
          clear hK K
          refine norm_ (a' := ?_) ?_ ?_
          rotate_left
          · first
            | (show Act.put _ (some 70) _ = _; simp only [Act.put, List.setIfInBounds_toArray, List.set_cons_zero, List.set_cons_succ, i64_w, i32_w]; rfl)
            | rfl
          refine pure_ (i := 8) (N := some 72) (v := ?_) (a' := ?_) #[true, true, true, true, true, true, true, true, true, false, false] rfl rfl (any_of HT_.out (by kernel_rfl)) (fun _ _ _ h => h) (Or.inl ⟨by rfl, ?_⟩) ?_ ?_
          rotate_left
          · intro w'
            go_simp
            with_reducible rfl
          rotate_left
          · simp only [Act.put, List.setIfInBounds_toArray, List.set_cons_zero, List.set_cons_succ, i64_w, i32_w]
            rfl
          refine pure_ (i := 9) (N := some 73) (v := ?_) (a' := ?_) #[true, true, true, true, true, true, true, true, true, true, false] rfl rfl (any_of HT_.out (by kernel_rfl)) (fun _ _ _ h => h) (Or.inl ⟨by rfl, ?_⟩) ?_ ?_
          rotate_left
          · intro w'
            go_simp
            with_reducible rfl
          rotate_left
          · simp only [Act.put, List.setIfInBounds_toArray, List.set_cons_zero, List.set_cons_succ, i64_w, i32_w]
            rfl
          refine pure_ (i := 10) (N := some 10) (v := ?_) (a' := ?_) #[true, true, true, true, true, true, true, true, true, true, true] rfl rfl (any_of HT_.out (by kernel_rfl)) (fun _ _ _ h => h) (Or.inl ⟨by rfl, ?_⟩) ?_ ?_
          rotate_left
          · intro w'
            go_simp
            with_reducible rfl
          rotate_left
          · simp only [Act.put, List.setIfInBounds_toArray, List.set_cons_zero, List.set_cons_succ, i64_w, i32_w]
            rfl
          refine done_ (done_of HT_.out (by kernel_rfl)) ?_
          have HBz := Aside0.mk (below_step HB.out hHeld)
          clear hS0 hHeld HT_ HW_
          go_wp2
          go_ret
          exact ⟨by rw [HE.out]; rfl, HBz.out⟩
end Go.Proofs.YtoiblfmlahedlaaDoor.Sha
end
section
namespace Go.Proofs.YtoiblfmlahedlaaDoor.Ref
open Go.RowKit Go.Proofs.YtoiblfmlahedlaaDoorW.PrintWords Go.Proofs.YtoiblfmlahedlaaDoorW.PrintLast Go.Proofs.YtoiblfmlahedlaaDoorW.PrintMore
set_option linter.unusedVariables false
set_option linter.unusedSimpArgs false
set_option maxRecDepth 100000
open Go.Proofs.YtoiblfmlahedlaaDoor.Sha
abbrev KS : Kd (List Int) := Kd.slice 5 B
theorem pathR_step {n i : Nat} (d : List Int) {q : List (List Int)} (h : ¬ n ≤ 1) (h2 : ¬ n ≤ oth i) (hq : 0 < q.length) :
    pathR n i d q = (pathR ((n + 1) / 2) (i / 2) (if i % 2 = 0 then pairI d (q.getD 0 []) else pairI (q.getD 0 []) d) (q.drop 1)).map fun r => ((if i % 2 = 0 then 1 :: (d ++ q.getD 0 []) else 1 :: (q.getD 0 [] ++ d)) :: r.1, r.2) := by
  cases q with
  | nil => simp at hq
  | cons x r => rw [pathR_cons d x r h h2]; rfl
def ahead (rows : List (List Int)) (r : Option (List (List Int) × List Int × List (List Int))) : Option (List (List Int) × List Int × List (List Int)) := r.map fun r => (rows ++ r.1, r.2)
theorem ahead_none (rows : List (List Int)) : ahead rows none = none := rfl
theorem ahead_end (rows : List (List Int)) (t : List Int) (q : List (List Int)) : ahead rows (some ([], t, q)) = some (rows, t, q) := by simp [ahead]
theorem ahead_cons (rows : List (List Int)) (x : List Int) (r : Option (List (List Int) × List Int × List (List Int))) : ahead rows (r.map fun r => (x :: r.1, r.2)) = ahead (rows ++ [x]) r := by
  cases r with
  | none => rfl
  | some r => simp [ahead]
def pathT (n : Nat) : Option (List (List Int) × List Int × List (List Int)) → List (List Int) × Bool
  | none => ([], false)
  | some (rows, t, q) => (rows ++ [2 :: (be8 n ++ t)], decide (q.length = 0))
def pathV (n i : Nat) (l : List Int) (p : List (List Int)) : List (List Int) × Bool := pathT n (ahead [0 :: (be8 i ++ l)] (pathR (countN n) i (leafI i l) p))
theorem R_row {α : Type} {d : Kd α} {e base : Nat} {ok : Nat → Prop} {w : World} {v : Value} {xs : List α} {g t : Nat} {cells : Array Value} (h : d.R e w base ok v xs) (hb : w.heap[g]? = some (.cells cells t (0, 0))) (ht : ∀ q, q ∈ e :: d.E → q ≠ t) (cs : Array Value) : d.R e (w.setRow g cs) base ok v xs :=
  Kd.R_mono (Kd.R_step (Kd.R_types h hb ht) (fun k hk _ => setRow_other w g k cs hk.2)) (fun _ hk => hk.1)
theorem heap_over {α : Type} {d : Kd α} {e base : Nat} {ok : Nat → Prop} {w w1 : World} {v : Value} {xs : List α} {g t : Nat} {cells : Array Value} (h : d.R e w base ok v xs) (hb : w.heap[g]? = some (.cells cells t (0, 0))) (ht : e ≠ t) (hg : w.grownBy w1 v.ownBlock) : w1.heap[g]? = some (.cells cells t (0, 0)) := by
  rw [hg.block g (Array.getElem?_eq_some_iff.1 hb).1 (Kd.R_ne h hb ht)]
  exact hb
theorem leafL_bytes {l : List Int} (i : Nat) (h : Sha.bytes l) : Sha.bytes (0 :: (be8 i ++ l)) := fun x hx => by
  rcases List.mem_cons.1 hx with rfl | hx
  · omega
  · exact bytes_app (be8_bytes i) h x hx
theorem nodeL_bytes {a b : List Int} (h : Sha.bytes a) (g : Sha.bytes b) : Sha.bytes (1 :: (a ++ b)) := fun x hx => by
  rcases List.mem_cons.1 hx with rfl | hx
  · omega
  · exact bytes_app h g x hx
def pta_T10 : Bool × List (List Nat × List Nat) := (true, [([], []), ([], []), ([], []), ([1, 2], [1, 2]), ([3], [3]), ([0, 4], [0, 4]), ([5, 5, 0, 1, 2, 3, 4, 5], [5])])
def pta_B10 : List Nat := [0, 0, 0, 6, 14, 31, 63]
theorem pta_tab10 : rtab .any (opsOf Tryd.f70 10) = pta_T10 := by kernel_rfl
theorem pta_bits10 : waitsOk pta_T10.2 pta_B10 = true := by kernel_rfl
def ptb_T12 : Bool × List (List Nat × List Nat) := (true, [([], []), ([], []), ([0, 1], [0, 1]), ([2], [2]), ([], []), ([3, 4], [3, 4]), ([5, 5, 0, 1, 2, 3, 4, 5], [5])])
def ptb_B12 : List Nat := [0, 0, 3, 7, 0, 31, 63]
theorem ptb_tab12 : rtab .any (opsOf Tryd.f70 12) = ptb_T12 := by kernel_rfl
theorem ptb_bits12 : waitsOk ptb_T12.2 ptb_B12 = true := by kernel_rfl
set_option maxHeartbeats 3200000 in
set_option maxRecDepth 100000 in
theorem path_calls (gh n i : Nat) (A A' : Option Addr) (c c' : Nat) (l : List Int) (p : List (List Int)) (w : World) (hg : w.heap[gh]? = some (.cells hk 72 (0, 0))) (hn : n < 9223372036854775808) (hi : i < countN n)
    (hr : B.C w A l.length l) (hc : l.length ≤ c) (hb : Sha.bytes l) (hl : l.length < 10000000) (hp : KD.C w A' p.length p) (hc' : p.length ≤ c') (hpr : isRow p) (hpl : p.length < 1000000) :
    Calls Tryd.prog 70 #[.pointer (some ⟨gh, 0, none⟩), .int .i64 n, .int .i64 i, .slice A l.length c, .slice A' p.length c'] w fun e w' => ∃ v, e = .returned (.tuple #[v, .bool (pathV n i l p).2]) ∧ Kd.R KS 22 w' w.heap.size (fun _ => True) v (pathV n i l p).1 ∧ Below w.heap.size w w' := by
  have HR := Aside0.mk hr
  have HY := Aside0.mk hb
  have HP := Aside0.mk hp
  have HPR := Aside0.mk hpr
  have HG0 := Aside0.mk hg
  have HM := Aside0.mk hn
  have HL := Aside0.mk hl
  have HC := Aside0.mk (fun w => rcount_calls n w hn)
  have HJN := Aside0.mk (show i < countN n ∧ countN n ≤ 144115188075855872 ∧ i < 9223372036854775808 from ⟨hi, by unfold countN; omega, by unfold countN at hi; omega⟩)
  have hN1 := count_pos n
  clear hr hb hp hpr hg hn hi hl
  have HRES := Aside0.mk (show pathT n (ahead [0 :: (be8 i ++ l)] (pathR (countN n) i (leafI i l) p)) = pathV n i l p from rfl)
  generalize pathV n i l p = RES at HRES ⊢
  have HLFB := Aside0.mk (leafL_bytes i HY.out)
  have HLFE := Aside0.mk (show shaI (0 :: (be8 i ++ l)) = leafI i l from rfl)
  have HLFL := Aside0.mk (show (0 :: (be8 i ++ l)).length < 100000000 by have := HL.out; simp [be8]; omega)
  have HD0 := Aside0.mk (show isD (leafI i l) by unfold leafI; exact sha_D _)
  go_enter Tryd.func70, Tryd.ntmps70
  go_wp2_with fail
  refine (leafB_calls i A c l _ HJN.out.2.2 HR.out hc HL.out).mono ?_
  rintro e w1 ⟨v1, rfl, ho, hb⟩
  have HB1 := Aside0.mk hb
  generalize hLF : (0 :: (be8 i ++ l) : List Int) = LF at *
  generalize hdd : leafI i l = d0 at *
  have HO1 := Aside0.mk ho
  obtain ⟨A1, c1, rfl, hc1, hC1⟩ := RB_reads ho
  have HC1 := Aside0.mk hC1
  clear ho hb hC1 hLF hdd
  go_upto_region 2 with (first | ((with_reducible refine gate_dst (N := 21) rfl ?_); refine Kd.R_lit KS (w0 := w) w.heap.size 22 ?hg (N := 21) ?hd (xs := [LF]) (inner := [.slice A1 LF.length c1]) (ok := fun _ => True) (okp := fun _ => True) ?hr ?hp (fun _ hk => hk) trivial HB1.out HB1.out.size (by simp) ?_; (case hd => rfl); (case hg => rfl); (case hr => first | (go_simp; done) | (go_simp; rfl)); (case hp => exact Reps.one ⟨_, rfl, HO1.out⟩ (Reps.none _ _)); intro v2 w2 ho hb1 hg hnew; have HQ := Aside0.mk ho; have HBQ := Aside0.mk hb1; clear ho hb1 hg hnew))
  obtain ⟨A2, c2, rfl, hc2, hr2⟩ := Kd.R_reads HQ.out
  obtain ⟨ad2, A3, c3, rfl, hcell, hc3, hC3⟩ := row_at hr2 0 (by simp)
  replace hC3 : B.C w2 A3 LF.length LF := hC3
  replace hcell : w2.cell? ad2 = some (.slice A3 LF.length c3) := by rw [show ad2 = ad2.add 0 by simp [Addr.add_zero']]; exact hcell
  replace hc3 : LF.length ≤ c3 := hc3
  have HC3 := Aside0.mk hC3
  clear hr2 hC3 HO1 HC1
  go_wp2_with fail
  refine (hsum_calls gh A3 c3 LF _ (heap_keep HG0.out HBQ.out) HC3.out hc3 HLFB.out HLFL.out).mono ?_
  rintro e w3 ⟨rfl, hb⟩
  rw [HLFE.out]
  have HB3 := Aside0.mk (below_step HBQ.out hb)
  replace HQ := Aside0.mk (Kd.R_below HQ.out hb)
  clear hb hcell
  go_upto_region 3 with (first | (obtain ⟨w4, hw4, HB4, HD4, HZ4⟩ := dg_start w3; rw [hw4]; clear hw4; refine wpList_store_row rfl 31 (.tmp 13) (.tmp 26) rfl w3.heap.size (cb d0) rfl rfl 31 _ HD4.out (infoDg _ HD0.out.1) (by rw [cb_size, cb_size, HD0.out.1]; simp) (cb_one _) ?_))
  obtain ⟨w5, hw5, HG5, HB5, HQ5⟩ : ∃ w5, w4.setRow w3.heap.size (cb d0) = w5 ∧ Aside0 (w5.heap[w3.heap.size]? = some (.cells (cb d0) 31 (0, 0))) ∧ Aside0 (Below w.heap.size w w5) ∧ Aside0 (Kd.R KS 22 w5 w.heap.size (fun _ => True) (.slice (some ad2) [LF].length c2) [LF]) :=
    ⟨_, rfl, ⟨setRow_heap _ _ _ _ _ _ HD4.out⟩, ⟨below_setRow (below_step HB3.out HB4.out) HB3.out.size _⟩, ⟨R_row (Kd.R_below HQ.out HB4.out) HD4.out (by decide) _⟩⟩
  rw [hw5]
  have HGE := Aside0.mk HB3.out.size
  clear hw5 HB4 HD4 HZ4 HB3 HQ
  generalize w3.heap.size = g at *
  go_wp2_with fail
  refine (HC.out _).mono ?_
  rintro e w6 ⟨rfl, hw⟩
  replace hw := hw.symm
  subst hw
  have hjN := HJN.out.1
  have HN2 := Aside0.mk HJN.out.2.1
  clear HJN HC
  generalize countN n = N0 at HRES HN2 hjN hN1 ⊢
  have HRES2 := Aside0.mk (show ∃ r, r = ahead [LF] (pathR N0 i d0 p) ∧ pathT n r = RES from ⟨_, rfl, HRES.out⟩)
  obtain ⟨R0, hR0, hRR⟩ := HRES2.out
  have HR0 := Aside0.mk (show ahead [LF] (pathR N0 i d0 (p.drop 0)) = R0 from hR0.symm)
  have HRR := Aside0.mk hRR
  clear hR0 hRR HRES HRES2
  go_wp2_with fail
  go_loopw [2, 12, 14, 15] (fun vi vo vn va wr => ∃ (N I at0 : Nat) (d : List Int) (rows : List (List Int)), vi = .int .i64 (I : Int) ∧ vn = .int .i64 (N : Int) ∧ va = .int .i64 (at0 : Int) ∧ Aside0 (N ≤ 144115188075855872) ∧ I < N ∧ at0 ≤ p.length ∧ Aside0 (rows.length ≤ at0 + 1) ∧ Aside0 (isD d) ∧ Aside0 (ahead rows (pathR N I d (p.drop at0)) = R0) ∧ Aside0 (wr.heap[g]? = some (.cells (cb d) 31 (0, 0))) ∧ Aside0 (Kd.R KS 22 wr w.heap.size (fun _ => True) vo rows) ∧ Aside0 (Below w.heap.size w wr)) (fun _ _ v _ _ => (intOf v).toNat)
  case atStart => exact ⟨N0, i, 0, d0, [LF], rfl, rfl, rfl, HN2, hjN, Nat.zero_le _, ⟨by simp⟩, HD0, HR0, HG5, HQ5, HB5⟩
  case round =>
    clear HN2 hjN hN1 HD0 HR0 HG5 HQ5 HB5 hc
    obtain ⟨N, I, at0, d, rows, rfl, rfl, rfl, HN, hI, hat, HRL, HD, HPT, HG, HO, HB⟩ := hrel
    have HLG := Aside0.mk (ldg HG.out HD.out.1)
    by_cases hn1 : 1 < N
    · have e1 : decide ((N : Int) > 1) = true := decide_eq_true (by omega)
      have HN57 := Aside0.mk (show (N : Int) + 1 ≤ 144115188075855873 by have := HN.out; omega)
      have hN2 : (N + 1) / 2 < N ∧ I / 2 < (N + 1) / 2 := by omega
      have HNN := Aside0.mk (show (N + 1) / 2 ≤ 144115188075855872 by have := HN.out; omega)
      by_cases hal : N ≤ oth I
      · have hev : I % 2 = 0 ∧ I + 1 = N := by unfold oth at hal; split at hal <;> omega
        have e5 : ((I : Int) % 2 == 0) = true := by simpa using (show (I : Int) % 2 = 0 by omega)
        have e6 : ((I : Int) == (N : Int) - 1) = true := by simpa using (show (I : Int) = (N : Int) - 1 by omega)
        have HPT2 := Aside0.mk (by have h := HPT.out; rw [pathR_alone d _ (by omega) hal] at h; exact h)
        clear hev hal
        have hN57 := HN57.out
        go_wp2
        go_roundw
        case rel => exact ⟨(N + 1) / 2, I / 2, at0, d, rows, by go_num, by go_num, rfl, HNN, hN2.2, hat, HRL, HD, HPT2, HG, HO, HB⟩
        case measure => simp [intOf]; omega
      · have HEA := Aside0.mk hal
        go_upto_region 6 with (fail)
        go_cut [16] (fun v wc => v = .bool false ∧ wc = wr)
        case first =>
          by_cases hpar : I % 2 = 0
          · have e5 : ((I : Int) % 2 == 0) = true := by simpa using (show (I : Int) % 2 = 0 by omega)
            have e6 : ((I : Int) == (N : Int) - 1) = false := by
              rw [beq_eq_false_iff_ne]
              intro h3
              apply hal
              unfold oth
              rw [if_pos hpar]
              omega
            clear hpar hal
            have hN57 := HN57.out
            go_wp2
            go_meet
            exact ⟨rfl, rfl⟩
          · have e5 : ((I : Int) % 2 == 0) = false := by rw [beq_eq_false_iff_ne]; omega
            clear hpar hal
            go_wp2
            go_meet
            exact ⟨rfl, rfl⟩
        case rest =>
          obtain ⟨rfl, hwc⟩ := hcut
          replace hwc := hwc.symm
          subst hwc
          clear hal
          by_cases hap : at0 < p.length
          · have e7 : decide ((at0 : Int) ≥ (p.length : Int)) = false := decide_eq_false (by omega)
            have e8 : decide (p.length ≤ at0) = false := decide_eq_false (by omega)
            have HPT2 := Aside0.mk (by have h := HPT.out; rw [pathR_step d (by omega) HEA.out (by rw [List.length_drop]; omega), ahead_cons] at h; exact h)
            have HDR := Aside0.mk (show (p.drop at0).drop 1 = p.drop (at0 + 1) by rw [List.drop_drop])
            have HGD := Aside0.mk (show (p.drop at0).getD 0 [] = p.getD at0 [] by simp [List.getD_eq_getElem?_getD])
            rw [HDR.out, HGD.out] at HPT2
            obtain ⟨ad, rfl, _, _⟩ := row_ld HP.out at0 hap
            have HXD := Aside0.mk (isRow_getD HPR.out at0 hap)
            generalize hxe : p.getD at0 [] = x at HXD HPT2
            have HX := Aside0.mk (show ∀ w' : World, Below wr.heap.size wr w' → (Instr.loadAt 31 (.pointer (some (ad.add (at0 * 32))))).run Tryd.prog w' = .ok (vd x) w' from fun w' h => row_load' HP.out (below_step HB.out h) at0 hap hxe)
            clear hxe HDR HGD HPT HEA
            go_upto_region 10 with (fail)
            have hS0 : Below wr.heap.size wr wr.drew := below_drew1 (Below.refl _ _)
            refine start_ (n := 7) (S := fun w' => Below wr.heap.size wr w') (ds := []) #[false, false, false, false, false, false, false] (by kernel_rfl) rfl rfl (by exact hS0) (fun hHeld => ?_)
            refine with_tabW pta_tab10 pta_bits10 (fun HT_ HW_ => ?_)
            refine pure_ (i := 1) (N := some 47) (v := ?_) (a' := ?_) #[false, true, false, false, false, false, false] rfl rfl (any_of HT_.out (by kernel_rfl)) (fun _ _ _ h => h) (Or.inl ⟨by rfl, ?_⟩) ?_ ?_
            rotate_left
            · intro w'
              go_simp
              with_reducible rfl
            rotate_left
            · simp only [Act.put, List.setIfInBounds_toArray, List.set_cons_zero, List.set_cons_succ, i64_w, i32_w]
              rfl
            refine pure_ (i := 2) (N := some 48) (v := ?_) (a' := ?_) #[false, true, true, false, false, false, false] rfl rfl (any_of HT_.out (by kernel_rfl)) (fun _ _ _ h => h) (Or.inl ⟨by rfl, ?_⟩) ?_ ?_
            rotate_left
            · intro w'
              go_simp
              with_reducible rfl
            rotate_left
            · simp only [Act.put, List.setIfInBounds_toArray, List.set_cons_zero, List.set_cons_succ, i64_w, i32_w]
              rfl
            refine pure_ (i := 3) (N := some 49) (v := ?_) (a' := ?_) #[false, true, true, true, false, false, false] rfl rfl (any_of HT_.out (by kernel_rfl)) (fun _ _ _ h => h) (Or.inl ⟨by rfl, ?_⟩) ?_ ?_
            rotate_left
            · intro w'
              go_simp
              with_reducible rfl
            rotate_left
            · simp only [Act.put, List.setIfInBounds_toArray, List.set_cons_zero, List.set_cons_succ, i64_w, i32_w]
              rfl
            refine take_ (i := 0) (N := some 46) (v := ?_) (a' := ?_) #[true, true, true, true, false, false, false] rfl rfl (take_ofW HT_.out HW_.out (by kernel_rfl)) (fun _ _ _ h => h) (Or.inl ⟨by rfl, ?_⟩) hHeld ?_ ?_
            rotate_left
            · intro w' hSt
              refine (exec_load (p := .pointer (some ⟨g, 0, none⟩)) rfl rfl (HLG.out w' hSt)).trans ?_
              with_reducible rfl
            rotate_left
            · simp only [Act.put, List.setIfInBounds_toArray, List.set_cons_zero, List.set_cons_succ, i64_w, i32_w]
              rfl
            refine take_ (i := 4) (N := some 50) (v := ?_) (a' := ?_) #[true, true, true, true, true, false, false] rfl rfl (take_ofW HT_.out HW_.out (by kernel_rfl)) (fun _ _ _ h => h) (Or.inl ⟨by rfl, ?_⟩) hHeld ?_ ?_
            rotate_left
            · intro w' hSt
              refine (exec_load (p := .pointer (some (ad.add (at0 * 32)))) rfl rfl (HX.out w' hSt)).trans ?_
              with_reducible rfl
            rotate_left
            · simp only [Act.put, List.setIfInBounds_toArray, List.set_cons_zero, List.set_cons_succ, i64_w, i32_w]
              rfl
            refine one_ (i := 5) (N := some 51) #[true, true, true, true, true, true, false] rfl rfl (one_of HT_.out (by kernel_rfl)) (by decide) (fun K hK => ?_)
            refine goes_ Tryd.func53 (by kernel_rfl) rfl #[vd d, vd x] (by rfl) rfl rfl (by (try simp only [List.map_toArray, List.map_cons, List.map_nil]); first | done | rfl) ?_
            refine (nodeB_R d x _ HD.out.1 HXD.out.1).mono ?_
            rintro e w3 ⟨v7, rfl, ho, hb⟩
            refine ⟨_, rfl, ?_⟩
            have hS1 := below_step hHeld hb
            have HO7 := Aside0.mk (Kd.R_lower ho hHeld.size)
            clear hb ho
            refine hK.out _ _ (by exact hS1) (fun hHeld => ?_)
            clear hK K
            refine norm_ (a' := ?_) ?_ ?_
            rotate_left
            · first
              | (show Act.put _ (some 51) _ = _; simp only [Act.put, List.setIfInBounds_toArray, List.set_cons_zero, List.set_cons_succ, i64_w, i32_w]; rfl)
              | rfl
            refine pure_ (i := 6) (N := some 17) (v := ?_) (a' := ?_) #[true, true, true, true, true, true, true] rfl rfl (any_of HT_.out (by kernel_rfl)) (fun _ _ _ h => h) (Or.inl ⟨by rfl, ?_⟩) ?_ ?_
            rotate_left
            · intro w'
              go_simp
              with_reducible rfl
            rotate_left
            · simp only [Act.put, List.setIfInBounds_toArray, List.set_cons_zero, List.set_cons_succ, i64_w, i32_w]
              rfl
            refine done_ (done_of HT_.out (by kernel_rfl)) ?_
            have HB7 := Aside0.mk hHeld
            clear hS0 hHeld HT_ HW_
            go_upto_if 54 with (fail)
            have HX2 := Aside0.mk (show ∃ X D2 : List Int, (if I % 2 = 0 then 1 :: (d ++ x) else 1 :: (x ++ d)) = X ∧ (if I % 2 = 0 then pairI d x else pairI x d) = D2 ∧ shaI X = D2 ∧ isD D2 ∧ Sha.bytes X ∧ X.length < 100000000 from by
              by_cases hpar : I % 2 = 0
              · rw [if_pos hpar, if_pos hpar]
                exact ⟨_, _, rfl, rfl, rfl, by unfold pairI; exact sha_D _, nodeL_bytes HD.out.2 HXD.out.2, by simp [HD.out.1, HXD.out.1]⟩
              · rw [if_neg hpar, if_neg hpar]
                exact ⟨_, _, rfl, rfl, rfl, by unfold pairI; exact sha_D _, nodeL_bytes HXD.out.2 HD.out.2, by simp [HD.out.1, HXD.out.1]⟩)
            obtain ⟨X, D2, hX, hD2, hsX, hiD, hbX, hlX⟩ := HX2.out
            rw [hX, hD2] at HPT2
            have HXE := Aside0.mk hX
            have HSX := Aside0.mk hsX
            have HD2 := Aside0.mk hiD
            have HXB := Aside0.mk hbX
            have HXN := Aside0.mk hlX
            clear hX hD2 hsX hiD hbX hlX HX2
            go_cut [17] (fun v wc => Aside0 (Kd.R B 5 wc wr.heap.size (fun _ => True) v X) ∧ Aside0 (Below wr.heap.size wr wc))
            case first =>
              by_cases hpar : I % 2 = 0
              · have e9 : ((I : Int) % 2 == 1) = false := by rw [beq_eq_false_iff_ne]; omega
                have HXE2 := Aside0.mk (show 1 :: (d ++ x) = X by have h := HXE.out; rw [if_pos hpar] at h; exact h)
                rw [HXE2.out] at HO7
                clear hpar
                go_wp2
                go_meet
                exact ⟨HO7, HB7⟩
              · have e9 : ((I : Int) % 2 == 1) = true := by simpa using (show (I : Int) % 2 = 1 by omega)
                have HXE2 := Aside0.mk (show 1 :: (x ++ d) = X by have h := HXE.out; rw [if_neg hpar] at h; exact h)
                clear hpar HO7
                go_upto_region 12 with (fail)
                have hS0 : Below wr.heap.size wr w3.drew := below_drew1 HB7.out
                refine start_ (n := 7) (S := fun w' => Below wr.heap.size wr w') (ds := []) #[false, false, false, false, false, false, false] (by kernel_rfl) rfl rfl (by exact hS0) (fun hHeld => ?_)
                refine with_tabW ptb_tab12 ptb_bits12 (fun HT_ HW_ => ?_)
                refine pure_ (i := 0) (N := some 55) (v := ?_) (a' := ?_) #[true, false, false, false, false, false, false] rfl rfl (any_of HT_.out (by kernel_rfl)) (fun _ _ _ h => h) (Or.inl ⟨by rfl, ?_⟩) ?_ ?_
                rotate_left
                · intro w'
                  go_simp
                  with_reducible rfl
                rotate_left
                · simp only [Act.put, List.setIfInBounds_toArray, List.set_cons_zero, List.set_cons_succ, i64_w, i32_w]
                  rfl
                refine pure_ (i := 1) (N := some 56) (v := ?_) (a' := ?_) #[true, true, false, false, false, false, false] rfl rfl (any_of HT_.out (by kernel_rfl)) (fun _ _ _ h => h) (Or.inl ⟨by rfl, ?_⟩) ?_ ?_
                rotate_left
                · intro w'
                  go_simp
                  with_reducible rfl
                rotate_left
                · simp only [Act.put, List.setIfInBounds_toArray, List.set_cons_zero, List.set_cons_succ, i64_w, i32_w]
                  rfl
                refine pure_ (i := 2) (N := some 57) (v := ?_) (a' := ?_) #[true, true, true, false, false, false, false] rfl rfl (any_of HT_.out (by kernel_rfl)) (fun _ _ _ h => h) (Or.inl ⟨by rfl, ?_⟩) ?_ ?_
                rotate_left
                · intro w'
                  go_simp
                  with_reducible rfl
                rotate_left
                · simp only [Act.put, List.setIfInBounds_toArray, List.set_cons_zero, List.set_cons_succ, i64_w, i32_w]
                  rfl
                refine take_ (i := 3) (N := some 58) (v := ?_) (a' := ?_) #[true, true, true, true, false, false, false] rfl rfl (take_ofW HT_.out HW_.out (by kernel_rfl)) (fun _ _ _ h => h) (Or.inl ⟨by rfl, ?_⟩) hHeld ?_ ?_
                rotate_left
                · intro w' hSt
                  refine (exec_load (p := .pointer (some (ad.add (at0 * 32)))) rfl rfl (HX.out w' hSt)).trans ?_
                  with_reducible rfl
                rotate_left
                · simp only [Act.put, List.setIfInBounds_toArray, List.set_cons_zero, List.set_cons_succ, i64_w, i32_w]
                  rfl
                refine take_ (i := 4) (N := some 59) (v := ?_) (a' := ?_) #[true, true, true, true, true, false, false] rfl rfl (take_ofW HT_.out HW_.out (by kernel_rfl)) (fun _ _ _ h => h) (Or.inl ⟨by rfl, ?_⟩) hHeld ?_ ?_
                rotate_left
                · intro w' hSt
                  refine (exec_load (p := .pointer (some ⟨g, 0, none⟩)) rfl rfl (HLG.out w' hSt)).trans ?_
                  with_reducible rfl
                rotate_left
                · simp only [Act.put, List.setIfInBounds_toArray, List.set_cons_zero, List.set_cons_succ, i64_w, i32_w]
                  rfl
                refine one_ (i := 5) (N := some 60) #[true, true, true, true, true, true, false] rfl rfl (one_of HT_.out (by kernel_rfl)) (by decide) (fun K hK => ?_)
                refine goes_ Tryd.func53 (by kernel_rfl) rfl #[vd x, vd d] (by rfl) rfl rfl (by (try simp only [List.map_toArray, List.map_cons, List.map_nil]); first | done | rfl) ?_
                refine (nodeB_R x d _ HXD.out.1 HD.out.1).mono ?_
                rintro e w3 ⟨v7, rfl, ho, hb⟩
                refine ⟨_, rfl, ?_⟩
                have hS1 := below_step hHeld hb
                have HO7 := Aside0.mk (Kd.R_lower ho hHeld.size)
                clear hb ho
                refine hK.out _ _ (by exact hS1) (fun hHeld => ?_)
                clear hK K
                refine norm_ (a' := ?_) ?_ ?_
                rotate_left
                · first
                  | (show Act.put _ (some 60) _ = _; simp only [Act.put, List.setIfInBounds_toArray, List.set_cons_zero, List.set_cons_succ, i64_w, i32_w]; rfl)
                  | rfl
                refine pure_ (i := 6) (N := some 17) (v := ?_) (a' := ?_) #[true, true, true, true, true, true, true] rfl rfl (any_of HT_.out (by kernel_rfl)) (fun _ _ _ h => h) (Or.inl ⟨by rfl, ?_⟩) ?_ ?_
                rotate_left
                · intro w'
                  go_simp
                  with_reducible rfl
                rotate_left
                · simp only [Act.put, List.setIfInBounds_toArray, List.set_cons_zero, List.set_cons_succ, i64_w, i32_w]
                  rfl
                refine done_ (done_of HT_.out (by kernel_rfl)) ?_
                have HB8 := Aside0.mk hHeld
                clear hS0 hHeld HT_ HW_
                rw [HXE2.out] at HO7
                go_wp2
                go_meet
                exact ⟨HO7, HB8⟩
            case rest =>
              obtain ⟨HO7, HB7⟩ := hcut
              obtain ⟨A7, c7, rfl, hc7, hC7⟩ := RB_reads HO7.out
              have hap1 : (at0 : Int) + 1 ≤ 1000000 := by omega
              have HO2 := Aside0.mk (Kd.R_below HO.out HB7.out)
              have HBw := Aside0.mk (below_step HB.out HB7.out)
              have HG2 := Aside0.mk (heap_keep HG.out HB7.out)
              have HAP := Aside0.mk (Kd.R_apartR (Kd.R_lower HO7.out HB.out.size) HO2.out (by decide))
              have HRL2 := Aside0.mk (show rows.length ≤ 1000000 by have := HRL.out; omega)
              have HAPP := Aside0.mk hap
              clear hC7 hap
              go_wp2_with (first | ((with_reducible refine gate_builtin (b := .append) (xs := #[.tmp 63, .tmp 65]) rfl ?_); at_builtin; refine Kd.R_append KS (w0 := w) w.heap.size rfl (.tmp 63) (.tmp 65) 117 22 (.slice none 0 0) 24 rfl Tryd.underlying117 info23 rfl (by decide) (by omega) _ rows X [.slice A7 X.length c7] (fun _ => True) _ rfl rfl ⟨_, rfl, HAP.out⟩ (fun _ h => ⟨trivial, h.2⟩) (fun _ _ => trivial) HO2.out HBw.out HBw.out.size ?aL ?_; (case aL => have := HRL2.out; omega); intro v9 w9 ho hb2 hg hat; have HO9 := Aside0.mk ho; have HB9 := Aside0.mk hb2; have HC9 := Aside0.mk (Rw.of (Kd.R_over HO7.out HO2.out (by decide) hg)).C; have HG9 := Aside0.mk (heap_over HO2.out HG2.out (by decide) hg); clear ho hb2 hg hat))
              refine (hsum_calls gh A7 c7 X _ (heap_keep HG0.out HB9.out) HC9.out hc7 HXB.out HXN.out).mono ?_
              rintro e w10 ⟨rfl, hb⟩
              rw [HSX.out]
              have HO10 := Aside0.mk (Kd.R_below HO9.out hb)
              have HB10 := Aside0.mk (below_step HB9.out hb)
              have HG10 := Aside0.mk (heap_keep HG9.out hb)
              clear hb HO9 HB9 HG9 HC9
              have hN57 := HN57.out
              go_wp2_with (first | (refine wpList_store_row rfl 31 (.tmp 13) (.tmp 69) rfl g (cb D2) rfl rfl 31 _ HG10.out (infoDg _ HD2.out.1) (by rw [cb_size, cb_size, HD2.out.1, HD.out.1]) (cb_one _) ?_))
              go_roundw
              case rel => exact ⟨(N + 1) / 2, I / 2, at0 + 1, D2, rows ++ [X], by go_num, by go_num, by go_num, HNN, hN2.2, HAPP.out, ⟨by have := HRL.out; simp; omega⟩, HD2, HPT2, ⟨setRow_heap _ _ _ _ _ _ HG10.out⟩, ⟨R_row HO10.out HG10.out (by decide) _⟩, ⟨below_setRow HB10.out HGE.out _⟩⟩
              case measure => simp [intOf]; omega
          · have e7 : decide ((at0 : Int) ≥ (p.length : Int)) = true := decide_eq_true (by omega)
            have e8 : decide (p.length ≤ at0) = true := decide_eq_true (by omega)
            have HE := Aside0.mk (show RES = ([], false) by
              have h := HPT.out
              rw [List.drop_of_length_le (by omega), pathR_none d (by omega) HEA.out, ahead_none] at h
              rw [← HRR.out, ← h]
              rfl)
            go_wp2
            go_ret2
            exact ⟨_, by rw [HE.out]; rfl, by rw [HE.out]; exact Kd.R_nil _ _ _ _ _, HB.out⟩
    · have e1 : decide ((N : Int) > 1) = false := decide_eq_false (by omega)
      have HE := Aside0.mk (show RES = (rows ++ [2 :: (be8 n ++ d)], decide ((p.drop at0).length = 0)) by
        have h := HPT.out
        rw [pathR_end _ _ _ (by omega), ahead_end] at h
        rw [← HRR.out, ← h]
        rfl)
      have HED := Aside0.mk (show decide ((p.drop at0).length = 0) = decide (at0 = p.length) by rw [List.length_drop]; congr 1; exact propext ⟨fun _ => by omega, fun _ => by omega⟩)
      rw [HED.out] at HE
      have HRL2 := Aside0.mk (show rows.length ≤ 1000001 by have := HRL.out; omega)
      go_wp2_with (first | (refine wpList_load_row rfl 31 (.tmp 13) rfl g rfl 31 (cb d) (0, 0) _ HG.out Tryd.underlying31 rfl (infoDg _ HD.out.1) ?_))
      refine (rootB_R n d _ HM.out HD.out.1).mono ?_
      rintro e w7 ⟨v7, rfl, ho, hb⟩
      generalize hX : (2 :: (be8 n ++ d) : List Int) = X at HE ho
      have HO7 := Aside0.mk ho
      obtain ⟨A7, c7, rfl, hc7, hC7⟩ := RB_reads ho
      have HO2 := Aside0.mk (Kd.R_below HO.out hb)
      have HBw := Aside0.mk (below_step HB.out hb)
      have HAP := Aside0.mk (Kd.R_apartR (Kd.R_lower HO7.out HB.out.size) HO2.out (by decide))
      clear ho hb hC7 hX
      go_wp2_with (first | ((with_reducible refine gate_builtin (b := .append) (xs := #[.tmp 75, .tmp 79]) rfl ?_); at_builtin; refine Kd.R_append KS (w0 := w) w.heap.size rfl (.tmp 75) (.tmp 79) 117 22 (.slice none 0 0) 24 rfl Tryd.underlying117 info23 rfl (by decide) (by omega) _ rows X [.slice A7 X.length c7] (fun _ => True) _ rfl rfl ⟨_, rfl, HAP.out⟩ (fun _ h => ⟨trivial, h.2⟩) (fun _ _ => trivial) HO2.out HBw.out HBw.out.size ?aL ?_; (case aL => have := HRL2.out; omega); intro v9 w9 ho hb2 hg hat; have HO9 := Aside0.mk ho; have HB9 := Aside0.mk hb2; clear ho hb2 hg hat))
      go_ret2
      rw [HE.out]
      refine ⟨v9, ?_, HO9.out, HB9.out⟩
      show Ending.returned (.tuple #[v9, .bool ((at0 : Int) == (p.length : Int))]) = Ending.returned (.tuple #[v9, .bool (decide (at0 = p.length))])
      rw [show ((at0 : Int) == (p.length : Int)) = decide (at0 = p.length) by rw [Bool.eq_iff_iff, beq_iff_eq, decide_eq_true_eq]; omega]
end Go.Proofs.YtoiblfmlahedlaaDoor.Ref
end
section
namespace Go.Proofs.YtoiblfmlahedlaaDoor.Ref
open Go.RowKit Go.Proofs.YtoiblfmlahedlaaDoorW.PrintWords Go.Proofs.YtoiblfmlahedlaaDoorW.PrintLast Go.Proofs.YtoiblfmlahedlaaDoorW.PrintMore
set_option linter.unusedVariables false
set_option linter.unusedSimpArgs false
set_option maxRecDepth 100000
open Go.Proofs.YtoiblfmlahedlaaDoor.Sha
theorem cell_keep {w w' : World} {p : Addr} {v : Value} (h : Below w.heap.size w w') (hc : w.cell? p = some v) : w'.cell? p = some v := by
  have hl := World.block_lt_of_cell? w p hc
  rw [h.cell hl]
  exact hc
end Go.Proofs.YtoiblfmlahedlaaDoor.Ref
end
section
namespace Go.Proofs.YtoiblfmlahedlaaDoor.Sha
open Go.RowKit Go.Proofs.YtoiblfmlahedlaaDoorW.PrintWords Go.Proofs.YtoiblfmlahedlaaDoorW.PrintLast Go.Proofs.YtoiblfmlahedlaaDoorW.PrintMore
set_option linter.unusedVariables false
set_option linter.unusedSimpArgs false
set_option maxRecDepth 100000
theorem upN_at (rows : List (List Int)) (n k : Nat) (h : k < n) : (upN rows n)[k]? = some (pairI (rows.getD (2 * k) []) (rows.getD (2 * k + 1) [])) := by
  unfold upN
  rw [List.getElem?_map, List.getElem?_range h]
  rfl
theorem up_at2 (rows : List (List Int)) (k : Nat) (h : 2 * k + 1 < rows.length) : (upL rows).getD k [] = pairI (rows.getD (2 * k) []) (rows.getD (2 * k + 1) []) := by
  have : (upL rows)[k]? = some (pairI (rows.getD (2 * k) []) (rows.getD (2 * k + 1) [])) := by
    unfold upL
    split
    · rw [List.getElem?_append_left (by rw [upN_len]; omega)]
      exact upN_at _ _ _ (by omega)
    · exact upN_at _ _ _ (by omega)
  rw [List.getD_eq_getElem?_getD, this, Option.getD_some]
theorem up_at1 (rows : List (List Int)) (k : Nat) (h : 2 * k + 1 = rows.length) : (upL rows).getD k [] = rows.getD (2 * k) [] := by
  have : (upL rows)[k]? = some (rows.getD (2 * k) []) := by
    unfold upL
    rw [if_pos (by omega), List.getElem?_append_right (by rw [upN_len]; omega), upN_len, show k - rows.length / 2 = 0 by omega, show rows.length - 1 = 2 * k by omega, List.getElem?_cons_zero]
  rw [List.getD_eq_getElem?_getD, this, Option.getD_some]
theorem chk_proof : ∀ (n : Nat) (rows : List (List Int)) (i : Nat), rows.length = n → i < n → chk n i (rows.getD i []) (proofP rows i) = some ((climb rows).getD 0 [], []) := by
  intro n
  induction n using Nat.strongRecOn with
  | ind n ih =>
    intro rows i hn hi
    by_cases h1 : n ≤ 1
    · obtain rfl : i = 0 := by omega
      rw [chk_end _ _ _ h1, proofP_end _ (by omega), climb_end (by omega)]
    · have hul := upL_len rows
      have hcl : climb rows = climb (upL rows) := climb_up (by omega)
      have hrec := ih ((n + 1) / 2) (by omega) (upL rows) (i / 2) (by omega) (by omega)
      rw [proofP_up i (by omega), hcl]
      by_cases h2 : n ≤ oth i
      · rw [if_neg (by omega), List.nil_append, chk_alone _ _ h1 h2]
        have he : i % 2 = 0 ∧ i + 1 = n := by unfold oth at h2; split at h2 <;> omega
        rw [up_at1 rows (i / 2) (by omega), show 2 * (i / 2) = i by omega] at hrec
        exact hrec
      · rw [if_pos (by omega)]
        show chk n i _ (_ :: proofP (upL rows) (i / 2)) = _
        rw [chk_cons _ _ _ h1 h2]
        by_cases h3 : i % 2 = 0
        · have ho : oth i = i + 1 := by unfold oth; rw [if_pos h3]
          rw [if_pos h3, ho]
          rw [up_at2 rows (i / 2) (by omega), show 2 * (i / 2) = i by omega] at hrec
          exact hrec
        · have ho : oth i = i - 1 := by unfold oth; rw [if_neg h3]
          rw [if_neg h3, ho]
          rw [up_at2 rows (i / 2) (by omega), show 2 * (i / 2) = i - 1 by omega, show i - 1 + 1 = i by omega] at hrec
          exact hrec
theorem leavesL_at (l : List Int) (i : Nat) (h : i < countN l.length) : (leavesL l).getD i [] = leafI i (chunkL l i) := by
  unfold leavesL leavesP
  rw [List.getD_eq_getElem?_getD, List.getElem?_map, List.getElem?_range h, Option.map_some, Option.getD_some]
theorem prove_top (l : List Int) (i : Nat) (h : i < countN l.length) : ∃ t, chk (countN l.length) i (leafI i (chunkL l i)) (proofOf l i) = some (t, []) ∧ rootI l.length t = rootOf l :=
  ⟨(climb (leavesL l)).getD 0 [], by rw [← leavesL_at l i h]; exact chk_proof _ (leavesL l) i (leavesL_len l) h, by unfold rootOf; rfl⟩
theorem chunk_size (l : List Int) (i : Nat) (h : i < countN l.length) : (chunkL l i).length = sizeN l.length i := by
  rw [chunk_len h]
  have := count_lt h
  unfold sizeN
  omega
theorem prove_yes (l : List Int) (i : Nat) (h : i < countN l.length) : checkB (rootOf l) l.length i (chunkL l i) (proofOf l i) = true := by
  obtain ⟨t, h1, h2⟩ := prove_top l i h
  unfold checkB
  rw [Int.toNat_natCast, Int.toNat_natCast, if_pos ⟨by omega, by omega, by omega, chunk_size l i h⟩]
  unfold checkR
  rw [h1, topB_nil, h2]
  exact decide_eq_true rfl
theorem proofP_le2 : ∀ (rows : List (List Int)) (i : Nat), (proofP rows i).length ≤ rows.length := by
  intro rows
  induction hn : rows.length using Nat.strongRecOn generalizing rows with
  | ind n ih =>
    intro i
    by_cases h : rows.length ≤ 1
    · rw [proofP_end i h]; simp
    · have hu := upL_len rows
      have := ih (upL rows).length (by omega) (upL rows) rfl (i / 2)
      rw [proofP_up i h, List.length_append]
      have : (if oth i < rows.length then [rows.getD (oth i) []] else []).length ≤ 1 := by split <;> simp
      omega
theorem proofP_row : ∀ (rows : List (List Int)) (i : Nat), isRow rows → isRow (proofP rows i) := by
  intro rows
  induction hn : rows.length using Nat.strongRecOn generalizing rows with
  | ind n ih =>
    intro i hr
    by_cases h : rows.length ≤ 1
    · rw [proofP_end i h]; intro d hd; cases hd
    · have hu := upL_len rows
      have h2 := ih (upL rows).length (by omega) (upL rows) rfl (i / 2) (upL_row hr)
      rw [proofP_up i h]
      intro d hd
      rcases List.mem_append.1 hd with h3 | h3
      · split at h3
        · rename_i ho
          obtain rfl : d = rows.getD (oth i) [] := by simpa using h3
          exact isRow_getD hr _ ho
        · cases h3
      · exact h2 d h3
theorem proof_row (l : List Int) (i : Nat) : isRow (proofOf l i) := proofP_row _ _ (leaves_D l)
end Go.Proofs.YtoiblfmlahedlaaDoor.Sha
end
section
namespace Go.Proofs.YtoiblfmlahedlaaDoor.Ref
open Go.RowKit Go.Proofs.YtoiblfmlahedlaaDoorW.PrintWords Go.Proofs.YtoiblfmlahedlaaDoorW.PrintLast Go.Proofs.YtoiblfmlahedlaaDoorW.PrintMore
set_option linter.unusedVariables false
set_option linter.unusedSimpArgs false
set_option maxRecDepth 100000
open Go.Proofs.YtoiblfmlahedlaaDoor.Sha
theorem u8_inj {x y : Int} (hx : 0 ≤ x ∧ x < 256) (hy : 0 ≤ y ∧ y < 256) (h : UInt8.ofNat x.toNat = UInt8.ofNat y.toNat) : x = y := by
  have h2 := congrArg UInt8.toNat h
  rw [UInt8.toNat_ofNat', UInt8.toNat_ofNat', Nat.mod_eq_of_lt (by omega), Nat.mod_eq_of_lt (by omega)] at h2
  omega
theorem map_inj : ∀ (a b : List Int), Sha.bytes a → Sha.bytes b → (a.map fun n => UInt8.ofNat n.toNat) = (b.map fun n => UInt8.ofNat n.toNat) → a = b
  | [], [], _, _, _ => rfl
  | [], _ :: _, _, _, h => by simp at h
  | _ :: _, [], _, _, h => by simp at h
  | x :: a, y :: b, ha, hb, h => by
    simp only [List.map_cons, List.cons.injEq] at h
    rw [u8_inj (ha x (by simp)) (hb y (by simp)) h.1, map_inj a b (fun z hz => ha z (by simp [hz])) (fun z hz => hb z (by simp [hz])) h.2]
theorem str_inj {a b : List Int} (ha : Sha.bytes a) (hb : Sha.bytes b) (h : strOfNums a = strOfNums b) : a = b := by
  apply map_inj a b ha hb
  rw [← strOfNums_data, ← strOfNums_data, h]
theorem str_list_ne {a b : List Int} (h : ¬ strOfNums a = strOfNums b) : ((strOfNums a).toList == (strOfNums b).toList) = false := by
  rw [beq_eq_false_iff_ne, ByteArray.toList_eq, ByteArray.toList_eq]
  intro h2
  apply h
  have h3 : (strOfNums a).data = (strOfNums b).data := by
    rw [← Array.toList_inj]
    exact h2
  cases ha : strOfNums a
  cases hb : strOfNums b
  rw [ha, hb] at h3
  exact congrArg ByteArray.mk h3
def Link (P Q : List (List Int)) (t u : List Int) : Prop := P.length = Q.length ∧ (∀ k, k + 1 < P.length → P.getD (k + 1) [] = Q.getD (k + 1) [] → shaI (P.getD k []) = shaI (Q.getD k [])) ∧ shaI (P.getD (P.length - 1) []) = t ∧ shaI (Q.getD (Q.length - 1) []) = u
theorem Link.cons {X Y Z W : List Int} {P Q : List (List Int)} {t u : List Int} (h : Link (Z :: P) (W :: Q) t u) (hl : Z = W → shaI X = shaI Y) : Link (X :: Z :: P) (Y :: W :: Q) t u := by
  obtain ⟨h1, h2, h3, h4⟩ := h
  refine ⟨by simpa using h1, fun k hk he => ?_, ?_, ?_⟩
  · cases k with
    | zero => exact hl (by simpa using he)
    | succ k =>
      have := h2 k (by simpa using hk) (by simpa using he)
      simpa using this
  · have e : (X :: Z :: P).length - 1 = ((Z :: P).length - 1) + 1 := by simp
    rw [e]
    exact h3
  · have e : (Y :: W :: Q).length - 1 = ((W :: Q).length - 1) + 1 := by simp
    rw [e]
    exact h4
theorem app_inj {a b c d : List Int} (h : a ++ b = c ++ d) (hl : a.length = c.length) : a = c ∧ b = d := List.append_inj h hl
theorem link_path : ∀ (n i : Nat) (X Y d e : List Int) (p q : List (List Int)) (rs ss : List (List Int)) (t u : List Int), shaI X = d → shaI Y = e → isD d → isD e → isRow p → isRow q →
    pathR n i d p = some (rs, t, []) → pathR n i e q = some (ss, u, []) → Link (X :: rs) (Y :: ss) t u := by
  intro n
  induction n using Nat.strongRecOn with
  | ind n ih =>
    intro i X Y d e p q rs ss t u hX hY hd he hp hq h1 h2
    by_cases hn : n ≤ 1
    · rw [pathR_end _ _ _ hn] at h1 h2
      cases h1
      cases h2
      exact ⟨rfl, fun k hk => by simp at hk, hX, hY⟩
    · by_cases ho : n ≤ oth i
      · rw [pathR_alone _ _ hn ho] at h1 h2
        exact ih _ (by omega) _ X Y d e p q rs ss t u hX hY hd he hp hq h1 h2
      · cases p with
        | nil => rw [pathR_none _ hn ho] at h1; cases h1
        | cons x p =>
          cases q with
          | nil => rw [pathR_none _ hn ho] at h2; cases h2
          | cons y q =>
            rw [pathR_cons _ _ _ hn ho] at h1 h2
            have hx : isD x := hp x (by simp)
            have hy : isD y := hq y (by simp)
            cases hr1 : pathR ((n + 1) / 2) (i / 2) (if i % 2 = 0 then pairI d x else pairI x d) p with
            | none => rw [hr1] at h1; cases h1
            | some r1 =>
              cases hr2 : pathR ((n + 1) / 2) (i / 2) (if i % 2 = 0 then pairI e y else pairI y e) q with
              | none => rw [hr2] at h2; cases h2
              | some r2 =>
                rw [hr1] at h1
                rw [hr2] at h2
                obtain ⟨r1, t1, q1⟩ := r1
                obtain ⟨r2, t2, q2⟩ := r2
                simp only [Option.map_some, Option.some.injEq, Prod.mk.injEq] at h1 h2
                obtain ⟨hrs, rfl, rfl⟩ := h1
                obtain ⟨hss, rfl, rfl⟩ := h2
                subst hrs
                subst hss
                by_cases hpar : i % 2 = 0
                · rw [if_pos hpar] at hr1 hr2
                  rw [if_pos hpar, if_pos hpar]
                  refine (ih _ (by omega) _ _ _ _ _ _ _ _ _ _ _ (show shaI (1 :: (d ++ x)) = pairI d x from rfl) (show shaI (1 :: (e ++ y)) = pairI e y from rfl) (by unfold pairI; exact sha_D _) (by unfold pairI; exact sha_D _) (fun z hz => hp z (by simp [hz])) (fun z hz => hq z (by simp [hz])) hr1 hr2).cons (fun heq => ?_)
                  rw [hX, hY]
                  exact (app_inj (by simpa using heq) (by rw [hd.1, he.1])).1
                · rw [if_neg hpar] at hr1 hr2
                  rw [if_neg hpar, if_neg hpar]
                  refine (ih _ (by omega) _ _ _ _ _ _ _ _ _ _ _ (show shaI (1 :: (x ++ d)) = pairI x d from rfl) (show shaI (1 :: (y ++ e)) = pairI y e from rfl) (by unfold pairI; exact sha_D _) (by unfold pairI; exact sha_D _) (fun z hz => hp z (by simp [hz])) (fun z hz => hq z (by simp [hz])) hr1 hr2).cons (fun heq => ?_)
                  rw [hX, hY]
                  exact (app_inj (by simpa using heq) (by rw [hx.1, hy.1])).2
theorem getD_app1 (P : List (List Int)) (z : List Int) (k : Nat) (h : k < P.length) : (P ++ [z]).getD k [] = P.getD k [] := by
  rw [List.getD_eq_getElem?_getD, List.getElem?_append_left h, ← List.getD_eq_getElem?_getD]
theorem getD_app2 (P : List (List Int)) (z : List Int) (k : Nat) (h : k = P.length) : (P ++ [z]).getD k [] = z := by
  rw [List.getD_eq_getElem?_getD, List.getElem?_append_right (by omega), h, Nat.sub_self]
  rfl
theorem path_of_check (R : List Int) (n i : Nat) (c : List Int) (p : List (List Int)) (h : checkR R n i c p = true) : ∃ rs t, pathR (countN n) i (leafI i c) p = some (rs, t, []) ∧ rootI n t = R := by
  have hc := pathR_chk (countN n) i (leafI i c) p
  unfold checkR at h
  rw [← hc] at h
  cases hp : pathR (countN n) i (leafI i c) p with
  | none => rw [hp] at h; cases h
  | some r =>
    obtain ⟨rs, t, q⟩ := r
    rw [hp] at h
    replace h : topB n R (some (t, q)) = true := h
    by_cases hq : 0 < q.length
    · rw [topB_left n R t hq] at h; cases h
    · obtain rfl : q = [] := List.length_eq_zero_iff.1 (by omega)
      rw [topB_nil] at h
      exact ⟨rs, t, rfl, of_decide_eq_true h⟩
theorem pathV_of {n i : Nat} {c : List Int} {p rs : List (List Int)} {t : List Int} (h : pathR (countN n) i (leafI i c) p = some (rs, t, [])) : pathV n i c p = ((0 :: (be8 i ++ c)) :: rs ++ [2 :: (be8 n ++ t)], true) := by
  unfold pathV
  rw [h]
  rfl
theorem bind_rows (n i : Nat) (R c1 c2 : List Int) (p q : List (List Int)) (hp : isRow p) (hq : isRow q) (h1 : checkR R n i c1 p = true) (h2 : checkR R n i c2 q = true) :
    (pathV n i c1 p).2 = true ∧ (pathV n i c2 q).2 = true ∧ (pathV n i c1 p).1.length = (pathV n i c2 q).1.length ∧ 0 < (pathV n i c1 p).1.length ∧
    (pathV n i c1 p).1.getD 0 [] = 0 :: (be8 i ++ c1) ∧ (pathV n i c2 q).1.getD 0 [] = 0 :: (be8 i ++ c2) ∧
    ∀ k, k < (pathV n i c1 p).1.length → (∀ j, k < j → j < (pathV n i c1 p).1.length → (pathV n i c1 p).1.getD j [] = (pathV n i c2 q).1.getD j []) → shaI ((pathV n i c1 p).1.getD k []) = shaI ((pathV n i c2 q).1.getD k []) := by
  obtain ⟨rs, t, e1, r1⟩ := path_of_check R n i c1 p h1
  obtain ⟨ss, u, e2, r2⟩ := path_of_check R n i c2 q h2
  have hL := link_path (countN n) i (0 :: (be8 i ++ c1)) (0 :: (be8 i ++ c2)) (leafI i c1) (leafI i c2) p q rs ss t u rfl rfl (by unfold leafI; exact sha_D _) (by unfold leafI; exact sha_D _) hp hq e1 e2
  rw [pathV_of e1, pathV_of e2]
  obtain ⟨hl, hk, ht, hu⟩ := hL
  generalize hP : (0 :: (be8 i ++ c1)) :: rs = P at *
  generalize hQ : (0 :: (be8 i ++ c2)) :: ss = Q at *
  have hP0 : P.length = rs.length + 1 := by rw [← hP]; simp
  have hg0 : P.getD 0 [] = 0 :: (be8 i ++ c1) := by rw [← hP]; rfl
  have hg1 : Q.getD 0 [] = 0 :: (be8 i ++ c2) := by rw [← hQ]; rfl
  refine ⟨rfl, rfl, by simp [hl], by simp, ?_, ?_, ?_⟩
  · show (P ++ [2 :: (be8 n ++ t)]).getD 0 [] = _
    rw [getD_app1 _ _ _ (by omega), hg0]
  · show (Q ++ [2 :: (be8 n ++ u)]).getD 0 [] = _
    rw [getD_app1 _ _ _ (by omega), hg1]
  · intro k hkl hj
    replace hkl : k < P.length + 1 := by simpa using hkl
    replace hj : ∀ j, k < j → j < P.length + 1 → (P ++ [2 :: (be8 n ++ t)]).getD j [] = (Q ++ [2 :: (be8 n ++ u)]).getD j [] := fun j h1 h2 => hj j h1 (by simpa using h2)
    show shaI ((P ++ [2 :: (be8 n ++ t)]).getD k []) = shaI ((Q ++ [2 :: (be8 n ++ u)]).getD k [])
    by_cases hlast : k = P.length
    · rw [getD_app2 P _ k hlast, getD_app2 Q _ k (by omega)]
      exact r1.trans r2.symm
    · rw [getD_app1 P _ k (by omega), getD_app1 Q _ k (by omega)]
      by_cases hl1 : k + 1 = P.length
      · have h3 := hj (k + 1) (by omega) (by omega)
        rw [getD_app2 P _ _ hl1, getD_app2 Q _ _ (by omega)] at h3
        have h4 : t = u := by simpa using h3
        have ek : k = P.length - 1 := by omega
        have ek2 : k = Q.length - 1 := by omega
        rw [← ek] at ht
        rw [← ek2] at hu
        rw [ht, hu, h4]
      · have h3 := hj (k + 1) (by omega) (by omega)
        rw [getD_app1 P _ _ (by omega), getD_app1 Q _ _ (by omega)] at h3
        exact hk k (by omega) h3
end Go.Proofs.YtoiblfmlahedlaaDoor.Ref
end
section
namespace Go.Proofs.YtoiblfmlahedlaaDoor.Sha
open Go.RowKit Go.Proofs.YtoiblfmlahedlaaDoorW.PrintWords Go.Proofs.YtoiblfmlahedlaaDoorW.PrintLast Go.Proofs.YtoiblfmlahedlaaDoorW.PrintMore
set_option linter.unusedVariables false
set_option linter.unusedSimpArgs false
set_option maxRecDepth 100000
def Blk (w : World) (g n : Nat) : Prop := ∃ cur : Array Value, w.heap[g]? = some (.cells cur 5 (0, 0)) ∧ ∀ j, j < n → ∃ y : Int, cur[j]? = some (.int .u8 y)
theorem Blk.set {w : World} {g n : Nat} (h : Blk w g n) (j : Nat) (y : Int) : Blk (w.setCell ⟨g, j, none⟩ (.int .u8 y)) g n := by
  obtain ⟨cur, h1, h2⟩ := h
  refine ⟨_, blk_set h1 j _, fun i hi => ?_⟩
  obtain ⟨z, hz⟩ := h2 i hi
  by_cases hij : j = i
  · subst hij
    exact ⟨y, by rw [Array.getElem?_setIfInBounds_self_of_lt (Array.getElem?_eq_some_iff.1 hz).1]⟩
  · exact ⟨z, by rw [Array.getElem?_setIfInBounds_ne hij]; exact hz⟩
theorem Blk.cell {w : World} {g n : Nat} (h : Blk w g n) (j : Nat) (hj : j < n) : ∃ y : Int, w.cell? ⟨g, j, none⟩ = some (.int .u8 y) ∧ w.frozen? ⟨g, j, none⟩ = false := by
  obtain ⟨cur, h1, h2⟩ := h
  obtain ⟨y, hy⟩ := h2 j hj
  exact ⟨y, (cell_of h1).2 hy, by simp [World.frozen?, h1]⟩
theorem Blk.of {w : World} {base : Nat} {ok : Nat → Prop} {v : Value} {xs : List Int} (h : Kd.R B 5 w base ok v xs) (hp : 0 < xs.length) : ∃ g cap, v = .slice (some ⟨g, 0, none⟩) xs.length cap ∧ base ≤ g ∧ Blk w g xs.length := by
  obtain ⟨g, cap, rfl, hb, _, cells, hc⟩ := Kd.R_form h hp
  refine ⟨g, cap, rfl, hb, cells, hc, fun j hj => ?_⟩
  obtain ⟨ad, e, hx⟩ := getB (Kd.R_reads' h).2.2 j hj
  injection e with e
  subst e
  rw [show (Addr.mk g 0 none).add j = ⟨g, j, none⟩ by simp [Addr.add_lit]] at hx
  exact ⟨_, (cell_of hc).1 hx⟩
theorem Blk.below {w w' : World} {g n : Nat} (h : Blk w g n) (hb : Below w.heap.size w w') : Blk w' g n := by
  obtain ⟨cur, h1, h2⟩ := h
  exact ⟨cur, heap_keep h1 hb, h2⟩
def PB (w : World) (A : Option Addr) (n base : Nat) : Prop := 0 < n → ∃ b, A = some ⟨b, 0, none⟩ ∧ base ≤ b ∧ Blk w b n
theorem PB.of {w : World} {base : Nat} {ok : Nat → Prop} {A : Option Addr} {n c : Nat} {xs : List Int} (h : Kd.R B 5 w base ok (.slice A n c) xs) : PB w A n base := by
  obtain ⟨rfl, _, hC⟩ := Kd.R_reads' h
  intro hp
  obtain ⟨b, cap, e, hb, hB⟩ := Blk.of h hp
  injection e with e1 e2 e3
  exact ⟨b, e1, hb, hB⟩
theorem PB.below {w w' : World} {A : Option Addr} {n base : Nat} (h : PB w A n base) (hb : Below w.heap.size w w') : PB w' A n base := fun hp => by
  obtain ⟨b, e1, e2, e3⟩ := h hp
  exact ⟨b, e1, e2, e3.below hb⟩
end Go.Proofs.YtoiblfmlahedlaaDoor.Sha
end
