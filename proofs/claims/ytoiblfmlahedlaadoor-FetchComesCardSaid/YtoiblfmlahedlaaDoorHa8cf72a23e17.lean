/- What calls of Go functions of this seat come to, as the rows need it: under the conditions that each theorem names. -/
import Derived.Test.YtoiblfmlahedlaaDoorH6aa5081b5dc3
import Derived.Test.YtoiblfmlahedlaaDoorH1f87673584ff
import Derived.Test.YtoiblfmlahedlaaDoorH68227917bba1
import Derived.Test.YtoiblfmlahedlaaDoorH20320fc671a4
import Derived.Test.YtoiblfmlahedlaaDoorH1961d90f4de8
import Derived.Test.YtoiblfmlahedlaaDoorHfe34aa19fd09
import Derived.Deep.RegionWith
import Derived.OneCell
section
namespace Go.Proofs.YtoiblfmlahedlaaDoor.Ref
open Go.RowKit Go.Proofs.YtoiblfmlahedlaaDoorW.PrintWords Go.Proofs.YtoiblfmlahedlaaDoorW.PrintLast Go.Proofs.YtoiblfmlahedlaaDoorW.PrintMore
set_option linter.unusedVariables false
set_option linter.unusedSimpArgs false
set_option maxRecDepth 100000
open Go.Proofs.YtoiblfmlahedlaaDoor.Sha
structure Mb (w0 w : World) (gg : Nat) (s r : S8) (xs : List Int) : Prop where
  rb : Rb w0 w s xs
  m : w.heap[gg]? = some (.cells (c8 r) 67 (0, 0))
  lt : w0.heap.size + 1 + 1 + 1 < gg
theorem Mb.drew {w0 w : World} {gg : Nat} {s r : S8} {xs : List Int} (h : Mb w0 w gg s r xs) : Mb w0 w.drew gg s r xs := ⟨h.rb.drew, h.m, h.lt⟩
theorem Mb.row {w0 w : World} {gg : Nat} {s r : S8} {xs : List Int} (h : Mb w0 w gg s r xs) (r' : S8) : Mb w0 (w.setRow gg (c8 r')) gg s r' xs := ⟨h.rb.row gg h.lt _, setRow_heap _ _ _ _ _ _ h.m, h.lt⟩
theorem Mb.set {w0 w : World} {gg : Nat} {s r : S8} {xs : List Int} (h : Mb w0 w gg s r xs) (k : Nat) (hk : k < 8) (v : Int) : Mb w0 (w.setCell ⟨gg, k, none⟩ (.int .u32 v)) gg s (setW r k v) xs :=
  ⟨h.rb.far gg k h.lt _, by rw [← c8_set r k hk v]; exact blk_set h.m k _, h.lt⟩
theorem Mb.frozen {w0 w : World} {gg : Nat} {s r : S8} {xs : List Int} (h : Mb w0 w gg s r xs) (j : Nat) : w.frozen? ⟨gg, j, none⟩ = false := by simp [World.frozen?, h.m]
theorem Mb.mk' {w0 w : World} {s : S8} {xs : List Int} (h : Rb w0 w s xs) : Mb w0 ((w.alloc (.cells (c8 (0, 0, 0, 0, 0, 0, 0, 0)) 67)).setRow w.heap.size (c8 s)) w.heap.size s s xs := by
  have hlt : w0.heap.size + 1 + 1 + 1 < w.heap.size := (Array.getElem?_eq_some_iff.1 h.x).1
  exact ⟨(h.below ((Below.refl w.heap.size w).alloc (Nat.le_refl _) _)).row w.heap.size hlt _, setRow_heap _ _ _ _ _ _ (heap_new _ _), hlt⟩
def rb_T8 : Bool × List (List Nat × List Nat) := (true, [([], []), ([], []), ([1], [1]), ([2], [2]), ([3], [3]), ([], []), ([], []), ([6], [6]), ([], []), ([7, 8], [7, 8]), ([5, 9], [5, 9]), ([10], [10]), ([11], [11]), ([4, 12], [4, 12]), ([0, 0, 1, 2, 3, 4, 5, 6, 7, 8, 9, 10, 11, 12, 13], [0]), ([14, 13, 0, 1, 2, 3, 4, 5, 6, 7, 8, 9, 10, 11, 12, 13], [13, 14])])
def rb_B8 : List Nat := [0, 0, 2, 6, 14, 0, 0, 64, 0, 448, 992, 2016, 4064, 8190, 16383, 32767]
theorem rb_tab8 : rtab .any (opsOf Tryd.f78 8) = rb_T8 := by kernel_rfl
theorem rb_bits8 : waitsOk rb_T8.2 rb_B8 = true := by kernel_rfl
def rb_T12 : Bool × List (List Nat × List Nat) := (true, [([], []), ([0], [0]), ([1], [1]), ([2], [2]), ([], []), ([4], [4]), ([5], [5]), ([6], [6]), ([3, 0, 1, 2, 3], [3]), ([7, 8, 0, 1, 2, 3, 4, 5, 6, 7, 8], [7])])
def rb_B12 : List Nat := [0, 1, 3, 7, 0, 16, 48, 112, 15, 511]
theorem rb_tab12 : rtab .any (opsOf Tryd.f78 12) = rb_T12 := by kernel_rfl
theorem rb_bits12 : waitsOk rb_T12.2 rb_B12 = true := by kernel_rfl
def rb_T13 : Bool × List (List Nat × List Nat) := (true, [([], []), ([], []), ([1], [1]), ([2], [2]), ([3], [3]), ([], []), ([5], [5]), ([], []), ([7, 6], [7]), ([6, 8], [6, 8]), ([], []), ([10], [10]), ([9, 11], [9, 11]), ([4, 12], [4, 12]), ([], []), ([14], [14]), ([15], [15]), ([16], [16]), ([13, 17], [13, 17]), ([], []), ([19, 8], [19]), ([], []), ([21, 20], [21]), ([20, 22], [20, 22]), ([], []), ([24], [24]), ([23, 25], [23, 25]), ([18, 26], [18, 26]), ([0, 0, 1, 2, 3, 4, 5, 6, 7, 8, 9, 10, 11, 12, 13, 14, 15, 16, 17, 18, 19, 20, 21, 22, 23, 24, 25, 26, 27], [0]), ([28, 27, 22, 0, 1, 2, 3, 4, 5, 6, 7, 8, 9, 10, 11, 12, 13, 14, 15, 16, 17, 18, 19, 20, 21, 22, 23, 24, 25, 26, 27], [27, 28])])
def rb_B13 : List Nat := [0, 0, 2, 6, 14, 0, 32, 0, 224, 480, 0, 1024, 4064, 8190, 0, 16384, 49152, 114688, 262142, 0, 524768, 0, 3670496, 7864800, 0, 16777216, 66585056, 134217726, 268435455, 536870911]
theorem rb_tab13 : rtab .any (opsOf Tryd.f78 13) = rb_T13 := by kernel_rfl
theorem rb_bits13 : waitsOk rb_T13.2 rb_B13 = true := by kernel_rfl
def rb_T18 : Bool × List (List Nat × List Nat) := (true, [([], []), ([0], [0]), ([], []), ([2], [2]), ([1, 0, 1], [1]), ([3, 4, 0, 1, 2, 3, 4], [3])])
def rb_B18 : List Nat := [0, 1, 0, 4, 3, 31]
theorem rb_tab18 : rtab .any (opsOf Tryd.f78 18) = rb_T18 := by kernel_rfl
theorem rb_bits18 : waitsOk rb_T18.2 rb_B18 = true := by kernel_rfl
def rb_T19 : Bool × List (List Nat × List Nat) := (true, [([], []), ([0], [0]), ([], []), ([2], [2]), ([], []), ([4, 3], [4]), ([3, 5], [3, 5]), ([], []), ([7, 5], [7]), ([6, 8], [6, 8]), ([1, 9], [1, 9]), ([], []), ([], []), ([12], [12]), ([11, 13], [11, 13]), ([], []), ([15], [15]), ([], []), ([17], [17]), ([16, 18], [16, 18]), ([14, 19], [14, 19]), ([10, 20], [10, 20]), ([], []), ([22], [22]), ([23], [23]), ([21, 24], [21, 24]), ([], []), ([26], [26]), ([27], [27]), ([25, 28], [25, 28]), ([29, 8, 0, 1, 2, 3, 4, 5, 6, 7, 8, 9, 10, 11, 12, 13, 14, 15, 16, 17, 18, 19, 20, 21, 22, 23, 24, 25, 26, 27, 28, 29], [29])])
def rb_B19 : List Nat := [0, 1, 0, 4, 0, 28, 60, 0, 188, 508, 1023, 0, 0, 4096, 14336, 0, 32768, 0, 131072, 491520, 1046528, 2097151, 0, 4194304, 12582912, 33554431, 0, 67108864, 201326592, 536870911, 1073741823]
theorem rb_tab19 : rtab .any (opsOf Tryd.f78 19) = rb_T19 := by kernel_rfl
theorem rb_bits19 : waitsOk rb_T19.2 rb_B19 = true := by kernel_rfl
def rb_T20 : Bool × List (List Nat × List Nat) := (true, [([], []), ([0], [0]), ([], []), ([2, 1], [2]), ([1, 3], [1, 3]), ([], []), ([5, 3], [5]), ([4, 6], [4, 6]), ([], []), ([], []), ([9], [9]), ([8, 10], [8, 10]), ([], []), ([], []), ([13], [13]), ([12, 14], [12, 14]), ([11, 15], [11, 15]), ([], []), ([17], [17]), ([], []), ([19], [19]), ([18, 20], [18, 20]), ([16, 21], [16, 21]), ([7, 22], [7, 22]), ([23, 6, 0, 1, 2, 3, 4, 5, 6, 7, 8, 9, 10, 11, 12, 13, 14, 15, 16, 17, 18, 19, 20, 21, 22, 23], [23])])
def rb_B20 : List Nat := [0, 1, 0, 7, 15, 0, 47, 127, 0, 0, 512, 1792, 0, 0, 8192, 28672, 65280, 0, 131072, 0, 524288, 1966080, 4194048, 8388607, 16777215]
theorem rb_tab20 : rtab .any (opsOf Tryd.f78 20) = rb_T20 := by kernel_rfl
theorem rb_bits20 : waitsOk rb_T20.2 rb_B20 = true := by kernel_rfl
def rb_T25 : Bool × List (List Nat × List Nat) := (true, [([], []), ([], []), ([1], [1]), ([2], [2]), ([], []), ([4], [4]), ([5], [5]), ([3, 6], [3, 6]), ([0, 0, 1, 2, 3, 4, 5, 6, 7], [0]), ([8, 7, 0, 1, 2, 3, 4, 5, 6, 7], [7, 8])])
def rb_B25 : List Nat := [0, 0, 2, 6, 0, 16, 48, 126, 255, 511]
theorem rb_tab25 : rtab .any (opsOf Tryd.f78 25) = rb_T25 := by kernel_rfl
theorem rb_bits25 : waitsOk rb_T25.2 rb_B25 = true := by kernel_rfl
set_option maxHeartbeats 6400000 in
set_option maxRecDepth 100000 in
theorem block_calls (s : S8) (hs : rng8 s) (A : Option Addr) (c : Nat) (l : List Int) (w : World) (hr : B.C w A l.length l) (hc : l.length ≤ c) (hb : Sha.bytes l) (h64 : 64 ≤ l.length) :
    Calls Tryd.prog 78 #[v8 s, .agg (cw kTab), .slice A l.length c] w fun e w' => e = .returned (v8 (blockI s l)) ∧ Below w.heap.size w w' := by
  obtain ⟨ad, rfl, _⟩ := getB hr 0 (by omega)
  have HR := Aside0.mk hr
  have HY := Aside0.mk hb
  have HRS := Aside0.mk hs
  have hl63 : l.length ≤ 9223372036854775807 := hr.2.1
  clear hr hb hs
  have HBLK := Aside0.mk (show blockI s l = mixW s (rnds kTab (sch l 48) s 64) 8 from (mixW_all _ _).symm)
  generalize blockI s l = R at HBLK ⊢
  obtain ⟨s0, s1, s2, s3, s4, s5, s6, s7⟩ := s
  have HKA := Aside0.mk (show (cw kTab).size = 64 from by kernel_rfl)
  have HST := Aside0.mk (Rb.start w (s0, s1, s2, s3, s4, s5, s6, s7))
  generalize hKT : cw kTab = KT at HST HKA ⊢
  go_enter Tryd.func78, Tryd.ntmps78
  go_wp2
  subst hKT
  go_loopw [8] (fun i wr => ∃ t : Nat, t ≤ 16 ∧ i = .int .i64 t ∧ Aside0 (Rb w wr (s0, s1, s2, s3, s4, s5, s6, s7) (ld l t))) (fun i _ => 16 - (intOf i).toNat)
  case atStart => exact ⟨0, Nat.zero_le _, rfl, HST⟩
  case round =>
    clear HST
    obtain ⟨t, ht, rfl, HS⟩ := hrel
    by_cases hlt : t < 16
    · go_wp2
      rw [show decide ((t : Int) < 16) = true from decide_eq_true (by omega)]
      replace HS := Aside0.mk (show Rb w wr (s0, s1, s2, s3, s4, s5, s6, s7) (ldR l t 0) by rw [ldR_zero l t (by omega)]; exact HS.out)
      go_loopw [9] (fun i wb => ∃ j : Nat, j ≤ 4 ∧ i = .int .i64 j ∧ Aside0 (Rb w wb (s0, s1, s2, s3, s4, s5, s6, s7) (ldR l t j))) (fun i _ => 4 - (intOf i).toNat)
      case atStart => exact ⟨0, Nat.zero_le _, rfl, HS⟩
      case round =>
        clear HS
        obtain ⟨wb, rfl⟩ : ∃ wb, wb = wr := ⟨_, rfl⟩
        obtain ⟨j, hj, rfl, HS⟩ := hrel
        by_cases hlj : j < 4
        · obtain ⟨q0, hq0⟩ : ∃ q, q = 4 * t := ⟨_, rfl⟩
          obtain ⟨q, hq⟩ : ∃ q, q = 4 * t + j := ⟨_, rfl⟩
          have hql : q < l.length := by omega
          have HW := Aside0.mk (show IntKind.i64.wrap (4 * (t : Int)) = (q0 : Int) by simp [IntKind.wrap, IntKind.bits, IntKind.signed]; omega)
          have HWQ := Aside0.mk (show IntKind.i64.wrap ((q0 : Int) + (j : Int)) = (q : Int) by simp [IntKind.wrap, IntKind.bits, IntKind.signed]; omega)
          have HL := Aside0.mk (show ∀ w' : World, w'.heap = wb.heap → w'.cell? ⟨w.heap.size + 1 + 1 + 1, t, none⟩ = some (.int .u32 (part l t j)) ∧ w'.cell? (ad.add q) = some (.int .u8 (rd l (q : Int))) from fun w' hh =>
            ⟨(cell_of (show w'.heap[w.heap.size + 1 + 1 + 1]? = _ by rw [hh]; exact HS.out.x)).2 (by rw [← ldR_at l t j (by omega)]; exact cw_get (by rw [ldR_len]; omega)), by have h := getB' HR.out HS.out.b q hql; unfold World.cell? at h ⊢; rw [hh]; exact h⟩)
          have HN := Aside0.mk (show ldR l t (j + 1) = (ldR l t j).set t (IntKind.u32.wrap (IntKind.u32.wrap (part l t j * 256) + IntKind.u32.wrap (rd l (q : Int)))) by
            have hp := part_rng HY.out t (by omega) j (by omega)
            have hy := bytes_rd HY.out q hql
            have hp3 : (256 : Int) ^ j ≤ 16777216 := by
              obtain rfl | rfl | rfl | rfl : j = 0 ∨ j = 1 ∨ j = 2 ∨ j = 3 := by omega
              all_goals decide
            rw [ldR_set]
            unfold ldR
            congr 1
            show part l t j * 256 + rd l ((4 * t + j : Nat) : Int) = _
            rw [← hq, IntKind.wrap_u32, IntKind.wrap_u32, IntKind.wrap_u32]
            omega)
          generalize rd l (q : Int) = y at HL HN
          generalize hpv : part l t j = pv at HL HN
          clear hq hq0 hpv h64
          have hk64 : (t : Int) < 64 := by omega
          have hS0 : wb.drew.heap = wb.heap := rfl
          go_upto_region 8 with (fail)
          refine start_ (n := 16) (S := fun w' => w'.heap = wb.heap) (ds := [15]) #[false, false, false, false, false, false, false, false, false, false, false, false, false, false, false, false] (by kernel_rfl) rfl rfl (by exact hS0) (fun hHeld => ?_)
          refine with_tabW rb_tab8 rb_bits8 (fun HT_ HW_ => ?_)
          refine pure_ (i := 0) (N := some 28) (v := ?_) (a' := ?_) #[true, false, false, false, false, false, false, false, false, false, false, false, false, false, false, false] rfl rfl (any_of HT_.out (by kernel_rfl)) (fun _ _ _ h => h) (Or.inl ⟨by rfl, ?_⟩) ?_ ?_
          rotate_left
          · intro w'
            go_simp
            with_reducible rfl
          rotate_left
          · simp only [Act.put, List.setIfInBounds_toArray, List.set_cons_zero, List.set_cons_succ, i64_w, i32_w]
            rfl
          refine pure_ (i := 1) (N := some 29) (v := ?_) (a' := ?_) #[true, true, false, false, false, false, false, false, false, false, false, false, false, false, false, false] rfl rfl (any_of HT_.out (by kernel_rfl)) (fun _ _ _ h => h) (Or.inl ⟨by rfl, ?_⟩) ?_ ?_
          rotate_left
          · intro w'
            go_simp
            with_reducible rfl
          rotate_left
          · simp only [Act.put, List.setIfInBounds_toArray, List.set_cons_zero, List.set_cons_succ, i64_w, i32_w]
            rfl
          refine pure_ (i := 2) (N := some 30) (v := ?_) (a' := ?_) #[true, true, true, false, false, false, false, false, false, false, false, false, false, false, false, false] rfl rfl (any_of HT_.out (by kernel_rfl)) (fun _ _ _ h => h) (Or.inl ⟨by rfl, ?_⟩) ?_ ?_
          rotate_left
          · intro w'
            go_simp
            with_reducible rfl
          rotate_left
          · simp only [Act.put, List.setIfInBounds_toArray, List.set_cons_zero, List.set_cons_succ, i64_w, i32_w]
            rfl
          refine take_ (i := 3) (N := some 31) (v := ?_) (a' := ?_) #[true, true, true, true, false, false, false, false, false, false, false, false, false, false, false, false] rfl rfl (take_ofW HT_.out HW_.out (by kernel_rfl)) (fun _ _ _ h => h) (Or.inl ⟨by rfl, ?_⟩) hHeld ?_ ?_
          rotate_left
          · intro w' hSt
            have hx := (HL.out w' hSt).1
            go_simp
            with_reducible rfl
          rotate_left
          · simp only [Act.put, List.setIfInBounds_toArray, List.set_cons_zero, List.set_cons_succ, i64_w, i32_w]
            rfl
          refine pure_ (i := 4) (N := some 32) (v := ?_) (a' := ?_) #[true, true, true, true, true, false, false, false, false, false, false, false, false, false, false, false] rfl rfl (any_of HT_.out (by kernel_rfl)) (fun _ _ _ h => h) (Or.inl ⟨by rfl, ?_⟩) ?_ ?_
          rotate_left
          · intro w'
            go_simp
            with_reducible rfl
          rotate_left
          · simp only [Act.put, List.setIfInBounds_toArray, List.set_cons_zero, List.set_cons_succ, i64_w, i32_w]
            rfl
          refine pure_ (i := 5) (N := some 33) (v := ?_) (a' := ?_) #[true, true, true, true, true, true, false, false, false, false, false, false, false, false, false, false] rfl rfl (any_of HT_.out (by kernel_rfl)) (fun _ _ _ h => h) (Or.inl ⟨by rfl, ?_⟩) ?_ ?_
          rotate_left
          · intro w'
            go_simp
            with_reducible rfl
          rotate_left
          · simp only [Act.put, List.setIfInBounds_toArray, List.set_cons_zero, List.set_cons_succ, i64_w, i32_w]
            rfl
          refine pure_ (i := 6) (N := some 34) (v := ?_) (a' := ?_) #[true, true, true, true, true, true, true, false, false, false, false, false, false, false, false, false] rfl rfl (any_of HT_.out (by kernel_rfl)) (fun _ _ _ h => h) (Or.inl ⟨by rfl, ?_⟩) ?_ ?_
          rotate_left
          · intro w'
            go_simp
            with_reducible rfl
          rotate_left
          · simp only [Act.put, List.setIfInBounds_toArray, List.set_cons_zero, List.set_cons_succ, i64_w, i32_w]
            rfl
          refine pure_ (i := 7) (N := some 35) (v := ?_) (a' := ?_) #[true, true, true, true, true, true, true, true, false, false, false, false, false, false, false, false] rfl rfl (any_of HT_.out (by kernel_rfl)) (fun _ _ _ h => h) (Or.inl ⟨by rfl, ?_⟩) ?_ ?_
          rotate_left
          · intro w'
            go_simp
            rw [HW.out]
          rotate_left
          · simp only [Act.put, List.setIfInBounds_toArray, List.set_cons_zero, List.set_cons_succ, i64_w, i32_w]
            rfl
          refine pure_ (i := 8) (N := some 36) (v := ?_) (a' := ?_) #[true, true, true, true, true, true, true, true, true, false, false, false, false, false, false, false] rfl rfl (any_of HT_.out (by kernel_rfl)) (fun _ _ _ h => h) (Or.inl ⟨by rfl, ?_⟩) ?_ ?_
          rotate_left
          · intro w'
            go_simp
            with_reducible rfl
          rotate_left
          · simp only [Act.put, List.setIfInBounds_toArray, List.set_cons_zero, List.set_cons_succ, i64_w, i32_w]
            rfl
          refine pure_ (i := 9) (N := some 37) (v := ?_) (a' := ?_) #[true, true, true, true, true, true, true, true, true, true, false, false, false, false, false, false] rfl rfl (any_of HT_.out (by kernel_rfl)) (fun _ _ _ h => h) (Or.inl ⟨by rfl, ?_⟩) ?_ ?_
          rotate_left
          · intro w'
            go_simp
            rw [HWQ.out]
          rotate_left
          · simp only [Act.put, List.setIfInBounds_toArray, List.set_cons_zero, List.set_cons_succ, i64_w, i32_w]
            rfl
          refine pure_ (i := 10) (N := some 38) (v := ?_) (a' := ?_) #[true, true, true, true, true, true, true, true, true, true, true, false, false, false, false, false] rfl rfl (any_of HT_.out (by kernel_rfl)) (fun _ _ _ h => h) (Or.inl ⟨by rfl, ?_⟩) ?_ ?_
          rotate_left
          · intro w'
            go_simp
            with_reducible rfl
          rotate_left
          · simp only [Act.put, List.setIfInBounds_toArray, List.set_cons_zero, List.set_cons_succ, i64_w, i32_w]
            rfl
          refine take_ (i := 11) (N := some 39) (v := ?_) (a' := ?_) #[true, true, true, true, true, true, true, true, true, true, true, true, false, false, false, false] rfl rfl (take_ofW HT_.out HW_.out (by kernel_rfl)) (fun _ _ _ h => h) (Or.inl ⟨by rfl, ?_⟩) hHeld ?_ ?_
          rotate_left
          · intro w' hSt
            have hx := (HL.out w' hSt).2
            go_simp
            with_reducible rfl
          rotate_left
          · simp only [Act.put, List.setIfInBounds_toArray, List.set_cons_zero, List.set_cons_succ, i64_w, i32_w]
            rfl
          refine pure_ (i := 12) (N := some 40) (v := ?_) (a' := ?_) #[true, true, true, true, true, true, true, true, true, true, true, true, true, false, false, false] rfl rfl (any_of HT_.out (by kernel_rfl)) (fun _ _ _ h => h) (Or.inl ⟨by rfl, ?_⟩) ?_ ?_
          rotate_left
          · intro w'
            go_simp
            with_reducible rfl
          rotate_left
          · simp only [Act.put, List.setIfInBounds_toArray, List.set_cons_zero, List.set_cons_succ, i64_w, i32_w]
            rfl
          refine pure_ (i := 13) (N := some 41) (v := ?_) (a' := ?_) #[true, true, true, true, true, true, true, true, true, true, true, true, true, true, false, false] rfl rfl (any_of HT_.out (by kernel_rfl)) (fun _ _ _ h => h) (Or.inl ⟨by rfl, ?_⟩) ?_ ?_
          rotate_left
          · intro w'
            go_simp
            with_reducible rfl
          rotate_left
          · simp only [Act.put, List.setIfInBounds_toArray, List.set_cons_zero, List.set_cons_succ, i64_w, i32_w]
            rfl
          refine pure_ (i := 14) (N := some 42) (v := ?_) (a' := ?_) #[true, true, true, true, true, true, true, true, true, true, true, true, true, true, true, false] rfl rfl (any_of HT_.out (by kernel_rfl)) (fun _ _ _ h => h) (Or.inl ⟨by rfl, ?_⟩) ?_ ?_
          rotate_left
          · intro w'
            go_simp
            with_reducible rfl
          rotate_left
          · simp only [Act.put, List.setIfInBounds_toArray, List.set_cons_zero, List.set_cons_succ, i64_w, i32_w]
            rfl
          refine last_ (i := 15) (N := none) #[true, true, true, true, true, true, true, true, true, true, true, true, true, true, true, true] rfl rfl (one_of HT_.out (by kernel_rfl)) (by decide) (fun K hK => ?_)
          have hx := (cell_of HS.out.drew.x).2 (cw_get (xs := ldR l t j) (j := t) (by rw [ldR_len]; omega))
          have hf := HS.out.drew.frozen t
          go_simp
          refine hK.out _ _ ?_
          clear hK K
          refine norm_ (a' := ?_) ?_ ?_
          rotate_left
          · first
            | (show Act.put _ none _ = _; simp only [Act.put, List.setIfInBounds_toArray, List.set_cons_zero, List.set_cons_succ, i64_w, i32_w]; rfl)
            | rfl
          refine done_ (done_of HT_.out (by kernel_rfl)) ?_
          replace HS := Aside0.mk ((HS.out.set t (IntKind.u32.wrap (IntKind.u32.wrap (pv * 256) + IntKind.u32.wrap y))).drew)
          rw [← HN.out] at HS
          clear HN hS0 HL
          generalize (wb.setCell _ _).drew = w5 at HS ⊢
          go_wp2
          go_roundw
          case rel => exact ⟨j + 1, by omega, by go_num, HS⟩
          case measure => simp [intOf]; omega
        · obtain rfl : j = 4 := by omega
          clear hlj hj
          rw [show ((4 : Nat) : Int) = 4 from rfl]
          rw [ldR_four] at HS
          go_wp2
          go_roundw
          case rel => exact ⟨t + 1, by omega, by go_num, HS⟩
          case measure => simp [intOf]; omega
    · obtain rfl : t = 16 := by omega
      clear hlt ht h64
      rw [show ((16 : Nat) : Int) = 16 from rfl]
      go_wp2
      go_loopw [10] (fun i wr => ∃ n k : Nat, n ≤ 48 ∧ k = 16 + n ∧ i = .int .i64 (k : Int) ∧ Aside0 (Rb w wr (s0, s1, s2, s3, s4, s5, s6, s7) (sch l n))) (fun i _ => 64 - (intOf i).toNat)
      case atStart => exact ⟨0, 16, Nat.zero_le _, rfl, rfl, HS⟩
      case round =>
        clear HS
        obtain ⟨n, k, hn, hkn, rfl, HS⟩ := hrel
        by_cases hlt : n < 48
        · have hk64 : (k : Int) < 64 := by omega
          obtain ⟨p15, hp15⟩ : ∃ p, p = n + 1 := ⟨_, rfl⟩
          obtain ⟨p7, hp7⟩ : ∃ p, p = n + 9 := ⟨_, rfl⟩
          obtain ⟨p2, hp2⟩ : ∃ p, p = n + 14 := ⟨_, rfl⟩
          have HW16 := Aside0.mk (show IntKind.i64.wrap ((k : Int) - 16) = (n : Int) by simp [IntKind.wrap, IntKind.bits, IntKind.signed]; omega)
          have HW15 := Aside0.mk (show IntKind.i64.wrap ((k : Int) - 15) = (p15 : Int) by simp [IntKind.wrap, IntKind.bits, IntKind.signed]; omega)
          have HW7 := Aside0.mk (show IntKind.i64.wrap ((k : Int) - 7) = (p7 : Int) by simp [IntKind.wrap, IntKind.bits, IntKind.signed]; omega)
          have HW2 := Aside0.mk (show IntKind.i64.wrap ((k : Int) - 2) = (p2 : Int) by simp [IntKind.wrap, IntKind.bits, IntKind.signed]; omega)
          have hb16 : (n : Int) < 64 := by omega
          have hb15 : (p15 : Int) < 64 := by omega
          have hb7 : (p7 : Int) < 64 := by omega
          have hb2 : (p2 : Int) < 64 := by omega
          have hll := sch_len l n
          have HG := Aside0.mk (show G4 wr (w.heap.size + 1 + 1 + 1) k n p15 p7 p2 (rd (sch l n) (n : Int)) (rd (sch l n) (p15 : Int)) (rd (sch l n) (p7 : Int)) (rd (sch l n) (p2 : Int)) (rd (sch l n) (k : Int)) from
            ⟨fun w' hh => (cell_of (show w'.heap[w.heap.size + 1 + 1 + 1]? = _ by rw [hh]; exact HS.out.x)).2 (cw_get (by omega)), fun w' hh => (cell_of (show w'.heap[w.heap.size + 1 + 1 + 1]? = _ by rw [hh]; exact HS.out.x)).2 (cw_get (by omega)), fun w' hh => (cell_of (show w'.heap[w.heap.size + 1 + 1 + 1]? = _ by rw [hh]; exact HS.out.x)).2 (cw_get (by omega)), fun w' hh => (cell_of (show w'.heap[w.heap.size + 1 + 1 + 1]? = _ by rw [hh]; exact HS.out.x)).2 (cw_get (by omega)), fun w' hh => (cell_of (show w'.heap[w.heap.size + 1 + 1 + 1]? = _ by rw [hh]; exact HS.out.x)).2 (cw_get (by omega)), fun w' hh => by simp [World.frozen?, hh, HS.out.x]⟩)
          have HN := Aside0.mk (show sch l (n + 1) = (sch l n).set k (schW (rd (sch l n) (n : Int)) (rd (sch l n) (p15 : Int)) (rd (sch l n) (p7 : Int)) (rd (sch l n) (p2 : Int))) by rw [hkn, hp15, hp7, hp2]; rfl)
          generalize rd (sch l n) (n : Int) = a at HG HN
          generalize rd (sch l n) (p15 : Int) = x at HG HN
          generalize rd (sch l n) (p7 : Int) = c' at HG HN
          generalize rd (sch l n) (p2 : Int) = y at HG HN
          generalize rd (sch l n) (k : Int) = z at HG
          have hS0 : wr.drew.heap = wr.heap := rfl
          have HKN := Aside0.mk hkn
          have hk16 : 16 ≤ k := by omega
          clear hp15 hp7 hp2 hll hkn
          go_upto_region 12 with (fail)
          refine start_ (n := 10) (S := fun w' => w'.heap = wr.heap) (ds := []) #[false, false, false, false, false, false, false, false, false, false] (by kernel_rfl) rfl rfl (by exact hS0) (fun hHeld => ?_)
          refine with_tabW rb_tab12 rb_bits12 (fun HT_ HW_ => ?_)
          refine pure_ (i := 0) (N := some 47) (v := ?_) (a' := ?_) #[true, false, false, false, false, false, false, false, false, false] rfl rfl (any_of HT_.out (by kernel_rfl)) (fun _ _ _ h => h) (Or.inl ⟨by rfl, ?_⟩) ?_ ?_
          rotate_left
          · intro w'
            go_simp
            with_reducible rfl
          rotate_left
          · simp only [Act.put, List.setIfInBounds_toArray, List.set_cons_zero, List.set_cons_succ, i64_w, i32_w]
            rfl
          refine pure_ (i := 1) (N := some 48) (v := ?_) (a' := ?_) #[true, true, false, false, false, false, false, false, false, false] rfl rfl (any_of HT_.out (by kernel_rfl)) (fun _ _ _ h => h) (Or.inl ⟨by rfl, ?_⟩) ?_ ?_
          rotate_left
          · intro w'
            go_simp
            rw [HW15.out]
          rotate_left
          · simp only [Act.put, List.setIfInBounds_toArray, List.set_cons_zero, List.set_cons_succ, i64_w, i32_w]
            rfl
          refine pure_ (i := 2) (N := some 49) (v := ?_) (a' := ?_) #[true, true, true, false, false, false, false, false, false, false] rfl rfl (any_of HT_.out (by kernel_rfl)) (fun _ _ _ h => h) (Or.inl ⟨by rfl, ?_⟩) ?_ ?_
          rotate_left
          · intro w'
            go_simp
            with_reducible rfl
          rotate_left
          · simp only [Act.put, List.setIfInBounds_toArray, List.set_cons_zero, List.set_cons_succ, i64_w, i32_w]
            rfl
          refine take_ (i := 3) (N := some 50) (v := ?_) (a' := ?_) #[true, true, true, true, false, false, false, false, false, false] rfl rfl (take_ofW HT_.out HW_.out (by kernel_rfl)) (fun _ _ _ h => h) (Or.inl ⟨by rfl, ?_⟩) hHeld ?_ ?_
          rotate_left
          · intro w' hSt
            have hx := HG.out.g15 w' hSt
            go_simp
            with_reducible rfl
          rotate_left
          · simp only [Act.put, List.setIfInBounds_toArray, List.set_cons_zero, List.set_cons_succ, i64_w, i32_w]
            rfl
          refine pure_ (i := 4) (N := some 51) (v := ?_) (a' := ?_) #[true, true, true, true, true, false, false, false, false, false] rfl rfl (any_of HT_.out (by kernel_rfl)) (fun _ _ _ h => h) (Or.inl ⟨by rfl, ?_⟩) ?_ ?_
          rotate_left
          · intro w'
            go_simp
            with_reducible rfl
          rotate_left
          · simp only [Act.put, List.setIfInBounds_toArray, List.set_cons_zero, List.set_cons_succ, i64_w, i32_w]
            rfl
          refine pure_ (i := 5) (N := some 52) (v := ?_) (a' := ?_) #[true, true, true, true, true, true, false, false, false, false] rfl rfl (any_of HT_.out (by kernel_rfl)) (fun _ _ _ h => h) (Or.inl ⟨by rfl, ?_⟩) ?_ ?_
          rotate_left
          · intro w'
            go_simp
            rw [HW2.out]
          rotate_left
          · simp only [Act.put, List.setIfInBounds_toArray, List.set_cons_zero, List.set_cons_succ, i64_w, i32_w]
            rfl
          refine pure_ (i := 6) (N := some 53) (v := ?_) (a' := ?_) #[true, true, true, true, true, true, true, false, false, false] rfl rfl (any_of HT_.out (by kernel_rfl)) (fun _ _ _ h => h) (Or.inl ⟨by rfl, ?_⟩) ?_ ?_
          rotate_left
          · intro w'
            go_simp
            with_reducible rfl
          rotate_left
          · simp only [Act.put, List.setIfInBounds_toArray, List.set_cons_zero, List.set_cons_succ, i64_w, i32_w]
            rfl
          refine take_ (i := 7) (N := some 54) (v := ?_) (a' := ?_) #[true, true, true, true, true, true, true, true, false, false] rfl rfl (take_ofW HT_.out HW_.out (by kernel_rfl)) (fun _ _ _ h => h) (Or.inl ⟨by rfl, ?_⟩) hHeld ?_ ?_
          rotate_left
          · intro w' hSt
            have hx := HG.out.g2 w' hSt
            go_simp
            with_reducible rfl
          rotate_left
          · simp only [Act.put, List.setIfInBounds_toArray, List.set_cons_zero, List.set_cons_succ, i64_w, i32_w]
            rfl
          refine pure_ (i := 8) (N := some 11) (v := ?_) (a' := ?_) #[true, true, true, true, true, true, true, true, true, false] rfl rfl (any_of HT_.out (by kernel_rfl)) (fun _ _ _ h => h) (Or.inl ⟨by rfl, ?_⟩) ?_ ?_
          rotate_left
          · intro w'
            go_simp
            with_reducible rfl
          rotate_left
          · simp only [Act.put, List.setIfInBounds_toArray, List.set_cons_zero, List.set_cons_succ, i64_w, i32_w]
            rfl
          refine pure_ (i := 9) (N := some 12) (v := ?_) (a' := ?_) #[true, true, true, true, true, true, true, true, true, true] rfl rfl (any_of HT_.out (by kernel_rfl)) (fun _ _ _ h => h) (Or.inl ⟨by rfl, ?_⟩) ?_ ?_
          rotate_left
          · intro w'
            go_simp
            with_reducible rfl
          rotate_left
          · simp only [Act.put, List.setIfInBounds_toArray, List.set_cons_zero, List.set_cons_succ, i64_w, i32_w]
            rfl
          refine done_ (done_of HT_.out (by kernel_rfl)) ?_
          clear hS0 hHeld HT_ HW_
          have hS0 : wr.drew.drew.heap = wr.heap := rfl
          go_upto_region 13 with (fail)
          refine start_ (n := 30) (S := fun w' => w'.heap = wr.heap) (ds := [29]) #[false, false, false, false, false, false, false, false, false, false, false, false, false, false, false, false, false, false, false, false, false, false, false, false, false, false, false, false, false, false] (by kernel_rfl) rfl rfl (by exact hS0) (fun hHeld => ?_)
          refine with_tabW rb_tab13 rb_bits13 (fun HT_ HW_ => ?_)
          refine pure_ (i := 0) (N := some 55) (v := ?_) (a' := ?_) #[true, false, false, false, false, false, false, false, false, false, false, false, false, false, false, false, false, false, false, false, false, false, false, false, false, false, false, false, false, false] rfl rfl (any_of HT_.out (by kernel_rfl)) (fun _ _ _ h => h) (Or.inl ⟨by rfl, ?_⟩) ?_ ?_
          rotate_left
          · intro w'
            go_simp
            with_reducible rfl
          rotate_left
          · simp only [Act.put, List.setIfInBounds_toArray, List.set_cons_zero, List.set_cons_succ, i64_w, i32_w]
            rfl
          refine pure_ (i := 1) (N := some 56) (v := ?_) (a' := ?_) #[true, true, false, false, false, false, false, false, false, false, false, false, false, false, false, false, false, false, false, false, false, false, false, false, false, false, false, false, false, false] rfl rfl (any_of HT_.out (by kernel_rfl)) (fun _ _ _ h => h) (Or.inl ⟨by rfl, ?_⟩) ?_ ?_
          rotate_left
          · intro w'
            go_simp
            with_reducible rfl
          rotate_left
          · simp only [Act.put, List.setIfInBounds_toArray, List.set_cons_zero, List.set_cons_succ, i64_w, i32_w]
            rfl
          refine pure_ (i := 2) (N := some 57) (v := ?_) (a' := ?_) #[true, true, true, false, false, false, false, false, false, false, false, false, false, false, false, false, false, false, false, false, false, false, false, false, false, false, false, false, false, false] rfl rfl (any_of HT_.out (by kernel_rfl)) (fun _ _ _ h => h) (Or.inl ⟨by rfl, ?_⟩) ?_ ?_
          rotate_left
          · intro w'
            go_simp
            rw [HW16.out]
          rotate_left
          · simp only [Act.put, List.setIfInBounds_toArray, List.set_cons_zero, List.set_cons_succ, i64_w, i32_w]
            rfl
          refine pure_ (i := 3) (N := some 58) (v := ?_) (a' := ?_) #[true, true, true, true, false, false, false, false, false, false, false, false, false, false, false, false, false, false, false, false, false, false, false, false, false, false, false, false, false, false] rfl rfl (any_of HT_.out (by kernel_rfl)) (fun _ _ _ h => h) (Or.inl ⟨by rfl, ?_⟩) ?_ ?_
          rotate_left
          · intro w'
            go_simp
            with_reducible rfl
          rotate_left
          · simp only [Act.put, List.setIfInBounds_toArray, List.set_cons_zero, List.set_cons_succ, i64_w, i32_w]
            rfl
          refine take_ (i := 4) (N := some 59) (v := ?_) (a' := ?_) #[true, true, true, true, true, false, false, false, false, false, false, false, false, false, false, false, false, false, false, false, false, false, false, false, false, false, false, false, false, false] rfl rfl (take_ofW HT_.out HW_.out (by kernel_rfl)) (fun _ _ _ h => h) (Or.inl ⟨by rfl, ?_⟩) hHeld ?_ ?_
          rotate_left
          · intro w' hSt
            have hx := HG.out.g16 w' hSt
            go_simp
            with_reducible rfl
          rotate_left
          · simp only [Act.put, List.setIfInBounds_toArray, List.set_cons_zero, List.set_cons_succ, i64_w, i32_w]
            rfl
          refine pure_ (i := 5) (N := some 60) (v := ?_) (a' := ?_) #[true, true, true, true, true, true, false, false, false, false, false, false, false, false, false, false, false, false, false, false, false, false, false, false, false, false, false, false, false, false] rfl rfl (any_of HT_.out (by kernel_rfl)) (fun _ _ _ h => h) (Or.inl ⟨by rfl, ?_⟩) ?_ ?_
          rotate_left
          · intro w'
            go_simp
            with_reducible rfl
          rotate_left
          · simp only [Act.put, List.setIfInBounds_toArray, List.set_cons_zero, List.set_cons_succ, i64_w, i32_w]
            rfl
          refine pure_ (i := 7) (N := some 62) (v := ?_) (a' := ?_) #[true, true, true, true, true, true, false, true, false, false, false, false, false, false, false, false, false, false, false, false, false, false, false, false, false, false, false, false, false, false] rfl rfl (any_of HT_.out (by kernel_rfl)) (fun _ _ _ h => h) (Or.inl ⟨by rfl, ?_⟩) ?_ ?_
          rotate_left
          · intro w'
            go_simp
            with_reducible rfl
          rotate_left
          · simp only [Act.put, List.setIfInBounds_toArray, List.set_cons_zero, List.set_cons_succ, i64_w, i32_w]
            rfl
          refine pure_ (i := 10) (N := some 65) (v := ?_) (a' := ?_) #[true, true, true, true, true, true, false, true, false, false, true, false, false, false, false, false, false, false, false, false, false, false, false, false, false, false, false, false, false, false] rfl rfl (any_of HT_.out (by kernel_rfl)) (fun _ _ _ h => h) (Or.inl ⟨by rfl, ?_⟩) ?_ ?_
          rotate_left
          · intro w'
            go_simp
            with_reducible rfl
          rotate_left
          · simp only [Act.put, List.setIfInBounds_toArray, List.set_cons_zero, List.set_cons_succ, i64_w, i32_w]
            rfl
          refine pure_ (i := 11) (N := some 66) (v := ?_) (a' := ?_) #[true, true, true, true, true, true, false, true, false, false, true, true, false, false, false, false, false, false, false, false, false, false, false, false, false, false, false, false, false, false] rfl rfl (any_of HT_.out (by kernel_rfl)) (fun _ _ _ h => h) (Or.inl ⟨by rfl, ?_⟩) ?_ ?_
          rotate_left
          · intro w'
            go_simp
            with_reducible rfl
          rotate_left
          · simp only [Act.put, List.setIfInBounds_toArray, List.set_cons_zero, List.set_cons_succ, i64_w, i32_w]
            rfl
          refine pure_ (i := 14) (N := some 69) (v := ?_) (a' := ?_) #[true, true, true, true, true, true, false, true, false, false, true, true, false, false, true, false, false, false, false, false, false, false, false, false, false, false, false, false, false, false] rfl rfl (any_of HT_.out (by kernel_rfl)) (fun _ _ _ h => h) (Or.inl ⟨by rfl, ?_⟩) ?_ ?_
          rotate_left
          · intro w'
            go_simp
            with_reducible rfl
          rotate_left
          · simp only [Act.put, List.setIfInBounds_toArray, List.set_cons_zero, List.set_cons_succ, i64_w, i32_w]
            rfl
          refine pure_ (i := 15) (N := some 70) (v := ?_) (a' := ?_) #[true, true, true, true, true, true, false, true, false, false, true, true, false, false, true, true, false, false, false, false, false, false, false, false, false, false, false, false, false, false] rfl rfl (any_of HT_.out (by kernel_rfl)) (fun _ _ _ h => h) (Or.inl ⟨by rfl, ?_⟩) ?_ ?_
          rotate_left
          · intro w'
            go_simp
            rw [HW7.out]
          rotate_left
          · simp only [Act.put, List.setIfInBounds_toArray, List.set_cons_zero, List.set_cons_succ, i64_w, i32_w]
            rfl
          refine pure_ (i := 16) (N := some 71) (v := ?_) (a' := ?_) #[true, true, true, true, true, true, false, true, false, false, true, true, false, false, true, true, true, false, false, false, false, false, false, false, false, false, false, false, false, false] rfl rfl (any_of HT_.out (by kernel_rfl)) (fun _ _ _ h => h) (Or.inl ⟨by rfl, ?_⟩) ?_ ?_
          rotate_left
          · intro w'
            go_simp
            with_reducible rfl
          rotate_left
          · simp only [Act.put, List.setIfInBounds_toArray, List.set_cons_zero, List.set_cons_succ, i64_w, i32_w]
            rfl
          refine take_ (i := 17) (N := some 72) (v := ?_) (a' := ?_) #[true, true, true, true, true, true, false, true, false, false, true, true, false, false, true, true, true, true, false, false, false, false, false, false, false, false, false, false, false, false] rfl rfl (take_ofW HT_.out HW_.out (by kernel_rfl)) (fun _ _ _ h => h) (Or.inl ⟨by rfl, ?_⟩) hHeld ?_ ?_
          rotate_left
          · intro w' hSt
            have hx := HG.out.g7 w' hSt
            go_simp
            with_reducible rfl
          rotate_left
          · simp only [Act.put, List.setIfInBounds_toArray, List.set_cons_zero, List.set_cons_succ, i64_w, i32_w]
            rfl
          refine pure_ (i := 19) (N := some 74) (v := ?_) (a' := ?_) #[true, true, true, true, true, true, false, true, false, false, true, true, false, false, true, true, true, true, false, true, false, false, false, false, false, false, false, false, false, false] rfl rfl (any_of HT_.out (by kernel_rfl)) (fun _ _ _ h => h) (Or.inl ⟨by rfl, ?_⟩) ?_ ?_
          rotate_left
          · intro w'
            go_simp
            with_reducible rfl
          rotate_left
          · simp only [Act.put, List.setIfInBounds_toArray, List.set_cons_zero, List.set_cons_succ, i64_w, i32_w]
            rfl
          refine pure_ (i := 21) (N := some 76) (v := ?_) (a' := ?_) #[true, true, true, true, true, true, false, true, false, false, true, true, false, false, true, true, true, true, false, true, false, true, false, false, false, false, false, false, false, false] rfl rfl (any_of HT_.out (by kernel_rfl)) (fun _ _ _ h => h) (Or.inl ⟨by rfl, ?_⟩) ?_ ?_
          rotate_left
          · intro w'
            go_simp
            with_reducible rfl
          rotate_left
          · simp only [Act.put, List.setIfInBounds_toArray, List.set_cons_zero, List.set_cons_succ, i64_w, i32_w]
            rfl
          refine pure_ (i := 24) (N := some 79) (v := ?_) (a' := ?_) #[true, true, true, true, true, true, false, true, false, false, true, true, false, false, true, true, true, true, false, true, false, true, false, false, true, false, false, false, false, false] rfl rfl (any_of HT_.out (by kernel_rfl)) (fun _ _ _ h => h) (Or.inl ⟨by rfl, ?_⟩) ?_ ?_
          rotate_left
          · intro w'
            go_simp
            with_reducible rfl
          rotate_left
          · simp only [Act.put, List.setIfInBounds_toArray, List.set_cons_zero, List.set_cons_succ, i64_w, i32_w]
            rfl
          refine pure_ (i := 25) (N := some 80) (v := ?_) (a' := ?_) #[true, true, true, true, true, true, false, true, false, false, true, true, false, false, true, true, true, true, false, true, false, true, false, false, true, true, false, false, false, false] rfl rfl (any_of HT_.out (by kernel_rfl)) (fun _ _ _ h => h) (Or.inl ⟨by rfl, ?_⟩) ?_ ?_
          rotate_left
          · intro w'
            go_simp
            with_reducible rfl
          rotate_left
          · simp only [Act.put, List.setIfInBounds_toArray, List.set_cons_zero, List.set_cons_succ, i64_w, i32_w]
            rfl
          refine one_ (i := 6) (N := some 61) #[true, true, true, true, true, true, true, true, false, false, true, true, false, false, true, true, true, true, false, true, false, true, false, false, true, true, false, false, false, false] rfl rfl (one_of HT_.out (by kernel_rfl)) (by decide) (fun K hK => ?_)
          refine goes_ Tryd.func95 (by kernel_rfl) rfl #[.int .u32 x, .int .u64 7] (by rfl) rfl rfl (by (try simp only [List.map_toArray, List.map_cons, List.map_nil]); first | done | rfl) ?_
          refine (turn_calls x 7 (by decide) (by decide) _).mono ?_
          rintro e' w9 ⟨rfl, rfl⟩
          refine ⟨_, rfl, ?_⟩
          refine hK.out _ _ (by exact hS0) (fun hHeld => ?_)
          clear hK K
          refine norm_ (a' := ?_) ?_ ?_
          rotate_left
          · first
            | (show Act.put _ (some 61) _ = _; simp only [Act.put, List.setIfInBounds_toArray, List.set_cons_zero, List.set_cons_succ, i64_w, i32_w]; rfl)
            | rfl
          refine one_ (i := 8) (N := some 63) #[true, true, true, true, true, true, true, true, true, false, true, true, false, false, true, true, true, true, false, true, false, true, false, false, true, true, false, false, false, false] rfl rfl (one_of HT_.out (by kernel_rfl)) (by decide) (fun K hK => ?_)
          refine goes_ Tryd.func95 (by kernel_rfl) rfl #[.int .u32 x, .int .u64 18] (by rfl) rfl rfl (by (try simp only [List.map_toArray, List.map_cons, List.map_nil]); first | done | rfl) ?_
          refine (turn_calls x 18 (by decide) (by decide) _).mono ?_
          rintro e' w9 ⟨rfl, rfl⟩
          refine ⟨_, rfl, ?_⟩
          refine hK.out _ _ (by exact hS0) (fun hHeld => ?_)
          clear hK K
          refine norm_ (a' := ?_) ?_ ?_
          rotate_left
          · first
            | (show Act.put _ (some 63) _ = _; simp only [Act.put, List.setIfInBounds_toArray, List.set_cons_zero, List.set_cons_succ, i64_w, i32_w]; rfl)
            | rfl
          refine pure_ (i := 9) (N := some 64) (v := ?_) (a' := ?_) #[true, true, true, true, true, true, true, true, true, true, true, true, false, false, true, true, true, true, false, true, false, true, false, false, true, true, false, false, false, false] rfl rfl (any_of HT_.out (by kernel_rfl)) (fun _ _ _ h => h) (Or.inl ⟨by rfl, ?_⟩) ?_ ?_
          rotate_left
          · intro w'
            go_simp
            with_reducible rfl
          rotate_left
          · simp only [Act.put, List.setIfInBounds_toArray, List.set_cons_zero, List.set_cons_succ, i64_w, i32_w]
            rfl
          refine pure_ (i := 12) (N := some 67) (v := ?_) (a' := ?_) #[true, true, true, true, true, true, true, true, true, true, true, true, true, false, true, true, true, true, false, true, false, true, false, false, true, true, false, false, false, false] rfl rfl (any_of HT_.out (by kernel_rfl)) (fun _ _ _ h => h) (Or.inl ⟨by rfl, ?_⟩) ?_ ?_
          rotate_left
          · intro w'
            go_simp
            with_reducible rfl
          rotate_left
          · simp only [Act.put, List.setIfInBounds_toArray, List.set_cons_zero, List.set_cons_succ, i64_w, i32_w]
            rfl
          refine pure_ (i := 13) (N := some 68) (v := ?_) (a' := ?_) #[true, true, true, true, true, true, true, true, true, true, true, true, true, true, true, true, true, true, false, true, false, true, false, false, true, true, false, false, false, false] rfl rfl (any_of HT_.out (by kernel_rfl)) (fun _ _ _ h => h) (Or.inl ⟨by rfl, ?_⟩) ?_ ?_
          rotate_left
          · intro w'
            go_simp
            with_reducible rfl
          rotate_left
          · simp only [Act.put, List.setIfInBounds_toArray, List.set_cons_zero, List.set_cons_succ, i64_w, i32_w]
            rfl
          refine pure_ (i := 18) (N := some 73) (v := ?_) (a' := ?_) #[true, true, true, true, true, true, true, true, true, true, true, true, true, true, true, true, true, true, true, true, false, true, false, false, true, true, false, false, false, false] rfl rfl (any_of HT_.out (by kernel_rfl)) (fun _ _ _ h => h) (Or.inl ⟨by rfl, ?_⟩) ?_ ?_
          rotate_left
          · intro w'
            go_simp
            with_reducible rfl
          rotate_left
          · simp only [Act.put, List.setIfInBounds_toArray, List.set_cons_zero, List.set_cons_succ, i64_w, i32_w]
            rfl
          refine one_ (i := 20) (N := some 75) #[true, true, true, true, true, true, true, true, true, true, true, true, true, true, true, true, true, true, true, true, true, true, false, false, true, true, false, false, false, false] rfl rfl (one_of HT_.out (by kernel_rfl)) (by decide) (fun K hK => ?_)
          refine goes_ Tryd.func95 (by kernel_rfl) rfl #[.int .u32 y, .int .u64 17] (by rfl) rfl rfl (by (try simp only [List.map_toArray, List.map_cons, List.map_nil]); first | done | rfl) ?_
          refine (turn_calls y 17 (by decide) (by decide) _).mono ?_
          rintro e' w9 ⟨rfl, rfl⟩
          refine ⟨_, rfl, ?_⟩
          refine hK.out _ _ (by exact hS0) (fun hHeld => ?_)
          clear hK K
          refine norm_ (a' := ?_) ?_ ?_
          rotate_left
          · first
            | (show Act.put _ (some 75) _ = _; simp only [Act.put, List.setIfInBounds_toArray, List.set_cons_zero, List.set_cons_succ, i64_w, i32_w]; rfl)
            | rfl
          refine one_ (i := 22) (N := some 77) #[true, true, true, true, true, true, true, true, true, true, true, true, true, true, true, true, true, true, true, true, true, true, true, false, true, true, false, false, false, false] rfl rfl (one_of HT_.out (by kernel_rfl)) (by decide) (fun K hK => ?_)
          refine goes_ Tryd.func95 (by kernel_rfl) rfl #[.int .u32 y, .int .u64 19] (by rfl) rfl rfl (by (try simp only [List.map_toArray, List.map_cons, List.map_nil]); first | done | rfl) ?_
          refine (turn_calls y 19 (by decide) (by decide) _).mono ?_
          rintro e' w9 ⟨rfl, rfl⟩
          refine ⟨_, rfl, ?_⟩
          refine hK.out _ _ (by exact hS0) (fun hHeld => ?_)
          clear hK K
          refine norm_ (a' := ?_) ?_ ?_
          rotate_left
          · first
            | (show Act.put _ (some 77) _ = _; simp only [Act.put, List.setIfInBounds_toArray, List.set_cons_zero, List.set_cons_succ, i64_w, i32_w]; rfl)
            | rfl
          refine pure_ (i := 23) (N := some 78) (v := ?_) (a' := ?_) #[true, true, true, true, true, true, true, true, true, true, true, true, true, true, true, true, true, true, true, true, true, true, true, true, true, true, false, false, false, false] rfl rfl (any_of HT_.out (by kernel_rfl)) (fun _ _ _ h => h) (Or.inl ⟨by rfl, ?_⟩) ?_ ?_
          rotate_left
          · intro w'
            go_simp
            with_reducible rfl
          rotate_left
          · simp only [Act.put, List.setIfInBounds_toArray, List.set_cons_zero, List.set_cons_succ, i64_w, i32_w]
            rfl
          refine pure_ (i := 26) (N := some 81) (v := ?_) (a' := ?_) #[true, true, true, true, true, true, true, true, true, true, true, true, true, true, true, true, true, true, true, true, true, true, true, true, true, true, true, false, false, false] rfl rfl (any_of HT_.out (by kernel_rfl)) (fun _ _ _ h => h) (Or.inl ⟨by rfl, ?_⟩) ?_ ?_
          rotate_left
          · intro w'
            go_simp
            with_reducible rfl
          rotate_left
          · simp only [Act.put, List.setIfInBounds_toArray, List.set_cons_zero, List.set_cons_succ, i64_w, i32_w]
            rfl
          refine pure_ (i := 27) (N := some 82) (v := ?_) (a' := ?_) #[true, true, true, true, true, true, true, true, true, true, true, true, true, true, true, true, true, true, true, true, true, true, true, true, true, true, true, true, false, false] rfl rfl (any_of HT_.out (by kernel_rfl)) (fun _ _ _ h => h) (Or.inl ⟨by rfl, ?_⟩) ?_ ?_
          rotate_left
          · intro w'
            go_simp
            with_reducible rfl
          rotate_left
          · simp only [Act.put, List.setIfInBounds_toArray, List.set_cons_zero, List.set_cons_succ, i64_w, i32_w]
            rfl
          refine pure_ (i := 28) (N := some 83) (v := ?_) (a' := ?_) #[true, true, true, true, true, true, true, true, true, true, true, true, true, true, true, true, true, true, true, true, true, true, true, true, true, true, true, true, true, false] rfl rfl (any_of HT_.out (by kernel_rfl)) (fun _ _ _ h => h) (Or.inl ⟨by rfl, ?_⟩) ?_ ?_
          rotate_left
          · intro w'
            go_simp
            with_reducible rfl
          rotate_left
          · simp only [Act.put, List.setIfInBounds_toArray, List.set_cons_zero, List.set_cons_succ, i64_w, i32_w]
            rfl
          refine last_ (i := 29) (N := none) #[true, true, true, true, true, true, true, true, true, true, true, true, true, true, true, true, true, true, true, true, true, true, true, true, true, true, true, true, true, true] rfl rfl (one_of HT_.out (by kernel_rfl)) (by decide) (fun K hK => ?_)
          have hx := HG.out.gk wr.drew.drew rfl
          have hf := HG.out.fr wr.drew.drew rfl
          go_simp
          refine hK.out _ _ ?_
          clear hK K
          refine norm_ (a' := ?_) ?_ ?_
          rotate_left
          · first
            | (show Act.put _ none _ = _; simp only [Act.put, List.setIfInBounds_toArray, List.set_cons_zero, List.set_cons_succ, i64_w, i32_w]; rfl)
            | rfl
          refine done_ (done_of HT_.out (by kernel_rfl)) ?_
          replace HS := Aside0.mk (HS.out.set k (schW a x c' y)).drew.drew
          rw [← HN.out] at HS
          unfold schW at HS
          clear HN hS0 HG
          generalize (wr.setCell _ _).drew.drew = w5 at HS ⊢
          go_wp2
          go_roundw
          case rel => exact ⟨n + 1, k + 1, by omega, by have := HKN.out; omega, by go_num, HS⟩
          case measure => simp [intOf]; omega
        · obtain rfl : n = 48 := by omega
          obtain rfl : k = 64 := by omega
          clear hlt hn hkn
          rw [show ((64 : Nat) : Int) = 64 from rfl]
          have hll := sch_len l 48
          generalize sch l 48 = xs at HS HBLK hll
          have HSO := Aside0.mk (Mb.mk' HS.out)
          go_wp2_with (first | (refine wpList_load_row rfl 67 (.tmp 3) rfl w.heap.size rfl 67 (c8 (s0, s1, s2, s3, s4, s5, s6, s7)) (0, 0) _ HS.out.s Tryd.underlying67 rfl infoS ?_) | (refine wpList_store_row rfl 67 (.tmp 13) (.tmp 84) rfl wr.heap.size (c8 (s0, s1, s2, s3, s4, s5, s6, s7)) rfl rfl 67 _ (heap_new _ _) infoS rfl (c8_one _) ?_))
          clear HS
          generalize World.setRow _ _ _ = w6 at HSO ⊢
          generalize wr.heap.size = gg at HSO ⊢
          obtain ⟨s, hs⟩ : ∃ s : S8, s = (s0, s1, s2, s3, s4, s5, s6, s7) := ⟨_, rfl⟩
          rw [← hs] at HSO HBLK HRS
          go_loopw [14] (fun i wb => ∃ (k : Nat) (r : S8), k ≤ 64 ∧ Aside0 (r = rnds kTab xs s k) ∧ i = .int .i64 (k : Int) ∧ Aside0 (Mb w wb gg s r xs)) (fun i _ => 64 - (intOf i).toNat)
          case atStart => exact ⟨0, s, Nat.zero_le _, ⟨rfl⟩, rfl, HSO⟩
          case round =>
            clear HSO
            obtain ⟨wb, rfl⟩ : ∃ wb, wb = wr := ⟨_, rfl⟩
            obtain ⟨k, ⟨a, b, c', d, e, f, g, h⟩, hk, HRN, rfl, HS⟩ := hrel
            by_cases hlt : k < 64
            · have hk64 : (k : Int) < 64 := by omega
              have HNE := Aside0.mk (show IntKind.u32.wrap (4294967295 - e) = not32 e from not_eq (by have hq := rnds_rng kTab xs HRS.out k; rw [← HRN.out] at hq; exact hq.2.2.2.2.1))
              have HN := Aside0.mk (show rnds kTab xs s (k + 1) = rnd (rd kTab (k : Int)) (rd xs (k : Int)) (a, b, c', d, e, f, g, h) by rw [HRN.out]; rfl)
              have HK := Aside0.mk (show ∀ w' : World, w'.heap = wb.heap → w'.cell? ⟨w.heap.size + 1, k, none⟩ = some (.int .u32 (rd kTab (k : Int))) ∧ w'.cell? ⟨w.heap.size + 1 + 1 + 1, k, none⟩ = some (.int .u32 (rd xs (k : Int))) from fun w' hh =>
                ⟨(cell_of (show w'.heap[w.heap.size + 1]? = _ by rw [hh]; exact HS.out.rb.k)).2 (cw_get (by show k < 64; exact hlt)), (cell_of (show w'.heap[w.heap.size + 1 + 1 + 1]? = _ by rw [hh]; exact HS.out.rb.x)).2 (cw_get (by rw [hll]; exact hlt))⟩)
              have HC := Aside0.mk (show ∀ (j : Nat) (v : Value), (c8 (a, b, c', d, e, f, g, h))[j]? = some v → ∀ w' : World, w'.heap = wb.heap → w'.cell? ⟨gg, j, none⟩ = some v from fun j v hv w' hh => (cell_of (show w'.heap[gg]? = _ by rw [hh]; exact HS.out.m)).2 hv)
              generalize rd kTab (k : Int) = kk at HN HK
              generalize rd xs (k : Int) = ww at HN HK
              clear HRN
              have hS0 : wb.drew.heap = wb.heap := rfl
              go_upto_region 18 with (fail)
              refine start_ (n := 6) (S := fun w' => w'.heap = wb.heap) (ds := []) #[false, false, false, false, false, false] (by kernel_rfl) rfl rfl (by exact hS0) (fun hHeld => ?_)
              refine with_tabW rb_tab18 rb_bits18 (fun HT_ HW_ => ?_)
              refine pure_ (i := 0) (N := some 89) (v := ?_) (a' := ?_) #[true, false, false, false, false, false] rfl rfl (any_of HT_.out (by kernel_rfl)) (fun _ _ _ h => h) (Or.inl ⟨by rfl, ?_⟩) ?_ ?_
              rotate_left
              · intro w'
                go_simp
                with_reducible rfl
              rotate_left
              · simp only [Act.put, List.setIfInBounds_toArray, List.set_cons_zero, List.set_cons_succ, i64_w, i32_w]
                rfl
              refine take_ (i := 1) (N := some 90) (v := ?_) (a' := ?_) #[true, true, false, false, false, false] rfl rfl (take_ofW HT_.out HW_.out (by kernel_rfl)) (fun _ _ _ h => h) (Or.inl ⟨by rfl, ?_⟩) hHeld ?_ ?_
              rotate_left
              · intro w' hSt
                have hx := HC.out 4 _ rfl w' hSt
                go_simp
                with_reducible rfl
              rotate_left
              · simp only [Act.put, List.setIfInBounds_toArray, List.set_cons_zero, List.set_cons_succ, i64_w, i32_w]
                rfl
              refine pure_ (i := 2) (N := some 91) (v := ?_) (a' := ?_) #[true, true, true, false, false, false] rfl rfl (any_of HT_.out (by kernel_rfl)) (fun _ _ _ h => h) (Or.inl ⟨by rfl, ?_⟩) ?_ ?_
              rotate_left
              · intro w'
                go_simp
                with_reducible rfl
              rotate_left
              · simp only [Act.put, List.setIfInBounds_toArray, List.set_cons_zero, List.set_cons_succ, i64_w, i32_w]
                rfl
              refine take_ (i := 3) (N := some 92) (v := ?_) (a' := ?_) #[true, true, true, true, false, false] rfl rfl (take_ofW HT_.out HW_.out (by kernel_rfl)) (fun _ _ _ h => h) (Or.inl ⟨by rfl, ?_⟩) hHeld ?_ ?_
              rotate_left
              · intro w' hSt
                have hx := HC.out 0 _ rfl w' hSt
                go_simp
                with_reducible rfl
              rotate_left
              · simp only [Act.put, List.setIfInBounds_toArray, List.set_cons_zero, List.set_cons_succ, i64_w, i32_w]
                rfl
              refine pure_ (i := 4) (N := some 15) (v := ?_) (a' := ?_) #[true, true, true, true, true, false] rfl rfl (any_of HT_.out (by kernel_rfl)) (fun _ _ _ h => h) (Or.inl ⟨by rfl, ?_⟩) ?_ ?_
              rotate_left
              · intro w'
                go_simp
                with_reducible rfl
              rotate_left
              · simp only [Act.put, List.setIfInBounds_toArray, List.set_cons_zero, List.set_cons_succ, i64_w, i32_w]
                rfl
              refine pure_ (i := 5) (N := some 16) (v := ?_) (a' := ?_) #[true, true, true, true, true, true] rfl rfl (any_of HT_.out (by kernel_rfl)) (fun _ _ _ h => h) (Or.inl ⟨by rfl, ?_⟩) ?_ ?_
              rotate_left
              · intro w'
                go_simp
                with_reducible rfl
              rotate_left
              · simp only [Act.put, List.setIfInBounds_toArray, List.set_cons_zero, List.set_cons_succ, i64_w, i32_w]
                rfl
              refine done_ (done_of HT_.out (by kernel_rfl)) ?_
              clear hS0 hHeld HT_ HW_
              have hS0 : wb.drew.drew.heap = wb.heap := rfl
              go_upto_region 19 with (fail)
              refine start_ (n := 31) (S := fun w' => w'.heap = wb.heap) (ds := []) #[false, false, false, false, false, false, false, false, false, false, false, false, false, false, false, false, false, false, false, false, false, false, false, false, false, false, false, false, false, false, false] (by kernel_rfl) rfl rfl (by exact hS0) (fun hHeld => ?_)
              refine with_tabW rb_tab19 rb_bits19 (fun HT_ HW_ => ?_)
              refine pure_ (i := 0) (N := some 93) (v := ?_) (a' := ?_) #[true, false, false, false, false, false, false, false, false, false, false, false, false, false, false, false, false, false, false, false, false, false, false, false, false, false, false, false, false, false, false] rfl rfl (any_of HT_.out (by kernel_rfl)) (fun _ _ _ h => h) (Or.inl ⟨by rfl, ?_⟩) ?_ ?_
              rotate_left
              · intro w'
                go_simp
                with_reducible rfl
              rotate_left
              · simp only [Act.put, List.setIfInBounds_toArray, List.set_cons_zero, List.set_cons_succ, i64_w, i32_w]
                rfl
              refine take_ (i := 1) (N := some 94) (v := ?_) (a' := ?_) #[true, true, false, false, false, false, false, false, false, false, false, false, false, false, false, false, false, false, false, false, false, false, false, false, false, false, false, false, false, false, false] rfl rfl (take_ofW HT_.out HW_.out (by kernel_rfl)) (fun _ _ _ h => h) (Or.inl ⟨by rfl, ?_⟩) hHeld ?_ ?_
              rotate_left
              · intro w' hSt
                have hx := HC.out 7 _ rfl w' hSt
                go_simp
                with_reducible rfl
              rotate_left
              · simp only [Act.put, List.setIfInBounds_toArray, List.set_cons_zero, List.set_cons_succ, i64_w, i32_w]
                rfl
              refine pure_ (i := 2) (N := some 95) (v := ?_) (a' := ?_) #[true, true, true, false, false, false, false, false, false, false, false, false, false, false, false, false, false, false, false, false, false, false, false, false, false, false, false, false, false, false, false] rfl rfl (any_of HT_.out (by kernel_rfl)) (fun _ _ _ h => h) (Or.inl ⟨by rfl, ?_⟩) ?_ ?_
              rotate_left
              · intro w'
                go_simp
                with_reducible rfl
              rotate_left
              · simp only [Act.put, List.setIfInBounds_toArray, List.set_cons_zero, List.set_cons_succ, i64_w, i32_w]
                rfl
              refine pure_ (i := 4) (N := some 97) (v := ?_) (a' := ?_) #[true, true, true, false, true, false, false, false, false, false, false, false, false, false, false, false, false, false, false, false, false, false, false, false, false, false, false, false, false, false, false] rfl rfl (any_of HT_.out (by kernel_rfl)) (fun _ _ _ h => h) (Or.inl ⟨by rfl, ?_⟩) ?_ ?_
              rotate_left
              · intro w'
                go_simp
                with_reducible rfl
              rotate_left
              · simp only [Act.put, List.setIfInBounds_toArray, List.set_cons_zero, List.set_cons_succ, i64_w, i32_w]
                rfl
              refine pure_ (i := 7) (N := some 100) (v := ?_) (a' := ?_) #[true, true, true, false, true, false, false, true, false, false, false, false, false, false, false, false, false, false, false, false, false, false, false, false, false, false, false, false, false, false, false] rfl rfl (any_of HT_.out (by kernel_rfl)) (fun _ _ _ h => h) (Or.inl ⟨by rfl, ?_⟩) ?_ ?_
              rotate_left
              · intro w'
                go_simp
                with_reducible rfl
              rotate_left
              · simp only [Act.put, List.setIfInBounds_toArray, List.set_cons_zero, List.set_cons_succ, i64_w, i32_w]
                rfl
              refine pure_ (i := 11) (N := some 104) (v := ?_) (a' := ?_) #[true, true, true, false, true, false, false, true, false, false, false, true, false, false, false, false, false, false, false, false, false, false, false, false, false, false, false, false, false, false, false] rfl rfl (any_of HT_.out (by kernel_rfl)) (fun _ _ _ h => h) (Or.inl ⟨by rfl, ?_⟩) ?_ ?_
              rotate_left
              · intro w'
                go_simp
                with_reducible rfl
              rotate_left
              · simp only [Act.put, List.setIfInBounds_toArray, List.set_cons_zero, List.set_cons_succ, i64_w, i32_w]
                rfl
              refine pure_ (i := 12) (N := some 105) (v := ?_) (a' := ?_) #[true, true, true, false, true, false, false, true, false, false, false, true, true, false, false, false, false, false, false, false, false, false, false, false, false, false, false, false, false, false, false] rfl rfl (any_of HT_.out (by kernel_rfl)) (fun _ _ _ h => h) (Or.inl ⟨by rfl, ?_⟩) ?_ ?_
              rotate_left
              · intro w'
                go_simp
                with_reducible rfl
              rotate_left
              · simp only [Act.put, List.setIfInBounds_toArray, List.set_cons_zero, List.set_cons_succ, i64_w, i32_w]
                rfl
              refine take_ (i := 13) (N := some 106) (v := ?_) (a' := ?_) #[true, true, true, false, true, false, false, true, false, false, false, true, true, true, false, false, false, false, false, false, false, false, false, false, false, false, false, false, false, false, false] rfl rfl (take_ofW HT_.out HW_.out (by kernel_rfl)) (fun _ _ _ h => h) (Or.inl ⟨by rfl, ?_⟩) hHeld ?_ ?_
              rotate_left
              · intro w' hSt
                have hx := HC.out 5 _ rfl w' hSt
                go_simp
                with_reducible rfl
              rotate_left
              · simp only [Act.put, List.setIfInBounds_toArray, List.set_cons_zero, List.set_cons_succ, i64_w, i32_w]
                rfl
              refine pure_ (i := 14) (N := some 107) (v := ?_) (a' := ?_) #[true, true, true, false, true, false, false, true, false, false, false, true, true, true, true, false, false, false, false, false, false, false, false, false, false, false, false, false, false, false, false] rfl rfl (any_of HT_.out (by kernel_rfl)) (fun _ _ _ h => h) (Or.inl ⟨by rfl, ?_⟩) ?_ ?_
              rotate_left
              · intro w'
                go_simp
                with_reducible rfl
              rotate_left
              · simp only [Act.put, List.setIfInBounds_toArray, List.set_cons_zero, List.set_cons_succ, i64_w, i32_w]
                rfl
              refine pure_ (i := 15) (N := some 108) (v := ?_) (a' := ?_) #[true, true, true, false, true, false, false, true, false, false, false, true, true, true, true, true, false, false, false, false, false, false, false, false, false, false, false, false, false, false, false] rfl rfl (any_of HT_.out (by kernel_rfl)) (fun _ _ _ h => h) (Or.inl ⟨by rfl, ?_⟩) ?_ ?_
              rotate_left
              · intro w'
                go_simp
                with_reducible rfl
              rotate_left
              · simp only [Act.put, List.setIfInBounds_toArray, List.set_cons_zero, List.set_cons_succ, i64_w, i32_w]
                rfl
              refine pure_ (i := 16) (N := some 109) (v := ?_) (a' := ?_) #[true, true, true, false, true, false, false, true, false, false, false, true, true, true, true, true, true, false, false, false, false, false, false, false, false, false, false, false, false, false, false] rfl rfl (any_of HT_.out (by kernel_rfl)) (fun _ _ _ h => h) (Or.inl ⟨by rfl, ?_⟩) ?_ ?_
              rotate_left
              · intro w'
                go_simp
                rw [HNE.out]
              rotate_left
              · simp only [Act.put, List.setIfInBounds_toArray, List.set_cons_zero, List.set_cons_succ, i64_w, i32_w]
                rfl
              refine pure_ (i := 17) (N := some 110) (v := ?_) (a' := ?_) #[true, true, true, false, true, false, false, true, false, false, false, true, true, true, true, true, true, true, false, false, false, false, false, false, false, false, false, false, false, false, false] rfl rfl (any_of HT_.out (by kernel_rfl)) (fun _ _ _ h => h) (Or.inl ⟨by rfl, ?_⟩) ?_ ?_
              rotate_left
              · intro w'
                go_simp
                with_reducible rfl
              rotate_left
              · simp only [Act.put, List.setIfInBounds_toArray, List.set_cons_zero, List.set_cons_succ, i64_w, i32_w]
                rfl
              refine take_ (i := 18) (N := some 111) (v := ?_) (a' := ?_) #[true, true, true, false, true, false, false, true, false, false, false, true, true, true, true, true, true, true, true, false, false, false, false, false, false, false, false, false, false, false, false] rfl rfl (take_ofW HT_.out HW_.out (by kernel_rfl)) (fun _ _ _ h => h) (Or.inl ⟨by rfl, ?_⟩) hHeld ?_ ?_
              rotate_left
              · intro w' hSt
                have hx := HC.out 6 _ rfl w' hSt
                go_simp
                with_reducible rfl
              rotate_left
              · simp only [Act.put, List.setIfInBounds_toArray, List.set_cons_zero, List.set_cons_succ, i64_w, i32_w]
                rfl
              refine pure_ (i := 19) (N := some 112) (v := ?_) (a' := ?_) #[true, true, true, false, true, false, false, true, false, false, false, true, true, true, true, true, true, true, true, true, false, false, false, false, false, false, false, false, false, false, false] rfl rfl (any_of HT_.out (by kernel_rfl)) (fun _ _ _ h => h) (Or.inl ⟨by rfl, ?_⟩) ?_ ?_
              rotate_left
              · intro w'
                go_simp
                with_reducible rfl
              rotate_left
              · simp only [Act.put, List.setIfInBounds_toArray, List.set_cons_zero, List.set_cons_succ, i64_w, i32_w]
                rfl
              refine pure_ (i := 20) (N := some 113) (v := ?_) (a' := ?_) #[true, true, true, false, true, false, false, true, false, false, false, true, true, true, true, true, true, true, true, true, true, false, false, false, false, false, false, false, false, false, false] rfl rfl (any_of HT_.out (by kernel_rfl)) (fun _ _ _ h => h) (Or.inl ⟨by rfl, ?_⟩) ?_ ?_
              rotate_left
              · intro w'
                go_simp
                with_reducible rfl
              rotate_left
              · simp only [Act.put, List.setIfInBounds_toArray, List.set_cons_zero, List.set_cons_succ, i64_w, i32_w]
                rfl
              refine pure_ (i := 22) (N := some 115) (v := ?_) (a' := ?_) #[true, true, true, false, true, false, false, true, false, false, false, true, true, true, true, true, true, true, true, true, true, false, true, false, false, false, false, false, false, false, false] rfl rfl (any_of HT_.out (by kernel_rfl)) (fun _ _ _ h => h) (Or.inl ⟨by rfl, ?_⟩) ?_ ?_
              rotate_left
              · intro w'
                go_simp
                with_reducible rfl
              rotate_left
              · simp only [Act.put, List.setIfInBounds_toArray, List.set_cons_zero, List.set_cons_succ, i64_w, i32_w]
                rfl
              refine pure_ (i := 23) (N := some 116) (v := ?_) (a' := ?_) #[true, true, true, false, true, false, false, true, false, false, false, true, true, true, true, true, true, true, true, true, true, false, true, true, false, false, false, false, false, false, false] rfl rfl (any_of HT_.out (by kernel_rfl)) (fun _ _ _ h => h) (Or.inl ⟨by rfl, ?_⟩) ?_ ?_
              rotate_left
              · intro w'
                go_simp
                with_reducible rfl
              rotate_left
              · simp only [Act.put, List.setIfInBounds_toArray, List.set_cons_zero, List.set_cons_succ, i64_w, i32_w]
                rfl
              refine take_ (i := 24) (N := some 117) (v := ?_) (a' := ?_) #[true, true, true, false, true, false, false, true, false, false, false, true, true, true, true, true, true, true, true, true, true, false, true, true, true, false, false, false, false, false, false] rfl rfl (take_ofW HT_.out HW_.out (by kernel_rfl)) (fun _ _ _ h => h) (Or.inl ⟨by rfl, ?_⟩) hHeld ?_ ?_
              rotate_left
              · intro w' hSt
                have hx := (HK.out w' hSt).1
                go_simp
                with_reducible rfl
              rotate_left
              · simp only [Act.put, List.setIfInBounds_toArray, List.set_cons_zero, List.set_cons_succ, i64_w, i32_w]
                rfl
              refine pure_ (i := 26) (N := some 119) (v := ?_) (a' := ?_) #[true, true, true, false, true, false, false, true, false, false, false, true, true, true, true, true, true, true, true, true, true, false, true, true, true, false, true, false, false, false, false] rfl rfl (any_of HT_.out (by kernel_rfl)) (fun _ _ _ h => h) (Or.inl ⟨by rfl, ?_⟩) ?_ ?_
              rotate_left
              · intro w'
                go_simp
                with_reducible rfl
              rotate_left
              · simp only [Act.put, List.setIfInBounds_toArray, List.set_cons_zero, List.set_cons_succ, i64_w, i32_w]
                rfl
              refine pure_ (i := 27) (N := some 120) (v := ?_) (a' := ?_) #[true, true, true, false, true, false, false, true, false, false, false, true, true, true, true, true, true, true, true, true, true, false, true, true, true, false, true, true, false, false, false] rfl rfl (any_of HT_.out (by kernel_rfl)) (fun _ _ _ h => h) (Or.inl ⟨by rfl, ?_⟩) ?_ ?_
              rotate_left
              · intro w'
                go_simp
                with_reducible rfl
              rotate_left
              · simp only [Act.put, List.setIfInBounds_toArray, List.set_cons_zero, List.set_cons_succ, i64_w, i32_w]
                rfl
              refine take_ (i := 28) (N := some 121) (v := ?_) (a' := ?_) #[true, true, true, false, true, false, false, true, false, false, false, true, true, true, true, true, true, true, true, true, true, false, true, true, true, false, true, true, true, false, false] rfl rfl (take_ofW HT_.out HW_.out (by kernel_rfl)) (fun _ _ _ h => h) (Or.inl ⟨by rfl, ?_⟩) hHeld ?_ ?_
              rotate_left
              · intro w' hSt
                have hx := (HK.out w' hSt).2
                go_simp
                with_reducible rfl
              rotate_left
              · simp only [Act.put, List.setIfInBounds_toArray, List.set_cons_zero, List.set_cons_succ, i64_w, i32_w]
                rfl
              refine one_ (i := 3) (N := some 96) #[true, true, true, true, true, false, false, true, false, false, false, true, true, true, true, true, true, true, true, true, true, false, true, true, true, false, true, true, true, false, false] rfl rfl (one_of HT_.out (by kernel_rfl)) (by decide) (fun K hK => ?_)
              refine goes_ Tryd.func95 (by kernel_rfl) rfl #[.int .u32 e, .int .u64 6] (by rfl) rfl rfl (by (try simp only [List.map_toArray, List.map_cons, List.map_nil]); first | done | rfl) ?_
              refine (turn_calls e 6 (by decide) (by decide) _).mono ?_
              rintro e' w9 ⟨rfl, rfl⟩
              refine ⟨_, rfl, ?_⟩
              refine hK.out _ _ (by exact hS0) (fun hHeld => ?_)
              clear hK K
              refine norm_ (a' := ?_) ?_ ?_
              rotate_left
              · first
                | (show Act.put _ (some 96) _ = _; simp only [Act.put, List.setIfInBounds_toArray, List.set_cons_zero, List.set_cons_succ, i64_w, i32_w]; rfl)
                | rfl
              refine one_ (i := 5) (N := some 98) #[true, true, true, true, true, true, false, true, false, false, false, true, true, true, true, true, true, true, true, true, true, false, true, true, true, false, true, true, true, false, false] rfl rfl (one_of HT_.out (by kernel_rfl)) (by decide) (fun K hK => ?_)
              refine goes_ Tryd.func95 (by kernel_rfl) rfl #[.int .u32 e, .int .u64 11] (by rfl) rfl rfl (by (try simp only [List.map_toArray, List.map_cons, List.map_nil]); first | done | rfl) ?_
              refine (turn_calls e 11 (by decide) (by decide) _).mono ?_
              rintro e' w9 ⟨rfl, rfl⟩
              refine ⟨_, rfl, ?_⟩
              refine hK.out _ _ (by exact hS0) (fun hHeld => ?_)
              clear hK K
              refine norm_ (a' := ?_) ?_ ?_
              rotate_left
              · first
                | (show Act.put _ (some 98) _ = _; simp only [Act.put, List.setIfInBounds_toArray, List.set_cons_zero, List.set_cons_succ, i64_w, i32_w]; rfl)
                | rfl
              refine pure_ (i := 6) (N := some 99) (v := ?_) (a' := ?_) #[true, true, true, true, true, true, true, true, false, false, false, true, true, true, true, true, true, true, true, true, true, false, true, true, true, false, true, true, true, false, false] rfl rfl (any_of HT_.out (by kernel_rfl)) (fun _ _ _ h => h) (Or.inl ⟨by rfl, ?_⟩) ?_ ?_
              rotate_left
              · intro w'
                go_simp
                with_reducible rfl
              rotate_left
              · simp only [Act.put, List.setIfInBounds_toArray, List.set_cons_zero, List.set_cons_succ, i64_w, i32_w]
                rfl
              refine one_ (i := 8) (N := some 101) #[true, true, true, true, true, true, true, true, true, false, false, true, true, true, true, true, true, true, true, true, true, false, true, true, true, false, true, true, true, false, false] rfl rfl (one_of HT_.out (by kernel_rfl)) (by decide) (fun K hK => ?_)
              refine goes_ Tryd.func95 (by kernel_rfl) rfl #[.int .u32 e, .int .u64 25] (by rfl) rfl rfl (by (try simp only [List.map_toArray, List.map_cons, List.map_nil]); first | done | rfl) ?_
              refine (turn_calls e 25 (by decide) (by decide) _).mono ?_
              rintro e' w9 ⟨rfl, rfl⟩
              refine ⟨_, rfl, ?_⟩
              refine hK.out _ _ (by exact hS0) (fun hHeld => ?_)
              clear hK K
              refine norm_ (a' := ?_) ?_ ?_
              rotate_left
              · first
                | (show Act.put _ (some 101) _ = _; simp only [Act.put, List.setIfInBounds_toArray, List.set_cons_zero, List.set_cons_succ, i64_w, i32_w]; rfl)
                | rfl
              refine pure_ (i := 9) (N := some 102) (v := ?_) (a' := ?_) #[true, true, true, true, true, true, true, true, true, true, false, true, true, true, true, true, true, true, true, true, true, false, true, true, true, false, true, true, true, false, false] rfl rfl (any_of HT_.out (by kernel_rfl)) (fun _ _ _ h => h) (Or.inl ⟨by rfl, ?_⟩) ?_ ?_
              rotate_left
              · intro w'
                go_simp
                with_reducible rfl
              rotate_left
              · simp only [Act.put, List.setIfInBounds_toArray, List.set_cons_zero, List.set_cons_succ, i64_w, i32_w]
                rfl
              refine pure_ (i := 10) (N := some 103) (v := ?_) (a' := ?_) #[true, true, true, true, true, true, true, true, true, true, true, true, true, true, true, true, true, true, true, true, true, false, true, true, true, false, true, true, true, false, false] rfl rfl (any_of HT_.out (by kernel_rfl)) (fun _ _ _ h => h) (Or.inl ⟨by rfl, ?_⟩) ?_ ?_
              rotate_left
              · intro w'
                go_simp
                with_reducible rfl
              rotate_left
              · simp only [Act.put, List.setIfInBounds_toArray, List.set_cons_zero, List.set_cons_succ, i64_w, i32_w]
                rfl
              refine pure_ (i := 21) (N := some 114) (v := ?_) (a' := ?_) #[true, true, true, true, true, true, true, true, true, true, true, true, true, true, true, true, true, true, true, true, true, true, true, true, true, false, true, true, true, false, false] rfl rfl (any_of HT_.out (by kernel_rfl)) (fun _ _ _ h => h) (Or.inl ⟨by rfl, ?_⟩) ?_ ?_
              rotate_left
              · intro w'
                go_simp
                with_reducible rfl
              rotate_left
              · simp only [Act.put, List.setIfInBounds_toArray, List.set_cons_zero, List.set_cons_succ, i64_w, i32_w]
                rfl
              refine pure_ (i := 25) (N := some 118) (v := ?_) (a' := ?_) #[true, true, true, true, true, true, true, true, true, true, true, true, true, true, true, true, true, true, true, true, true, true, true, true, true, true, true, true, true, false, false] rfl rfl (any_of HT_.out (by kernel_rfl)) (fun _ _ _ h => h) (Or.inl ⟨by rfl, ?_⟩) ?_ ?_
              rotate_left
              · intro w'
                go_simp
                with_reducible rfl
              rotate_left
              · simp only [Act.put, List.setIfInBounds_toArray, List.set_cons_zero, List.set_cons_succ, i64_w, i32_w]
                rfl
              refine pure_ (i := 29) (N := some 122) (v := ?_) (a' := ?_) #[true, true, true, true, true, true, true, true, true, true, true, true, true, true, true, true, true, true, true, true, true, true, true, true, true, true, true, true, true, true, false] rfl rfl (any_of HT_.out (by kernel_rfl)) (fun _ _ _ h => h) (Or.inl ⟨by rfl, ?_⟩) ?_ ?_
              rotate_left
              · intro w'
                go_simp
                with_reducible rfl
              rotate_left
              · simp only [Act.put, List.setIfInBounds_toArray, List.set_cons_zero, List.set_cons_succ, i64_w, i32_w]
                rfl
              refine pure_ (i := 30) (N := some 17) (v := ?_) (a' := ?_) #[true, true, true, true, true, true, true, true, true, true, true, true, true, true, true, true, true, true, true, true, true, true, true, true, true, true, true, true, true, true, true] rfl rfl (any_of HT_.out (by kernel_rfl)) (fun _ _ _ h => h) (Or.inl ⟨by rfl, ?_⟩) ?_ ?_
              rotate_left
              · intro w'
                go_simp
                with_reducible rfl
              rotate_left
              · simp only [Act.put, List.setIfInBounds_toArray, List.set_cons_zero, List.set_cons_succ, i64_w, i32_w]
                rfl
              refine done_ (done_of HT_.out (by kernel_rfl)) ?_
              clear hS0 hHeld HT_ HW_ HK HNE
              have hS0 : wb.drew.drew.drew.heap = wb.heap := rfl
              go_upto_region 20 with (fail)
              refine start_ (n := 25) (S := fun w' => w'.heap = wb.heap) (ds := []) #[false, false, false, false, false, false, false, false, false, false, false, false, false, false, false, false, false, false, false, false, false, false, false, false, false] (by kernel_rfl) rfl rfl (by exact hS0) (fun hHeld => ?_)
              refine with_tabW rb_tab20 rb_bits20 (fun HT_ HW_ => ?_)
              refine pure_ (i := 0) (N := some 123) (v := ?_) (a' := ?_) #[true, false, false, false, false, false, false, false, false, false, false, false, false, false, false, false, false, false, false, false, false, false, false, false, false] rfl rfl (any_of HT_.out (by kernel_rfl)) (fun _ _ _ h => h) (Or.inl ⟨by rfl, ?_⟩) ?_ ?_
              rotate_left
              · intro w'
                go_simp
                with_reducible rfl
              rotate_left
              · simp only [Act.put, List.setIfInBounds_toArray, List.set_cons_zero, List.set_cons_succ, i64_w, i32_w]
                rfl
              refine pure_ (i := 2) (N := some 125) (v := ?_) (a' := ?_) #[true, false, true, false, false, false, false, false, false, false, false, false, false, false, false, false, false, false, false, false, false, false, false, false, false] rfl rfl (any_of HT_.out (by kernel_rfl)) (fun _ _ _ h => h) (Or.inl ⟨by rfl, ?_⟩) ?_ ?_
              rotate_left
              · intro w'
                go_simp
                with_reducible rfl
              rotate_left
              · simp only [Act.put, List.setIfInBounds_toArray, List.set_cons_zero, List.set_cons_succ, i64_w, i32_w]
                rfl
              refine pure_ (i := 5) (N := some 128) (v := ?_) (a' := ?_) #[true, false, true, false, false, true, false, false, false, false, false, false, false, false, false, false, false, false, false, false, false, false, false, false, false] rfl rfl (any_of HT_.out (by kernel_rfl)) (fun _ _ _ h => h) (Or.inl ⟨by rfl, ?_⟩) ?_ ?_
              rotate_left
              · intro w'
                go_simp
                with_reducible rfl
              rotate_left
              · simp only [Act.put, List.setIfInBounds_toArray, List.set_cons_zero, List.set_cons_succ, i64_w, i32_w]
                rfl
              refine pure_ (i := 8) (N := some 131) (v := ?_) (a' := ?_) #[true, false, true, false, false, true, false, false, true, false, false, false, false, false, false, false, false, false, false, false, false, false, false, false, false] rfl rfl (any_of HT_.out (by kernel_rfl)) (fun _ _ _ h => h) (Or.inl ⟨by rfl, ?_⟩) ?_ ?_
              rotate_left
              · intro w'
                go_simp
                with_reducible rfl
              rotate_left
              · simp only [Act.put, List.setIfInBounds_toArray, List.set_cons_zero, List.set_cons_succ, i64_w, i32_w]
                rfl
              refine pure_ (i := 9) (N := some 132) (v := ?_) (a' := ?_) #[true, false, true, false, false, true, false, false, true, true, false, false, false, false, false, false, false, false, false, false, false, false, false, false, false] rfl rfl (any_of HT_.out (by kernel_rfl)) (fun _ _ _ h => h) (Or.inl ⟨by rfl, ?_⟩) ?_ ?_
              rotate_left
              · intro w'
                go_simp
                with_reducible rfl
              rotate_left
              · simp only [Act.put, List.setIfInBounds_toArray, List.set_cons_zero, List.set_cons_succ, i64_w, i32_w]
                rfl
              refine take_ (i := 10) (N := some 133) (v := ?_) (a' := ?_) #[true, false, true, false, false, true, false, false, true, true, true, false, false, false, false, false, false, false, false, false, false, false, false, false, false] rfl rfl (take_ofW HT_.out HW_.out (by kernel_rfl)) (fun _ _ _ h => h) (Or.inl ⟨by rfl, ?_⟩) hHeld ?_ ?_
              rotate_left
              · intro w' hSt
                have hx := HC.out 1 _ rfl w' hSt
                go_simp
                with_reducible rfl
              rotate_left
              · simp only [Act.put, List.setIfInBounds_toArray, List.set_cons_zero, List.set_cons_succ, i64_w, i32_w]
                rfl
              refine pure_ (i := 11) (N := some 134) (v := ?_) (a' := ?_) #[true, false, true, false, false, true, false, false, true, true, true, true, false, false, false, false, false, false, false, false, false, false, false, false, false] rfl rfl (any_of HT_.out (by kernel_rfl)) (fun _ _ _ h => h) (Or.inl ⟨by rfl, ?_⟩) ?_ ?_
              rotate_left
              · intro w'
                go_simp
                with_reducible rfl
              rotate_left
              · simp only [Act.put, List.setIfInBounds_toArray, List.set_cons_zero, List.set_cons_succ, i64_w, i32_w]
                rfl
              refine pure_ (i := 12) (N := some 135) (v := ?_) (a' := ?_) #[true, false, true, false, false, true, false, false, true, true, true, true, true, false, false, false, false, false, false, false, false, false, false, false, false] rfl rfl (any_of HT_.out (by kernel_rfl)) (fun _ _ _ h => h) (Or.inl ⟨by rfl, ?_⟩) ?_ ?_
              rotate_left
              · intro w'
                go_simp
                with_reducible rfl
              rotate_left
              · simp only [Act.put, List.setIfInBounds_toArray, List.set_cons_zero, List.set_cons_succ, i64_w, i32_w]
                rfl
              refine pure_ (i := 13) (N := some 136) (v := ?_) (a' := ?_) #[true, false, true, false, false, true, false, false, true, true, true, true, true, true, false, false, false, false, false, false, false, false, false, false, false] rfl rfl (any_of HT_.out (by kernel_rfl)) (fun _ _ _ h => h) (Or.inl ⟨by rfl, ?_⟩) ?_ ?_
              rotate_left
              · intro w'
                go_simp
                with_reducible rfl
              rotate_left
              · simp only [Act.put, List.setIfInBounds_toArray, List.set_cons_zero, List.set_cons_succ, i64_w, i32_w]
                rfl
              refine take_ (i := 14) (N := some 137) (v := ?_) (a' := ?_) #[true, false, true, false, false, true, false, false, true, true, true, true, true, true, true, false, false, false, false, false, false, false, false, false, false] rfl rfl (take_ofW HT_.out HW_.out (by kernel_rfl)) (fun _ _ _ h => h) (Or.inl ⟨by rfl, ?_⟩) hHeld ?_ ?_
              rotate_left
              · intro w' hSt
                have hx := HC.out 2 _ rfl w' hSt
                go_simp
                with_reducible rfl
              rotate_left
              · simp only [Act.put, List.setIfInBounds_toArray, List.set_cons_zero, List.set_cons_succ, i64_w, i32_w]
                rfl
              refine pure_ (i := 15) (N := some 138) (v := ?_) (a' := ?_) #[true, false, true, false, false, true, false, false, true, true, true, true, true, true, true, true, false, false, false, false, false, false, false, false, false] rfl rfl (any_of HT_.out (by kernel_rfl)) (fun _ _ _ h => h) (Or.inl ⟨by rfl, ?_⟩) ?_ ?_
              rotate_left
              · intro w'
                go_simp
                with_reducible rfl
              rotate_left
              · simp only [Act.put, List.setIfInBounds_toArray, List.set_cons_zero, List.set_cons_succ, i64_w, i32_w]
                rfl
              refine pure_ (i := 16) (N := some 139) (v := ?_) (a' := ?_) #[true, false, true, false, false, true, false, false, true, true, true, true, true, true, true, true, true, false, false, false, false, false, false, false, false] rfl rfl (any_of HT_.out (by kernel_rfl)) (fun _ _ _ h => h) (Or.inl ⟨by rfl, ?_⟩) ?_ ?_
              rotate_left
              · intro w'
                go_simp
                with_reducible rfl
              rotate_left
              · simp only [Act.put, List.setIfInBounds_toArray, List.set_cons_zero, List.set_cons_succ, i64_w, i32_w]
                rfl
              refine pure_ (i := 17) (N := some 140) (v := ?_) (a' := ?_) #[true, false, true, false, false, true, false, false, true, true, true, true, true, true, true, true, true, true, false, false, false, false, false, false, false] rfl rfl (any_of HT_.out (by kernel_rfl)) (fun _ _ _ h => h) (Or.inl ⟨by rfl, ?_⟩) ?_ ?_
              rotate_left
              · intro w'
                go_simp
                with_reducible rfl
              rotate_left
              · simp only [Act.put, List.setIfInBounds_toArray, List.set_cons_zero, List.set_cons_succ, i64_w, i32_w]
                rfl
              refine take_ (i := 18) (N := some 141) (v := ?_) (a' := ?_) #[true, false, true, false, false, true, false, false, true, true, true, true, true, true, true, true, true, true, true, false, false, false, false, false, false] rfl rfl (take_ofW HT_.out HW_.out (by kernel_rfl)) (fun _ _ _ h => h) (Or.inl ⟨by rfl, ?_⟩) hHeld ?_ ?_
              rotate_left
              · intro w' hSt
                have hx := HC.out 1 _ rfl w' hSt
                go_simp
                with_reducible rfl
              rotate_left
              · simp only [Act.put, List.setIfInBounds_toArray, List.set_cons_zero, List.set_cons_succ, i64_w, i32_w]
                rfl
              refine pure_ (i := 19) (N := some 142) (v := ?_) (a' := ?_) #[true, false, true, false, false, true, false, false, true, true, true, true, true, true, true, true, true, true, true, true, false, false, false, false, false] rfl rfl (any_of HT_.out (by kernel_rfl)) (fun _ _ _ h => h) (Or.inl ⟨by rfl, ?_⟩) ?_ ?_
              rotate_left
              · intro w'
                go_simp
                with_reducible rfl
              rotate_left
              · simp only [Act.put, List.setIfInBounds_toArray, List.set_cons_zero, List.set_cons_succ, i64_w, i32_w]
                rfl
              refine take_ (i := 20) (N := some 143) (v := ?_) (a' := ?_) #[true, false, true, false, false, true, false, false, true, true, true, true, true, true, true, true, true, true, true, true, true, false, false, false, false] rfl rfl (take_ofW HT_.out HW_.out (by kernel_rfl)) (fun _ _ _ h => h) (Or.inl ⟨by rfl, ?_⟩) hHeld ?_ ?_
              rotate_left
              · intro w' hSt
                have hx := HC.out 2 _ rfl w' hSt
                go_simp
                with_reducible rfl
              rotate_left
              · simp only [Act.put, List.setIfInBounds_toArray, List.set_cons_zero, List.set_cons_succ, i64_w, i32_w]
                rfl
              refine pure_ (i := 21) (N := some 144) (v := ?_) (a' := ?_) #[true, false, true, false, false, true, false, false, true, true, true, true, true, true, true, true, true, true, true, true, true, true, false, false, false] rfl rfl (any_of HT_.out (by kernel_rfl)) (fun _ _ _ h => h) (Or.inl ⟨by rfl, ?_⟩) ?_ ?_
              rotate_left
              · intro w'
                go_simp
                with_reducible rfl
              rotate_left
              · simp only [Act.put, List.setIfInBounds_toArray, List.set_cons_zero, List.set_cons_succ, i64_w, i32_w]
                rfl
              refine pure_ (i := 22) (N := some 145) (v := ?_) (a' := ?_) #[true, false, true, false, false, true, false, false, true, true, true, true, true, true, true, true, true, true, true, true, true, true, true, false, false] rfl rfl (any_of HT_.out (by kernel_rfl)) (fun _ _ _ h => h) (Or.inl ⟨by rfl, ?_⟩) ?_ ?_
              rotate_left
              · intro w'
                go_simp
                with_reducible rfl
              rotate_left
              · simp only [Act.put, List.setIfInBounds_toArray, List.set_cons_zero, List.set_cons_succ, i64_w, i32_w]
                rfl
              refine one_ (i := 1) (N := some 124) #[true, true, true, false, false, true, false, false, true, true, true, true, true, true, true, true, true, true, true, true, true, true, true, false, false] rfl rfl (one_of HT_.out (by kernel_rfl)) (by decide) (fun K hK => ?_)
              refine goes_ Tryd.func95 (by kernel_rfl) rfl #[.int .u32 a, .int .u64 2] (by rfl) rfl rfl (by (try simp only [List.map_toArray, List.map_cons, List.map_nil]); first | done | rfl) ?_
              refine (turn_calls a 2 (by decide) (by decide) _).mono ?_
              rintro e' w9 ⟨rfl, rfl⟩
              refine ⟨_, rfl, ?_⟩
              refine hK.out _ _ (by exact hS0) (fun hHeld => ?_)
              clear hK K
              refine norm_ (a' := ?_) ?_ ?_
              rotate_left
              · first
                | (show Act.put _ (some 124) _ = _; simp only [Act.put, List.setIfInBounds_toArray, List.set_cons_zero, List.set_cons_succ, i64_w, i32_w]; rfl)
                | rfl
              refine one_ (i := 3) (N := some 126) #[true, true, true, true, false, true, false, false, true, true, true, true, true, true, true, true, true, true, true, true, true, true, true, false, false] rfl rfl (one_of HT_.out (by kernel_rfl)) (by decide) (fun K hK => ?_)
              refine goes_ Tryd.func95 (by kernel_rfl) rfl #[.int .u32 a, .int .u64 13] (by rfl) rfl rfl (by (try simp only [List.map_toArray, List.map_cons, List.map_nil]); first | done | rfl) ?_
              refine (turn_calls a 13 (by decide) (by decide) _).mono ?_
              rintro e' w9 ⟨rfl, rfl⟩
              refine ⟨_, rfl, ?_⟩
              refine hK.out _ _ (by exact hS0) (fun hHeld => ?_)
              clear hK K
              refine norm_ (a' := ?_) ?_ ?_
              rotate_left
              · first
                | (show Act.put _ (some 126) _ = _; simp only [Act.put, List.setIfInBounds_toArray, List.set_cons_zero, List.set_cons_succ, i64_w, i32_w]; rfl)
                | rfl
              refine pure_ (i := 4) (N := some 127) (v := ?_) (a' := ?_) #[true, true, true, true, true, true, false, false, true, true, true, true, true, true, true, true, true, true, true, true, true, true, true, false, false] rfl rfl (any_of HT_.out (by kernel_rfl)) (fun _ _ _ h => h) (Or.inl ⟨by rfl, ?_⟩) ?_ ?_
              rotate_left
              · intro w'
                go_simp
                with_reducible rfl
              rotate_left
              · simp only [Act.put, List.setIfInBounds_toArray, List.set_cons_zero, List.set_cons_succ, i64_w, i32_w]
                rfl
              refine one_ (i := 6) (N := some 129) #[true, true, true, true, true, true, true, false, true, true, true, true, true, true, true, true, true, true, true, true, true, true, true, false, false] rfl rfl (one_of HT_.out (by kernel_rfl)) (by decide) (fun K hK => ?_)
              refine goes_ Tryd.func95 (by kernel_rfl) rfl #[.int .u32 a, .int .u64 22] (by rfl) rfl rfl (by (try simp only [List.map_toArray, List.map_cons, List.map_nil]); first | done | rfl) ?_
              refine (turn_calls a 22 (by decide) (by decide) _).mono ?_
              rintro e' w9 ⟨rfl, rfl⟩
              refine ⟨_, rfl, ?_⟩
              refine hK.out _ _ (by exact hS0) (fun hHeld => ?_)
              clear hK K
              refine norm_ (a' := ?_) ?_ ?_
              rotate_left
              · first
                | (show Act.put _ (some 129) _ = _; simp only [Act.put, List.setIfInBounds_toArray, List.set_cons_zero, List.set_cons_succ, i64_w, i32_w]; rfl)
                | rfl
              refine pure_ (i := 7) (N := some 130) (v := ?_) (a' := ?_) #[true, true, true, true, true, true, true, true, true, true, true, true, true, true, true, true, true, true, true, true, true, true, true, false, false] rfl rfl (any_of HT_.out (by kernel_rfl)) (fun _ _ _ h => h) (Or.inl ⟨by rfl, ?_⟩) ?_ ?_
              rotate_left
              · intro w'
                go_simp
                with_reducible rfl
              rotate_left
              · simp only [Act.put, List.setIfInBounds_toArray, List.set_cons_zero, List.set_cons_succ, i64_w, i32_w]
                rfl
              refine pure_ (i := 23) (N := some 146) (v := ?_) (a' := ?_) #[true, true, true, true, true, true, true, true, true, true, true, true, true, true, true, true, true, true, true, true, true, true, true, true, false] rfl rfl (any_of HT_.out (by kernel_rfl)) (fun _ _ _ h => h) (Or.inl ⟨by rfl, ?_⟩) ?_ ?_
              rotate_left
              · intro w'
                go_simp
                with_reducible rfl
              rotate_left
              · simp only [Act.put, List.setIfInBounds_toArray, List.set_cons_zero, List.set_cons_succ, i64_w, i32_w]
                rfl
              refine pure_ (i := 24) (N := some 18) (v := ?_) (a' := ?_) #[true, true, true, true, true, true, true, true, true, true, true, true, true, true, true, true, true, true, true, true, true, true, true, true, true] rfl rfl (any_of HT_.out (by kernel_rfl)) (fun _ _ _ h => h) (Or.inl ⟨by rfl, ?_⟩) ?_ ?_
              rotate_left
              · intro w'
                go_simp
                with_reducible rfl
              rotate_left
              · simp only [Act.put, List.setIfInBounds_toArray, List.set_cons_zero, List.set_cons_succ, i64_w, i32_w]
                rfl
              refine done_ (done_of HT_.out (by kernel_rfl)) ?_
              clear hS0 hHeld HT_ HW_ HC
              replace HS := Aside0.mk HS.out.drew.drew.drew
              generalize wb.drew.drew.drew = w7 at HS ⊢
              have hx0 := (cell_of HS.out.m (j := 0)).2 rfl
              have hx1 := (cell_of HS.out.m (j := 1)).2 rfl
              have hx2 := (cell_of HS.out.m (j := 2)).2 rfl
              have hx3 := (cell_of HS.out.m (j := 3)).2 rfl
              have hx4 := (cell_of HS.out.m (j := 4)).2 rfl
              have hx5 := (cell_of HS.out.m (j := 5)).2 rfl
              have hx6 := (cell_of HS.out.m (j := 6)).2 rfl
              obtain ⟨T1, hT1⟩ : ∃ T, t1I e f g h kk ww = T := ⟨_, rfl⟩
              obtain ⟨T2, hT2⟩ : ∃ T, t2I a b c' = T := ⟨_, rfl⟩
              replace HN := Aside0.mk (HN.out.trans (show rnd kk ww (a, b, c', d, e, f, g, h) = (IntKind.u32.wrap (T1 + T2), a, b, c', IntKind.u32.wrap (d + T1), e, f, g) by rw [← hT1, ← hT2]; rfl))
              unfold t1I add32 xor32 and32 not32 at hT1
              unfold t2I add32 xor32 and32 at hT2
              rw [hT1, hT2]
              clear hT1 hT2
              obtain ⟨w8, hW8, HS8⟩ : ∃ w8, w7.setRow gg #[.int .u32 (IntKind.u32.wrap (T1 + T2)), .int .u32 a, .int .u32 b, .int .u32 c', .int .u32 (IntKind.u32.wrap (d + T1)), .int .u32 e, .int .u32 f, .int .u32 g] = w8 ∧ Aside0 (Mb w w8 gg s (IntKind.u32.wrap (T1 + T2), a, b, c', IntKind.u32.wrap (d + T1), e, f, g) xs) := ⟨_, rfl, ⟨HS.out.row (IntKind.u32.wrap (T1 + T2), a, b, c', IntKind.u32.wrap (d + T1), e, f, g)⟩⟩
              go_wp2_with (first | (refine wpList_store_row rfl 67 (.tmp 13) (.tmp 166) rfl gg #[.int .u32 (IntKind.u32.wrap (T1 + T2)), .int .u32 a, .int .u32 b, .int .u32 c', .int .u32 (IntKind.u32.wrap (d + T1)), .int .u32 e, .int .u32 f, .int .u32 g] rfl rfl 67 _ HS.out.m infoS rfl (c8_one (IntKind.u32.wrap (T1 + T2), a, b, c', IntKind.u32.wrap (d + T1), e, f, g)) ?_; rw [hW8]))
              go_roundw
              case rel => exact ⟨k + 1, _, by omega, ⟨HN.out.symm⟩, by go_num, HS8⟩
              case measure => simp [intOf]; omega
            · obtain rfl : k = 64 := by omega
              clear hlt hk
              rw [show ((64 : Nat) : Int) = 64 from rfl]
              rw [← HRN.out] at HBLK
              clear HRN HY HR HRS hs
              generalize ((a, b, c', d, e, f, g, h) : S8) = r at HS HBLK
              go_wp2
              go_loopw [19] (fun i wb => ∃ k : Nat, k ≤ 8 ∧ i = .int .i64 (k : Int) ∧ Aside0 (Mb w wb gg s (mixW s r k) xs)) (fun i _ => 8 - (intOf i).toNat)
              case atStart => exact ⟨0, Nat.zero_le _, rfl, HS⟩
              case round =>
                clear HS
                obtain ⟨wc, rfl⟩ : ∃ wc, wc = wr := ⟨_, rfl⟩
                obtain ⟨k, hk, rfl, HS⟩ := hrel
                by_cases hlt : k < 8
                · have hk8 : (k : Int) < 8 := by omega
                  have HN := Aside0.mk (show mixW s r (k + 1) = setW (mixW s r k) k (IntKind.u32.wrap (wd (mixW s r k) k + wd s k)) from rfl)
                  generalize mixW s r k = m at HS HN
                  have HL := Aside0.mk (show ∀ w' : World, w'.heap = wc.heap → w'.cell? ⟨gg, k, none⟩ = some (.int .u32 (wd m k)) ∧ w'.cell? ⟨w.heap.size, k, none⟩ = some (.int .u32 (wd s k)) from fun w' hh =>
                    ⟨(cell_of (show w'.heap[gg]? = _ by rw [hh]; exact HS.out.m)).2 (c8_wd m k hlt), (cell_of (show w'.heap[w.heap.size]? = _ by rw [hh]; exact HS.out.rb.s)).2 (c8_wd s k hlt)⟩)
                  generalize hv0 : wd m k = v0 at HL HN
                  generalize wd s k = v1 at HL HN
                  have hS0 : wc.drew.heap = wc.heap := rfl
                  go_upto_region 25 with (fail)
                  refine start_ (n := 10) (S := fun w' => w'.heap = wc.heap) (ds := [9]) #[false, false, false, false, false, false, false, false, false, false] (by kernel_rfl) rfl rfl (by exact hS0) (fun hHeld => ?_)
                  refine with_tabW rb_tab25 rb_bits25 (fun HT_ HW_ => ?_)
                  refine pure_ (i := 0) (N := some 171) (v := ?_) (a' := ?_) #[true, false, false, false, false, false, false, false, false, false] rfl rfl (any_of HT_.out (by kernel_rfl)) (fun _ _ _ h => h) (Or.inl ⟨by rfl, ?_⟩) ?_ ?_
                  rotate_left
                  · intro w'
                    go_simp
                    with_reducible rfl
                  rotate_left
                  · simp only [Act.put, List.setIfInBounds_toArray, List.set_cons_zero, List.set_cons_succ, i64_w, i32_w]
                    rfl
                  refine pure_ (i := 1) (N := some 172) (v := ?_) (a' := ?_) #[true, true, false, false, false, false, false, false, false, false] rfl rfl (any_of HT_.out (by kernel_rfl)) (fun _ _ _ h => h) (Or.inl ⟨by rfl, ?_⟩) ?_ ?_
                  rotate_left
                  · intro w'
                    go_simp
                    with_reducible rfl
                  rotate_left
                  · simp only [Act.put, List.setIfInBounds_toArray, List.set_cons_zero, List.set_cons_succ, i64_w, i32_w]
                    rfl
                  refine pure_ (i := 2) (N := some 173) (v := ?_) (a' := ?_) #[true, true, true, false, false, false, false, false, false, false] rfl rfl (any_of HT_.out (by kernel_rfl)) (fun _ _ _ h => h) (Or.inl ⟨by rfl, ?_⟩) ?_ ?_
                  rotate_left
                  · intro w'
                    go_simp
                    with_reducible rfl
                  rotate_left
                  · simp only [Act.put, List.setIfInBounds_toArray, List.set_cons_zero, List.set_cons_succ, i64_w, i32_w]
                    rfl
                  refine take_ (i := 3) (N := some 174) (v := ?_) (a' := ?_) #[true, true, true, true, false, false, false, false, false, false] rfl rfl (take_ofW HT_.out HW_.out (by kernel_rfl)) (fun _ _ _ h => h) (Or.inl ⟨by rfl, ?_⟩) hHeld ?_ ?_
                  rotate_left
                  · intro w' hSt
                    have hx := (HL.out w' hSt).1
                    go_simp
                    with_reducible rfl
                  rotate_left
                  · simp only [Act.put, List.setIfInBounds_toArray, List.set_cons_zero, List.set_cons_succ, i64_w, i32_w]
                    rfl
                  refine pure_ (i := 4) (N := some 175) (v := ?_) (a' := ?_) #[true, true, true, true, true, false, false, false, false, false] rfl rfl (any_of HT_.out (by kernel_rfl)) (fun _ _ _ h => h) (Or.inl ⟨by rfl, ?_⟩) ?_ ?_
                  rotate_left
                  · intro w'
                    go_simp
                    with_reducible rfl
                  rotate_left
                  · simp only [Act.put, List.setIfInBounds_toArray, List.set_cons_zero, List.set_cons_succ, i64_w, i32_w]
                    rfl
                  refine pure_ (i := 5) (N := some 176) (v := ?_) (a' := ?_) #[true, true, true, true, true, true, false, false, false, false] rfl rfl (any_of HT_.out (by kernel_rfl)) (fun _ _ _ h => h) (Or.inl ⟨by rfl, ?_⟩) ?_ ?_
                  rotate_left
                  · intro w'
                    go_simp
                    with_reducible rfl
                  rotate_left
                  · simp only [Act.put, List.setIfInBounds_toArray, List.set_cons_zero, List.set_cons_succ, i64_w, i32_w]
                    rfl
                  refine take_ (i := 6) (N := some 177) (v := ?_) (a' := ?_) #[true, true, true, true, true, true, true, false, false, false] rfl rfl (take_ofW HT_.out HW_.out (by kernel_rfl)) (fun _ _ _ h => h) (Or.inl ⟨by rfl, ?_⟩) hHeld ?_ ?_
                  rotate_left
                  · intro w' hSt
                    have hx := (HL.out w' hSt).2
                    go_simp
                    with_reducible rfl
                  rotate_left
                  · simp only [Act.put, List.setIfInBounds_toArray, List.set_cons_zero, List.set_cons_succ, i64_w, i32_w]
                    rfl
                  refine pure_ (i := 7) (N := some 178) (v := ?_) (a' := ?_) #[true, true, true, true, true, true, true, true, false, false] rfl rfl (any_of HT_.out (by kernel_rfl)) (fun _ _ _ h => h) (Or.inl ⟨by rfl, ?_⟩) ?_ ?_
                  rotate_left
                  · intro w'
                    go_simp
                    with_reducible rfl
                  rotate_left
                  · simp only [Act.put, List.setIfInBounds_toArray, List.set_cons_zero, List.set_cons_succ, i64_w, i32_w]
                    rfl
                  refine pure_ (i := 8) (N := some 179) (v := ?_) (a' := ?_) #[true, true, true, true, true, true, true, true, true, false] rfl rfl (any_of HT_.out (by kernel_rfl)) (fun _ _ _ h => h) (Or.inl ⟨by rfl, ?_⟩) ?_ ?_
                  rotate_left
                  · intro w'
                    go_simp
                    with_reducible rfl
                  rotate_left
                  · simp only [Act.put, List.setIfInBounds_toArray, List.set_cons_zero, List.set_cons_succ, i64_w, i32_w]
                    rfl
                  refine last_ (i := 9) (N := none) #[true, true, true, true, true, true, true, true, true, true] rfl rfl (one_of HT_.out (by kernel_rfl)) (by decide) (fun K hK => ?_)
                  have hx := (cell_of HS.out.drew.m).2 (c8_wd m k (by omega))
                  have hf := HS.out.drew.frozen k
                  go_simp
                  refine hK.out _ _ ?_
                  clear hK K
                  refine norm_ (a' := ?_) ?_ ?_
                  rotate_left
                  · first
                    | (show Act.put _ none _ = _; simp only [Act.put, List.setIfInBounds_toArray, List.set_cons_zero, List.set_cons_succ, i64_w, i32_w]; rfl)
                    | rfl
                  refine done_ (done_of HT_.out (by kernel_rfl)) ?_
                  replace HS := Aside0.mk ((HS.out.set k hlt (IntKind.u32.wrap (v0 + v1))).drew)
                  rw [← HN.out] at HS
                  clear HN hS0 HL
                  generalize (wc.setCell _ _).drew = w5 at HS ⊢
                  go_wp2
                  go_roundw
                  case rel => exact ⟨k + 1, by omega, by go_num, HS⟩
                  case measure => simp [intOf]; omega
                · obtain rfl : k = 8 := by omega
                  clear hlt hk
                  rw [← HBLK.out] at HS
                  rw [show ((8 : Nat) : Int) = 8 from rfl]
                  clear HBLK
                  go_wp2_with (first | (refine wpList_load_row rfl 67 (.tmp 13) rfl gg rfl 67 (c8 R) (0, 0) _ HS.out.m Tryd.underlying67 rfl infoS ?_) | (refine wpList_store_row rfl 67 (.tmp 6) (.tmp 180) rfl (w.heap.size + 1 + 1) (c8 R) rfl rfl 67 _ HS.out.rb.z infoS rfl (c8_one _) ?_))
                  have HF := Aside0.mk (setRow_heap _ _ _ (c8 R) _ _ HS.out.rb.z)
                  have HB := Aside0.mk (below_setRow HS.out.rb.b (show w.heap.size ≤ w.heap.size + 1 + 1 by omega) (c8 R))
                  (try simp only [Exit.inBlock, Exit.then])
                  refine bodyPost_ret (results_cell_row rfl _ _ (w.heap.size + 1 + 1) 67 (c8 R) (0, 0) _ rfl HF.out Tryd.underlying67 rfl infoS) rfl ?_
                  exact ⟨rfl, HB.out⟩
end Go.Proofs.YtoiblfmlahedlaaDoor.Ref
end
section
namespace Go.Proofs.YtoiblfmlahedlaaDoor.Ref
open Go.RowKit Go.Proofs.YtoiblfmlahedlaaDoorW.PrintWords Go.Proofs.YtoiblfmlahedlaaDoorW.PrintLast Go.Proofs.YtoiblfmlahedlaaDoorW.PrintMore
set_option linter.unusedVariables false
set_option linter.unusedSimpArgs false
set_option maxRecDepth 100000
open Go.Proofs.YtoiblfmlahedlaaDoor.Sha
theorem rd_get {l m : List Int} {i : Nat} (h : l[i]? = m[i]?) : rd l (i : Int) = rd m (i : Int) := by
  unfold rd
  rw [List.getD_eq_getElem?_getD, List.getD_eq_getElem?_getD, Int.toNat_natCast, h]
theorem ld_congr {l m : List Int} (h : ∀ i : Nat, i < 64 → l[i]? = m[i]?) : ∀ t, t ≤ 16 → ld l t = ld m t
  | 0, _ => rfl
  | t + 1, ht => by
    unfold ld
    rw [ld_congr h t (by omega), rd_get (h (4 * t) (by omega)), rd_get (h (4 * t + 1) (by omega)), rd_get (h (4 * t + 2) (by omega)), rd_get (h (4 * t + 3) (by omega))]
theorem sch_congr {l m : List Int} (h : ld l 16 = ld m 16) (n : Nat) : sch l n = sch m n := by
  induction n with
  | zero => exact h
  | succ n ih => unfold sch; rw [ih]
theorem blockI_get (s : S8) {l m : List Int} (h : ∀ i : Nat, i < 64 → l[i]? = m[i]?) : blockI s l = blockI s m := by
  unfold blockI
  rw [sch_congr (ld_congr h 16 (Nat.le_refl _))]
theorem padL_eq (l : List Int) : padL l = l.take (64 * (l.length / 64)) ++ tailL l := by
  unfold padL tailL
  simp only [← List.append_assoc, List.take_append_drop]
theorem blocks_low (s : S8) (l : List Int) : ∀ k, k ≤ l.length / 64 → blocksI s (padL l) k = blocksI s l k
  | 0, _ => rfl
  | k + 1, hk => by
    unfold blocksI
    rw [blocks_low s l k (by omega)]
    refine blockI_get _ (fun i hi => ?_)
    rw [List.getElem?_drop, List.getElem?_drop]
    unfold padL
    rw [List.append_assoc, List.append_assoc, List.getElem?_append_left (by omega)]
theorem blocks_high (s : S8) (l : List Int) : ∀ j, blocksI s (padL l) (l.length / 64 + j) = blocksI (blocksI s l (l.length / 64)) (tailL l) j
  | 0 => blocks_low s l _ (Nat.le_refl _)
  | j + 1 => by
    show blockI (blocksI s (padL l) (l.length / 64 + j)) ((padL l).drop (64 * (l.length / 64 + j))) = blockI (blocksI _ (tailL l) j) ((tailL l).drop (64 * j))
    rw [blocks_high s l j, padL_eq, Nat.mul_add, ← List.drop_drop, List.drop_left' (by rw [List.length_take]; omega)]
theorem shaR (l : List Int) : shaI l = outs (blocksI fS (padL l) ((padL l).length / 64)) 32 := by
  have h : (padL l).length / 64 = l.length / 64 + (tailL l).length / 64 := by
    rw [padL_eq, List.length_append, List.length_take]
    omega
  rw [h, blocks_high]
  rfl
theorem blocks_rng {s : S8} (h : rng8 s) (l : List Int) : ∀ k, rng8 (blocksI s l k)
  | 0 => h
  | _ + 1 => mix_rng _ _
theorem infoKT : (Tryd.prog.info? 68).map (·.size) = some (cw kTab).size := by kernel_rfl
structure Sr (w0 w : World) (d : List Int) (s : S8) : Prop where
  s : w.heap[w0.heap.size]? = some (.cells (c8 s) 67 (0, 0))
  k : w.heap[w0.heap.size + 1]? = some (.cells (cw kTab) 68 (0, 0))
  d : w.heap[w0.heap.size + 1 + 1]? = some (.cells (cb d) 31 (0, 0))
  b : Below w0.heap.size w0 w
theorem Sr.below {w0 w w' : World} {d : List Int} {s : S8} (h : Sr w0 w d s) (hb : Below w.heap.size w w') : Sr w0 w' d s := ⟨heap_keep h.s hb, heap_keep h.k hb, heap_keep h.d hb, below_step h.b hb⟩
theorem Sr.drew {w0 w : World} {d : List Int} {s : S8} (h : Sr w0 w d s) : Sr w0 w.drew d s := ⟨h.s, h.k, h.d, below_drew1 h.b⟩
theorem Sr.row {w0 w : World} {d : List Int} {s : S8} (h : Sr w0 w d s) (r : S8) : Sr w0 (w.setRow w0.heap.size (c8 r)) d r :=
  ⟨setRow_heap _ _ _ _ _ _ h.s, (setRow_other _ _ _ _ (by omega)).trans h.k, (setRow_other _ _ _ _ (by omega)).trans h.d, below_setRow h.b (Nat.le_refl _) _⟩
theorem Sr.far {w0 w : World} {d : List Int} {s : S8} (h : Sr w0 w d s) (g j : Nat) (hg : w0.heap.size + 1 + 1 < g) (v : Value) : Sr w0 (w.setCell ⟨g, j, none⟩ v) d s :=
  ⟨blk_far h.s (p := ⟨g, j, none⟩) (by show _ ≠ g; omega) _, blk_far h.k (p := ⟨g, j, none⟩) (by show _ ≠ g; omega) _, blk_far h.d (p := ⟨g, j, none⟩) (by show _ ≠ g; omega) _, h.b.setCell (p := ⟨g, j, none⟩) (by show w0.heap.size ≤ g; omega) _⟩
theorem Sr.start (w : World) (s : S8) : Sr w (((w.alloc (.cells (c8 s) 67)).alloc (.cells (cw kTab) 68)).alloc (.cells (cb (List.replicate 32 0)) 31)) (List.replicate 32 0) s :=
  ⟨by rw [Below.heap_alloc _ _ _ (by first | (simp; done) | (simp; omega)), Below.heap_alloc _ _ _ (by first | (simp; done) | (simp; omega))]; exact Sha.heap_new _ _, by rw [Below.heap_alloc _ _ _ (by first | (simp; done) | (simp; omega))]; exact Sha.heap_new' _ _ _ (by simp), Sha.heap_new' _ _ _ (by simp), (((Below.refl w.heap.size w).alloc (Nat.le_refl _) _).alloc (by first | (simp; done) | (simp; omega)) _).alloc (by first | (simp; done) | (simp; omega)) _⟩
structure So (w0 w : World) (gg : Nat) (o : List Int) (s : S8) : Prop where
  r : Sr w0 w (List.replicate 32 0) s
  o : w.heap[gg]? = some (.cells (cb o) 31 (0, 0))
  lt : w0.heap.size + 1 + 1 < gg
theorem So.set {w0 w : World} {gg : Nat} {o : List Int} {s : S8} (h : So w0 w gg o s) (j : Nat) (x : Int) : So w0 (w.setCell ⟨gg, j, none⟩ (.int .u8 x)) gg (o.set j x) s :=
  ⟨h.r.far gg j h.lt _, by rw [← cb_set]; exact blk_set h.o j _, h.lt⟩
theorem So.start {w0 w : World} {s : S8} (h : Sr w0 w (List.replicate 32 0) s) : So w0 (w.alloc (.cells (cb (List.replicate 32 0)) 31)) w.heap.size (List.replicate 32 0) s :=
  ⟨h.below ((Below.refl w.heap.size w).alloc (Nat.le_refl _) _), heap_new _ _, (Array.getElem?_eq_some_iff.1 h.d).1⟩
def rs_T5 : Bool × List (List Nat × List Nat) := (true, [([], []), ([], []), ([], []), ([], []), ([], []), ([4], [4]), ([2, 3, 5], [2, 3, 5]), ([0, 1, 6], [0, 1, 6]), ([7, 7, 0, 1, 2, 3, 4, 5, 6, 7], [7])])
def rs_B5 : List Nat := [0, 0, 0, 0, 0, 16, 60, 127, 255]
theorem rs_tab5 : rtab .any (opsOf Tryd.f54 5) = rs_T5 := by kernel_rfl
theorem rs_bits5 : waitsOk rs_T5.2 rs_B5 = true := by kernel_rfl
set_option maxHeartbeats 3200000 in
set_option maxRecDepth 100000 in
theorem rsum_calls (s : S8) (hs : rng8 s) (A : Option Addr) (c : Nat) (l : List Int) (w : World) (hr : B.C w A l.length l) (hc : l.length ≤ c) (hb : Sha.bytes l) (hl : l.length < 100000000) :
    Calls Tryd.prog 54 #[v8 s, .agg (cw kTab), .slice A l.length c] w fun e w' => e = .returned (vd (outs (blocksI s (padL l) ((padL l).length / 64)) 32)) ∧ Below w.heap.size w w' := by
  have HR := Aside0.mk hr
  have HY := Aside0.mk (padL_bytes hb)
  have HRS := Aside0.mk hs
  have HPM := Aside0.mk (padL_mod l)
  have HPL := Aside0.mk (show (padL l).length ≤ l.length + 100 by rw [padL_len]; unfold zerosN; omega)
  have HPC := Aside0.mk (fun w' hw => padded_calls A c l w' hw hc hl)
  clear hr hb hs
  generalize hRz : outs (blocksI s (padL l) ((padL l).length / 64)) 32 = D
  have HRZ := Aside0.mk hRz
  clear hRz
  obtain ⟨s0, s1, s2, s3, s4, s5, s6, s7⟩ := s
  have HST := Aside0.mk (Sr.start w (s0, s1, s2, s3, s4, s5, s6, s7))
  have HKA := Aside0.mk (show (cw kTab).size = 64 from by kernel_rfl)
  generalize hKT : cw kTab = KT at HST HKA ⊢
  go_enter Tryd.func54, Tryd.ntmps54
  go_upto_region 1 with (fail)
  subst hKT
  obtain ⟨w1, hw1, HS⟩ : ∃ w1, ((w.alloc (.cells (c8 (s0, s1, s2, s3, s4, s5, s6, s7)) 67)).alloc (.cells (cw kTab) 68)).alloc (.cells (cb (List.replicate 32 0)) 31) = w1 ∧ Aside0 (Sr w w1 (List.replicate 32 0) (s0, s1, s2, s3, s4, s5, s6, s7)) := ⟨_, rfl, HST⟩
  have hw1' : ((w.alloc (.cells #[.int .u32 s0, .int .u32 s1, .int .u32 s2, .int .u32 s3, .int .u32 s4, .int .u32 s5, .int .u32 s6, .int .u32 s7] 67)).alloc (.cells (cw kTab) 68)).alloc (.cells #[.int .u8 0, .int .u8 0, .int .u8 0, .int .u8 0, .int .u8 0, .int .u8 0, .int .u8 0, .int .u8 0, .int .u8 0, .int .u8 0, .int .u8 0, .int .u8 0, .int .u8 0, .int .u8 0, .int .u8 0, .int .u8 0, .int .u8 0, .int .u8 0, .int .u8 0, .int .u8 0, .int .u8 0, .int .u8 0, .int .u8 0, .int .u8 0, .int .u8 0, .int .u8 0, .int .u8 0, .int .u8 0, .int .u8 0, .int .u8 0, .int .u8 0, .int .u8 0] 31) = w1 := hw1
  first | rw [hw1'] | rw [hw1]
  clear hw1 hw1' HST
  generalize hs : ((s0, s1, s2, s3, s4, s5, s6, s7) : S8) = s at HS HRS HRZ ⊢
  clear hs
  go_wp2_with fail
  refine (HPC.out _ (Kd.C_below HR.out HS.out.b)).mono ?_
  rintro e w2 ⟨v, rfl, hP, hb⟩
  have hlo : w.heap.size + 1 + 1 < w1.heap.size := (Array.getElem?_eq_some_iff.1 HS.out.d).1
  replace HS := Aside0.mk (HS.out.below hb)
  clear hb HPC
  generalize padL l = p at *
  obtain ⟨A5, c5, rfl, hc5, hr5⟩ := Kd.R_reads hP
  have HRW := Aside0.mk (Rw.of hP)
  generalize w2.heap.size = hi at HRW
  generalize w1.heap.size = lo at HRW hlo
  clear hr5 hP HR
  have HLO := Aside0.mk hlo
  have hp63 : p.length ≤ l.length + 100 := HPL.out
  clear hlo HPL
  obtain ⟨n, hn⟩ : ∃ n, p.length / 64 = n := ⟨_, rfl⟩
  have HPN := Aside0.mk (show p.length = 64 * n by have := HPM.out; omega)
  have HNN := Aside0.mk hn
  clear hn HPM
  go_wp2
  go_loopw [8] (fun i wr => ∃ k q : Nat, k ≤ n ∧ Aside0 (q = 64 * k) ∧ i = .int .i64 (q : Int) ∧ Aside0 (Sr w wr (List.replicate 32 0) (blocksI s p k)) ∧ Aside0 (Rw wr A5 p lo hi)) (fun i _ => p.length + 100 - (intOf i).toNat)
  case atStart => exact ⟨0, 0, Nat.zero_le _, ⟨rfl⟩, rfl, HS, HRW⟩
  case round =>
    clear HS HRW
    obtain ⟨k, q, hk, HQ, rfl, HS, HRW⟩ := hrel
    by_cases hlt : k < n
    · have hqp : q < p.length := by have := HQ.out; have := HPN.out; omega
      obtain ⟨q2, hq2⟩ : ∃ q2, q2 = q + 64 := ⟨_, rfl⟩
      have hq2p : q2 ≤ p.length := by have := HQ.out; have := HPN.out; omega
      have HW := Aside0.mk (show IntKind.i64.wrap ((q : Int) + 64) = (q2 : Int) by simp [IntKind.wrap, IntKind.bits, IntKind.signed]; omega)
      have HQ2 := Aside0.mk (show q2 = 64 * (k + 1) by have := HQ.out; omega)
      obtain ⟨A2, c2, hcut, hcc, hc2⟩ := midB A5 c5 p q q2 (by omega) hq2p hc5
      have HCUT := Aside0.mk hcut
      have HCC := Aside0.mk hcc
      have HML := Aside0.mk (show 64 ≤ ((p.take q2).drop q).length by rw [List.length_drop, List.length_take]; omega)
      have HMB := Aside0.mk (show Sha.bytes ((p.take q2).drop q) from fun x hx => HY.out x (List.mem_of_mem_take (List.mem_of_mem_drop hx)))
      have HBK := Aside0.mk (show blocksI s p (k + 1) = blockI (blocksI s p k) ((p.take q2).drop q) by
        rw [show blocksI s p (k + 1) = blockI (blocksI s p k) (p.drop (64 * k)) from rfl, ← HQ.out]
        refine blockI_get _ (fun i hi => ?_)
        rw [List.getElem?_drop, List.getElem?_drop, List.getElem?_take, if_pos (by omega)])
      have HRR := Aside0.mk (blocks_rng HRS.out p k)
      have H2 := Aside0.mk hq2
      clear hcut hcc hq2
      generalize (p.take q2).drop q = m at *
      generalize blocksI s p k = r at HS HBK HRR
      have hS0 : wr.drew.heap = wr.heap := rfl
      go_upto_region 5 with (fail)
      refine start_ (n := 9) (S := fun w' => w'.heap = wr.heap) (ds := [7,8]) #[false, false, false, false, false, false, false, false, false] (by kernel_rfl) rfl rfl (by exact hS0) (fun hHeld => ?_)
      refine with_tabW rs_tab5 rs_bits5 (fun HT_ HW_ => ?_)
      refine take_ (i := 0) (N := some 19) (v := ?_) (a' := ?_) #[true, false, false, false, false, false, false, false, false] rfl rfl (take_ofW HT_.out HW_.out (by kernel_rfl)) (fun _ _ _ h => h) (Or.inl ⟨by rfl, ?_⟩) hHeld ?_ ?_
      rotate_left
      · intro w' hSt
        refine (exec_load (p := .pointer (some ⟨w.heap.size, 0, none⟩)) rfl rfl (loadRow_take _ _ _ (c8 r) _ (by rw [hSt]; exact HS.out.s) Tryd.underlying67 rfl infoS)).trans ?_
        with_reducible rfl
      rotate_left
      · simp only [Act.put, List.setIfInBounds_toArray, List.set_cons_zero, List.set_cons_succ, i64_w, i32_w]
        rfl
      refine take_ (i := 1) (N := some 20) (v := ?_) (a' := ?_) #[true, true, false, false, false, false, false, false, false] rfl rfl (take_ofW HT_.out HW_.out (by kernel_rfl)) (fun _ _ _ h => h) (Or.inl ⟨by rfl, ?_⟩) hHeld ?_ ?_
      rotate_left
      · intro w' hSt
        refine (exec_load (p := .pointer (some ⟨w.heap.size + 1, 0, none⟩)) rfl rfl (loadRow_take _ _ _ _ _ (by rw [hSt]; exact HS.out.k) Tryd.underlying68 rfl infoKT)).trans ?_
        with_reducible rfl
      rotate_left
      · simp only [Act.put, List.setIfInBounds_toArray, List.set_cons_zero, List.set_cons_succ, i64_w, i32_w]
        rfl
      refine pure_ (i := 2) (N := some 21) (v := ?_) (a' := ?_) #[true, true, true, false, false, false, false, false, false] rfl rfl (any_of HT_.out (by kernel_rfl)) (fun _ _ _ h => h) (Or.inl ⟨by rfl, ?_⟩) ?_ ?_
      rotate_left
      · intro w'
        go_simp
        with_reducible rfl
      rotate_left
      · simp only [Act.put, List.setIfInBounds_toArray, List.set_cons_zero, List.set_cons_succ, i64_w, i32_w]
        rfl
      refine pure_ (i := 3) (N := some 22) (v := ?_) (a' := ?_) #[true, true, true, true, false, false, false, false, false] rfl rfl (any_of HT_.out (by kernel_rfl)) (fun _ _ _ h => h) (Or.inl ⟨by rfl, ?_⟩) ?_ ?_
      rotate_left
      · intro w'
        go_simp
        with_reducible rfl
      rotate_left
      · simp only [Act.put, List.setIfInBounds_toArray, List.set_cons_zero, List.set_cons_succ, i64_w, i32_w]
        rfl
      refine pure_ (i := 4) (N := some 23) (v := ?_) (a' := ?_) #[true, true, true, true, true, false, false, false, false] rfl rfl (any_of HT_.out (by kernel_rfl)) (fun _ _ _ h => h) (Or.inl ⟨by rfl, ?_⟩) ?_ ?_
      rotate_left
      · intro w'
        go_simp
        with_reducible rfl
      rotate_left
      · simp only [Act.put, List.setIfInBounds_toArray, List.set_cons_zero, List.set_cons_succ, i64_w, i32_w]
        rfl
      refine pure_ (i := 5) (N := some 24) (v := ?_) (a' := ?_) #[true, true, true, true, true, true, false, false, false] rfl rfl (any_of HT_.out (by kernel_rfl)) (fun _ _ _ h => h) (Or.inl ⟨by rfl, ?_⟩) ?_ ?_
      rotate_left
      · intro w'
        go_simp
        rw [HW.out]
      rotate_left
      · simp only [Act.put, List.setIfInBounds_toArray, List.set_cons_zero, List.set_cons_succ, i64_w, i32_w]
        rfl
      refine pure_ (i := 6) (N := some 25) (v := ?_) (a' := ?_) #[true, true, true, true, true, true, true, false, false] rfl rfl (any_of HT_.out (by kernel_rfl)) (fun _ _ _ h => h) (Or.inl ⟨by rfl, ?_⟩) ?_ ?_
      rotate_left
      · intro w'
        have hcut := HCUT.out
        go_simp
        with_reducible rfl
      rotate_left
      · simp only [Act.put, List.setIfInBounds_toArray, List.set_cons_zero, List.set_cons_succ, i64_w, i32_w]
        rfl
      refine last_ (i := 7) (N := some 26) #[true, true, true, true, true, true, true, true, false] rfl rfl (one_of HT_.out (by kernel_rfl)) (by decide) (fun K hK => ?_)
      refine goes_ Tryd.func78 (by kernel_rfl) rfl #[v8 r, .agg (cw kTab), .slice A2 m.length c2] (by rfl) rfl rfl (by (try simp only [List.map_toArray, List.map_cons, List.map_nil]); first | done | rfl) ?_
      refine (block_calls r HRR.out A2 c2 m _ (HCC.out _ (HRW.out.below (below_drew1 (Below.refl _ _))).C) hc2 HMB.out HML.out).mono ?_
      rintro e w3 ⟨rfl, hb⟩
      refine ⟨_, rfl, ?_⟩
      rw [← HBK.out]
      replace HS := Aside0.mk ((HS.out.drew).below hb)
      replace HRW := Aside0.mk ((HRW.out.below (below_drew1 (Below.refl _ _))).below hb)
      refine hK.out _ _ ?_
      clear hK K
      refine norm_ (a' := ?_) ?_ ?_
      rotate_left
      · first
        | (show Act.put _ (some 26) _ = _; simp only [Act.put, List.setIfInBounds_toArray, List.set_cons_zero, List.set_cons_succ, i64_w, i32_w]; rfl)
        | rfl
      refine last_ (i := 8) (N := none) #[true, true, true, true, true, true, true, true, true] rfl rfl (one_of HT_.out (by kernel_rfl)) (by decide) (fun K hK => ?_)
      refine storeRow_step (by rfl) 67 (.tmp 3) (.tmp 26) rfl w.heap.size (c8 (blocksI s p (k + 1))) rfl rfl 67 _ HS.out.s infoS rfl (c8_one _) ?_
      refine hK.out _ _ ?_
      clear hK K
      refine norm_ (a' := ?_) ?_ ?_
      rotate_left
      · first
        | (show Act.put _ none _ = _; simp only [Act.put, List.setIfInBounds_toArray, List.set_cons_zero, List.set_cons_succ, i64_w, i32_w]; rfl)
        | rfl
      refine done_ (done_of HT_.out (by kernel_rfl)) ?_
      clear hS0 hHeld HT_ HW_
      replace HS := Aside0.mk (HS.out.row (blocksI s p (k + 1)))
      replace HRW := Aside0.mk (HRW.out.row w.heap.size (c8 (blocksI s p (k + 1))) (by have := HLO.out; omega))
      clear HBK HRR HMB HML HCC HCUT HW
      generalize World.setRow _ _ _ = w7 at HS HRW ⊢
      go_wp2
      go_roundw
      case rel => exact ⟨k + 1, q2, by omega, HQ2, by rw [H2.out]; go_num, HS, HRW⟩
      case measure => simp [intOf]; have := H2.out; omega
    · obtain rfl : k = n := by omega
      have hqp : q = p.length := by have := HQ.out; have := HPN.out; omega
      have e1 : ¬ q < p.length := by omega
      have HE := Aside0.mk (show outs (blocksI s p k) 32 = D by rw [← HRZ.out, HNN.out])
      generalize blocksI s p k = r at HS HE
      clear hlt hk hqp HRZ HRW HNN HPN HQ HRS HY
      go_upto_region 7 with (fail)
      obtain ⟨w9, hw9, HSO⟩ : ∃ w9, wr.alloc (.cells #[.int .u8 0, .int .u8 0, .int .u8 0, .int .u8 0, .int .u8 0, .int .u8 0, .int .u8 0, .int .u8 0, .int .u8 0, .int .u8 0, .int .u8 0, .int .u8 0, .int .u8 0, .int .u8 0, .int .u8 0, .int .u8 0, .int .u8 0, .int .u8 0, .int .u8 0, .int .u8 0, .int .u8 0, .int .u8 0, .int .u8 0, .int .u8 0, .int .u8 0, .int .u8 0, .int .u8 0, .int .u8 0, .int .u8 0, .int .u8 0, .int .u8 0, .int .u8 0] 31) = w9 ∧ Aside0 (So w w9 wr.heap.size (List.replicate 32 0) r) := ⟨_, rfl, ⟨So.start HS.out⟩⟩
      rw [hw9]
      generalize wr.heap.size = gg at HSO ⊢
      clear hw9 HS e1
      go_wp2
      go_loopw [10] (fun i wr => ∃ k : Nat, k ≤ 32 ∧ i = .int .i64 (k : Int) ∧ Aside0 (So w wr gg (outs r k) r)) (fun i _ => 32 - (intOf i).toNat)
      case atStart => exact ⟨0, Nat.zero_le _, rfl, HSO⟩
      case round =>
        clear HSO
        obtain ⟨j, hj, rfl, HS⟩ := hrel
        by_cases hlt : j < 32
        · have hk32 : (j : Int) < 32 := by omega
          have HN := Aside0.mk (show outs r (j + 1) = (outs r j).set j (byteI r j) from rfl)
          have HV := Aside0.mk (show byteI r j = IntKind.u8.wrap (wd r (j / 4) / 2 ^ (24 - 8 * (j % 4))) from rfl)
          generalize byteI r j = bv at HN HV
          obtain ⟨q1, hq0⟩ : ∃ q, q = j / 4 := ⟨_, rfl⟩
          obtain ⟨m, hm0⟩ : ∃ m, m = j % 4 := ⟨_, rfl⟩
          obtain ⟨a, ha0⟩ : ∃ a, a = 24 - 8 * m := ⟨_, rfl⟩
          rw [← hq0, ← hm0, ← ha0] at HV
          have hq : (j : Int) / 4 = (q1 : Int) := by omega
          have hm : (j : Int) % 4 = (m : Int) := by omega
          have hm3 : m ≤ 3 := by omega
          have hq8 : (q1 : Int) < 8 := by omega
          have ha : 24 - 8 * (m : Int) = (a : Int) := by omega
          have hx := (cell_of HS.out.r.s).2 (c8_wd r q1 (by omega))
          have hd := (cell_of HS.out.o).2 (cb_get (xs := outs r j) (j := j) (by rw [outs_len]; omega))
          have hf : wr.frozen? ⟨gg, j, none⟩ = false := by simp [World.frozen?, HS.out.o]
          have ha24 : (a : Int) ≤ 32 := by omega
          have ha1 : a ≤ 32 := by omega
          generalize wd r q1 = v at HV hx
          generalize rd (outs r j) (j : Int) = dv at hd
          clear hq0 hm0 ha0
          go_wp2
          go_roundw
          case rel => exact ⟨j + 1, by omega, by go_num, ⟨by rw [HN.out, HV.out]; exact HS.out.set j _⟩⟩
          case measure => simp [intOf]; omega
        · obtain rfl : j = 32 := by omega
          clear hlt hj
          have hi : (Tryd.prog.info? 31).map (·.size) = some (cb (outs r 32)).size := infoDg _ (outs_len _ _)
          have hsz : (cb (List.replicate 32 0)).size = (cb (outs r 32)).size := by rw [cb_size, cb_size, outs_len]; simp
          rw [HE.out] at HS hi hsz
          have HI := Aside0.mk hi
          have HSZ := Aside0.mk hsz
          clear hi hsz
          rw [show ((32 : Nat) : Int) = 32 from rfl]
          go_wp2_with (first | (refine wpList_load_row rfl 31 (.tmp 9) rfl gg rfl 31 (cb D) (0, 0) _ HS.out.o Tryd.underlying31 rfl HI.out ?_) | (refine wpList_store_row rfl 31 (.tmp 6) (.tmp 44) rfl (w.heap.size + 1 + 1) (cb D) rfl rfl 31 _ HS.out.r.d HI.out HSZ.out (cb_one _) ?_))
          have HF := Aside0.mk (setRow_heap _ _ _ (cb D) _ _ HS.out.r.d)
          have HB := Aside0.mk (below_setRow HS.out.r.b (show w.heap.size ≤ w.heap.size + 1 + 1 by omega) (cb D))
          (try simp only [Exit.inBlock, Exit.then])
          refine bodyPost_ret (results_cell_row rfl _ _ (w.heap.size + 1 + 1) 31 (cb D) (0, 0) _ rfl HF.out Tryd.underlying31 rfl HI.out) rfl ?_
          exact ⟨rfl, HB.out⟩
end Go.Proofs.YtoiblfmlahedlaaDoor.Ref
end
section
namespace Go.Proofs.YtoiblfmlahedlaaDoor.Ref
open Go.RowKit Go.Proofs.YtoiblfmlahedlaaDoorW.PrintWords Go.Proofs.YtoiblfmlahedlaaDoorW.PrintLast Go.Proofs.YtoiblfmlahedlaaDoorW.PrintMore
set_option linter.unusedVariables false
set_option linter.unusedSimpArgs false
set_option maxRecDepth 100000
open Go.Proofs.YtoiblfmlahedlaaDoor.Sha
theorem rcount_calls (n : Nat) (w : World) (hn : n < 9223372036854775808) : Calls Tryd.prog 17 #[.int .i64 n] w fun e w' => e = .returned (.int .i64 (countN n)) ∧ w' = w := by
  by_cases h0 : n = 0
  · subst h0
    go_enter Tryd.func17, Tryd.ntmps17
    go_wp2
    go_ret
    exact ⟨rfl, rfl⟩
  · have h00 : ((n : Int) == 0) = false := by simp; omega
    have hm : (n : Int) % 64 = ((n % 64 : Nat) : Int) := by omega
    have hd : (n : Int) / 64 = ((n / 64 : Nat) : Int) := by omega
    by_cases h1 : n % 64 = 0
    · have HV := Aside0.mk (show countN n = n / 64 by unfold countN; omega)
      have e1 : ((((n % 64 : Nat)) : Int) == 0) = true := by rw [h1]; rfl
      have hq : n / 64 ≤ n := Nat.div_le_self _ _
      rw [HV.out]
      clear h1 HV
      generalize n % 64 = m at *
      generalize n / 64 = q at *
      go_enter Tryd.func17, Tryd.ntmps17
      go_wp2
      go_ret
      exact ⟨rfl, rfl⟩
    · have HV := Aside0.mk (show countN n = n / 64 + 1 by unfold countN; omega)
      have e1 : ((((n % 64 : Nat)) : Int) == 0) = false := by simp; omega
      have hq : n / 64 ≤ 144115188075855872 := by omega
      rw [HV.out]
      clear h1 HV
      generalize n % 64 = m at *
      generalize n / 64 = q at *
      go_enter Tryd.func17, Tryd.ntmps17
      go_wp2
      go_ret
      exact ⟨rfl, rfl⟩
theorem rsize_calls (n i : Nat) (w : World) (hn : n < 4611686018427387904) (hi : 64 * i ≤ n) : Calls Tryd.prog 45 #[.int .i64 n, .int .i64 i] w fun e w' => e = .returned (.int .i64 ((min (n - 64 * i) 64 : Nat) : Int)) ∧ w' = w := by
  obtain ⟨q, hq⟩ : ∃ q, q = 64 * i := ⟨_, rfl⟩
  obtain ⟨d, hd⟩ : ∃ d, d = n - 64 * i := ⟨_, rfl⟩
  rw [← hd]
  have h1 : 64 * (i : Int) = (q : Int) := by omega
  have h2 : (n : Int) - (q : Int) = (d : Int) := by omega
  have hqn : q ≤ n := by omega
  have hdn : d ≤ n := by omega
  clear hq hd hi
  by_cases h : 64 < d
  · have HV := Aside0.mk (show min d 64 = 64 by omega)
    rw [HV.out]
    have hi64 : (d : Int) > 64 := by omega
    clear HV
    go_enter Tryd.func45, Tryd.ntmps45
    go_wp2
    go_ret
    exact ⟨rfl, rfl⟩
  · have HV := Aside0.mk (show min d 64 = d by omega)
    rw [HV.out]
    have hi64 : ¬ (d : Int) > 64 := by omega
    clear HV
    go_enter Tryd.func45, Tryd.ntmps45
    go_wp2
    go_ret
    exact ⟨rfl, rfl⟩
set_option maxHeartbeats 1600000 in
set_option maxRecDepth 100000 in
theorem reight_calls (n : Nat) (w : World) (hn : n < 9223372036854775808) :
    Calls Tryd.prog 55 #[.int .i64 n] w fun e w' => ∃ v, e = .returned v ∧ Kd.R B 5 w' w.heap.size (fun _ => True) v (be8 n) ∧ Below w.heap.size w w' := by
  go_enter Tryd.func55, Tryd.ntmps55
  go_wp2
  go_loopw [3, 4] (fun v i wz => ∃ (q : Nat) (t2 : List Int) (A5 : Option Addr) (c5 : Nat), q ≤ 8 ∧ Aside0 (t2.length = q) ∧ Aside0 (t2 = [] ++ (be8 n).take q) ∧ v = .slice A5 t2.length c5 ∧ i = .int .i64 (7 - (q : Int)) ∧ Aside0 (Kd.R B 5 wz w.heap.size (fun _ => True) (.slice A5 t2.length c5) t2) ∧ Aside0 (Below w.heap.size w wz)) (fun v _ _ => 200 - slLen v)
  case atStart => exact ⟨0, [], none, 0, Nat.zero_le _, ⟨rfl⟩, ⟨rfl⟩, rfl, rfl, ⟨Kd.R_nil _ _ _ _ _⟩, ⟨Below.refl _ _⟩⟩
  case round =>
    obtain ⟨q, t2, A5, c5, hq, htl, HTE, rfl, rfl, HO, HB⟩ := hrel
    have hn64 : t2.length ≤ 8 := by have := htl.out; omega
    by_cases hlt : q < 8
    · obtain rfl | rfl | rfl | rfl | rfl | rfl | rfl | rfl : q = 0 ∨ q = 1 ∨ q = 2 ∨ q = 3 ∨ q = 4 ∨ q = 5 ∨ q = 6 ∨ q = 7 := by omega
      · rw [show (7 - ((0 : Nat) : Int)) = 7 from rfl]
        clear hlt hq
        go_wp2_with (first | ((with_reducible refine gate_builtin (b := .append) (xs := #[.tmp 9, .tmp 17]) rfl ?_); at_builtin; refine Kd.R_append_rows B (w0 := w) w.heap.size rfl (.tmp 9) (.tmp 17) 22 5 (.int .u8 0) 1 rfl Tryd.underlying22 info5 rfl (by decide) (by omega) _ (t2) ([_]) _ _ _ (fun _ => True) (fun _ => False) rfl rfl (by (with_reducible repeat (first | apply Kd.R_alloc | apply Kd.R_drewN | apply Kd.R_drew)); exact HO.out) (C_one wr _ _) (fun _ _ h => h) (fun _ h => h.elim) (fun _ _ => trivial) (HB.out.alloc HB.out.size _) (HB.out.alloc HB.out.size _).size ?aL ?_; (case aL => simp; omega); intro v2 w6 ho hb2 hg hat; have HO2 := Aside0.mk ho; have HB2 := Aside0.mk hb2; clear ho hb2 hg hat))
        have HT2 := Aside0.mk (be8_step HTE.out (show _ = some ((n : Int) / 72057594037927936 : Int) from congrArg some (show ((n / 72057594037927936 % 256 : Nat) : Int) = (n : Int) / 72057594037927936 by omega)))
        have htl2 := Aside0.mk (show (t2 ++ [((n : Int) / 72057594037927936 : Int)]).length = 1 by rw [List.length_append, htl.out]; rfl)
        have hts : (t2 ++ [((n : Int) / 72057594037927936 : Int)]).length = t2.length + 1 := by simp
        generalize t2 ++ [((n : Int) / 72057594037927936 : Int)] = t3 at *
        obtain ⟨A6, c6, rfl, hc6, hr6⟩ := Kd.R_reads HO2.out
        clear hr6
        go_roundw
        case rel => exact ⟨1, t3, A6, c6, by omega, htl2, HT2, rfl, rfl, HO2, HB2⟩
        case measure => simp [slLen]; omega
      · rw [show (7 - ((1 : Nat) : Int)) = 6 from rfl]
        clear hlt hq
        go_wp2_with (first | ((with_reducible refine gate_builtin (b := .append) (xs := #[.tmp 9, .tmp 17]) rfl ?_); at_builtin; refine Kd.R_append_rows B (w0 := w) w.heap.size rfl (.tmp 9) (.tmp 17) 22 5 (.int .u8 0) 1 rfl Tryd.underlying22 info5 rfl (by decide) (by omega) _ (t2) ([_]) _ _ _ (fun _ => True) (fun _ => False) rfl rfl (by (with_reducible repeat (first | apply Kd.R_alloc | apply Kd.R_drewN | apply Kd.R_drew)); exact HO.out) (C_one wr _ _) (fun _ _ h => h) (fun _ h => h.elim) (fun _ _ => trivial) (HB.out.alloc HB.out.size _) (HB.out.alloc HB.out.size _).size ?aL ?_; (case aL => simp; omega); intro v2 w6 ho hb2 hg hat; have HO2 := Aside0.mk ho; have HB2 := Aside0.mk hb2; clear ho hb2 hg hat))
        have HT2 := Aside0.mk (be8_step HTE.out (show _ = some ((n : Int) / 281474976710656 % 256 : Int) from congrArg some (show ((n / 281474976710656 % 256 : Nat) : Int) = (n : Int) / 281474976710656 % 256 by omega)))
        have htl2 := Aside0.mk (show (t2 ++ [((n : Int) / 281474976710656 % 256 : Int)]).length = 2 by rw [List.length_append, htl.out]; rfl)
        have hts : (t2 ++ [((n : Int) / 281474976710656 % 256 : Int)]).length = t2.length + 1 := by simp
        generalize t2 ++ [((n : Int) / 281474976710656 % 256 : Int)] = t3 at *
        obtain ⟨A6, c6, rfl, hc6, hr6⟩ := Kd.R_reads HO2.out
        clear hr6
        go_roundw
        case rel => exact ⟨2, t3, A6, c6, by omega, htl2, HT2, rfl, rfl, HO2, HB2⟩
        case measure => simp [slLen]; omega
      · rw [show (7 - ((2 : Nat) : Int)) = 5 from rfl]
        clear hlt hq
        go_wp2_with (first | ((with_reducible refine gate_builtin (b := .append) (xs := #[.tmp 9, .tmp 17]) rfl ?_); at_builtin; refine Kd.R_append_rows B (w0 := w) w.heap.size rfl (.tmp 9) (.tmp 17) 22 5 (.int .u8 0) 1 rfl Tryd.underlying22 info5 rfl (by decide) (by omega) _ (t2) ([_]) _ _ _ (fun _ => True) (fun _ => False) rfl rfl (by (with_reducible repeat (first | apply Kd.R_alloc | apply Kd.R_drewN | apply Kd.R_drew)); exact HO.out) (C_one wr _ _) (fun _ _ h => h) (fun _ h => h.elim) (fun _ _ => trivial) (HB.out.alloc HB.out.size _) (HB.out.alloc HB.out.size _).size ?aL ?_; (case aL => simp; omega); intro v2 w6 ho hb2 hg hat; have HO2 := Aside0.mk ho; have HB2 := Aside0.mk hb2; clear ho hb2 hg hat))
        have HT2 := Aside0.mk (be8_step HTE.out (show _ = some ((n : Int) / 1099511627776 % 256 : Int) from congrArg some (show ((n / 1099511627776 % 256 : Nat) : Int) = (n : Int) / 1099511627776 % 256 by omega)))
        have htl2 := Aside0.mk (show (t2 ++ [((n : Int) / 1099511627776 % 256 : Int)]).length = 3 by rw [List.length_append, htl.out]; rfl)
        have hts : (t2 ++ [((n : Int) / 1099511627776 % 256 : Int)]).length = t2.length + 1 := by simp
        generalize t2 ++ [((n : Int) / 1099511627776 % 256 : Int)] = t3 at *
        obtain ⟨A6, c6, rfl, hc6, hr6⟩ := Kd.R_reads HO2.out
        clear hr6
        go_roundw
        case rel => exact ⟨3, t3, A6, c6, by omega, htl2, HT2, rfl, rfl, HO2, HB2⟩
        case measure => simp [slLen]; omega
      · rw [show (7 - ((3 : Nat) : Int)) = 4 from rfl]
        clear hlt hq
        go_wp2_with (first | ((with_reducible refine gate_builtin (b := .append) (xs := #[.tmp 9, .tmp 17]) rfl ?_); at_builtin; refine Kd.R_append_rows B (w0 := w) w.heap.size rfl (.tmp 9) (.tmp 17) 22 5 (.int .u8 0) 1 rfl Tryd.underlying22 info5 rfl (by decide) (by omega) _ (t2) ([_]) _ _ _ (fun _ => True) (fun _ => False) rfl rfl (by (with_reducible repeat (first | apply Kd.R_alloc | apply Kd.R_drewN | apply Kd.R_drew)); exact HO.out) (C_one wr _ _) (fun _ _ h => h) (fun _ h => h.elim) (fun _ _ => trivial) (HB.out.alloc HB.out.size _) (HB.out.alloc HB.out.size _).size ?aL ?_; (case aL => simp; omega); intro v2 w6 ho hb2 hg hat; have HO2 := Aside0.mk ho; have HB2 := Aside0.mk hb2; clear ho hb2 hg hat))
        have HT2 := Aside0.mk (be8_step HTE.out (show _ = some ((n : Int) / 4294967296 % 256 : Int) from congrArg some (show ((n / 4294967296 % 256 : Nat) : Int) = (n : Int) / 4294967296 % 256 by omega)))
        have htl2 := Aside0.mk (show (t2 ++ [((n : Int) / 4294967296 % 256 : Int)]).length = 4 by rw [List.length_append, htl.out]; rfl)
        have hts : (t2 ++ [((n : Int) / 4294967296 % 256 : Int)]).length = t2.length + 1 := by simp
        generalize t2 ++ [((n : Int) / 4294967296 % 256 : Int)] = t3 at *
        obtain ⟨A6, c6, rfl, hc6, hr6⟩ := Kd.R_reads HO2.out
        clear hr6
        go_roundw
        case rel => exact ⟨4, t3, A6, c6, by omega, htl2, HT2, rfl, rfl, HO2, HB2⟩
        case measure => simp [slLen]; omega
      · rw [show (7 - ((4 : Nat) : Int)) = 3 from rfl]
        clear hlt hq
        go_wp2_with (first | ((with_reducible refine gate_builtin (b := .append) (xs := #[.tmp 9, .tmp 17]) rfl ?_); at_builtin; refine Kd.R_append_rows B (w0 := w) w.heap.size rfl (.tmp 9) (.tmp 17) 22 5 (.int .u8 0) 1 rfl Tryd.underlying22 info5 rfl (by decide) (by omega) _ (t2) ([_]) _ _ _ (fun _ => True) (fun _ => False) rfl rfl (by (with_reducible repeat (first | apply Kd.R_alloc | apply Kd.R_drewN | apply Kd.R_drew)); exact HO.out) (C_one wr _ _) (fun _ _ h => h) (fun _ h => h.elim) (fun _ _ => trivial) (HB.out.alloc HB.out.size _) (HB.out.alloc HB.out.size _).size ?aL ?_; (case aL => simp; omega); intro v2 w6 ho hb2 hg hat; have HO2 := Aside0.mk ho; have HB2 := Aside0.mk hb2; clear ho hb2 hg hat))
        have HT2 := Aside0.mk (be8_step HTE.out (show _ = some ((n : Int) / 16777216 % 256 : Int) from congrArg some (show ((n / 16777216 % 256 : Nat) : Int) = (n : Int) / 16777216 % 256 by omega)))
        have htl2 := Aside0.mk (show (t2 ++ [((n : Int) / 16777216 % 256 : Int)]).length = 5 by rw [List.length_append, htl.out]; rfl)
        have hts : (t2 ++ [((n : Int) / 16777216 % 256 : Int)]).length = t2.length + 1 := by simp
        generalize t2 ++ [((n : Int) / 16777216 % 256 : Int)] = t3 at *
        obtain ⟨A6, c6, rfl, hc6, hr6⟩ := Kd.R_reads HO2.out
        clear hr6
        go_roundw
        case rel => exact ⟨5, t3, A6, c6, by omega, htl2, HT2, rfl, rfl, HO2, HB2⟩
        case measure => simp [slLen]; omega
      · rw [show (7 - ((5 : Nat) : Int)) = 2 from rfl]
        clear hlt hq
        go_wp2_with (first | ((with_reducible refine gate_builtin (b := .append) (xs := #[.tmp 9, .tmp 17]) rfl ?_); at_builtin; refine Kd.R_append_rows B (w0 := w) w.heap.size rfl (.tmp 9) (.tmp 17) 22 5 (.int .u8 0) 1 rfl Tryd.underlying22 info5 rfl (by decide) (by omega) _ (t2) ([_]) _ _ _ (fun _ => True) (fun _ => False) rfl rfl (by (with_reducible repeat (first | apply Kd.R_alloc | apply Kd.R_drewN | apply Kd.R_drew)); exact HO.out) (C_one wr _ _) (fun _ _ h => h) (fun _ h => h.elim) (fun _ _ => trivial) (HB.out.alloc HB.out.size _) (HB.out.alloc HB.out.size _).size ?aL ?_; (case aL => simp; omega); intro v2 w6 ho hb2 hg hat; have HO2 := Aside0.mk ho; have HB2 := Aside0.mk hb2; clear ho hb2 hg hat))
        have HT2 := Aside0.mk (be8_step HTE.out (show _ = some ((n : Int) / 65536 % 256 : Int) from congrArg some (show ((n / 65536 % 256 : Nat) : Int) = (n : Int) / 65536 % 256 by omega)))
        have htl2 := Aside0.mk (show (t2 ++ [((n : Int) / 65536 % 256 : Int)]).length = 6 by rw [List.length_append, htl.out]; rfl)
        have hts : (t2 ++ [((n : Int) / 65536 % 256 : Int)]).length = t2.length + 1 := by simp
        generalize t2 ++ [((n : Int) / 65536 % 256 : Int)] = t3 at *
        obtain ⟨A6, c6, rfl, hc6, hr6⟩ := Kd.R_reads HO2.out
        clear hr6
        go_roundw
        case rel => exact ⟨6, t3, A6, c6, by omega, htl2, HT2, rfl, rfl, HO2, HB2⟩
        case measure => simp [slLen]; omega
      · rw [show (7 - ((6 : Nat) : Int)) = 1 from rfl]
        clear hlt hq
        go_wp2_with (first | ((with_reducible refine gate_builtin (b := .append) (xs := #[.tmp 9, .tmp 17]) rfl ?_); at_builtin; refine Kd.R_append_rows B (w0 := w) w.heap.size rfl (.tmp 9) (.tmp 17) 22 5 (.int .u8 0) 1 rfl Tryd.underlying22 info5 rfl (by decide) (by omega) _ (t2) ([_]) _ _ _ (fun _ => True) (fun _ => False) rfl rfl (by (with_reducible repeat (first | apply Kd.R_alloc | apply Kd.R_drewN | apply Kd.R_drew)); exact HO.out) (C_one wr _ _) (fun _ _ h => h) (fun _ h => h.elim) (fun _ _ => trivial) (HB.out.alloc HB.out.size _) (HB.out.alloc HB.out.size _).size ?aL ?_; (case aL => simp; omega); intro v2 w6 ho hb2 hg hat; have HO2 := Aside0.mk ho; have HB2 := Aside0.mk hb2; clear ho hb2 hg hat))
        have HT2 := Aside0.mk (be8_step HTE.out (show _ = some ((n : Int) / 256 % 256 : Int) from congrArg some (show ((n / 256 % 256 : Nat) : Int) = (n : Int) / 256 % 256 by omega)))
        have htl2 := Aside0.mk (show (t2 ++ [((n : Int) / 256 % 256 : Int)]).length = 7 by rw [List.length_append, htl.out]; rfl)
        have hts : (t2 ++ [((n : Int) / 256 % 256 : Int)]).length = t2.length + 1 := by simp
        generalize t2 ++ [((n : Int) / 256 % 256 : Int)] = t3 at *
        obtain ⟨A6, c6, rfl, hc6, hr6⟩ := Kd.R_reads HO2.out
        clear hr6
        go_roundw
        case rel => exact ⟨7, t3, A6, c6, by omega, htl2, HT2, rfl, rfl, HO2, HB2⟩
        case measure => simp [slLen]; omega
      · rw [show (7 - ((7 : Nat) : Int)) = 0 from rfl]
        clear hlt hq
        go_wp2_with (first | ((with_reducible refine gate_builtin (b := .append) (xs := #[.tmp 9, .tmp 17]) rfl ?_); at_builtin; refine Kd.R_append_rows B (w0 := w) w.heap.size rfl (.tmp 9) (.tmp 17) 22 5 (.int .u8 0) 1 rfl Tryd.underlying22 info5 rfl (by decide) (by omega) _ (t2) ([_]) _ _ _ (fun _ => True) (fun _ => False) rfl rfl (by (with_reducible repeat (first | apply Kd.R_alloc | apply Kd.R_drewN | apply Kd.R_drew)); exact HO.out) (C_one wr _ _) (fun _ _ h => h) (fun _ h => h.elim) (fun _ _ => trivial) (HB.out.alloc HB.out.size _) (HB.out.alloc HB.out.size _).size ?aL ?_; (case aL => simp; omega); intro v2 w6 ho hb2 hg hat; have HO2 := Aside0.mk ho; have HB2 := Aside0.mk hb2; clear ho hb2 hg hat))
        have HT2 := Aside0.mk (be8_step HTE.out (show _ = some ((n : Int) % 256 : Int) from congrArg some (show ((n % 256 : Nat) : Int) = (n : Int) % 256 by omega)))
        have htl2 := Aside0.mk (show (t2 ++ [((n : Int) % 256 : Int)]).length = 8 by rw [List.length_append, htl.out]; rfl)
        have hts : (t2 ++ [((n : Int) % 256 : Int)]).length = t2.length + 1 := by simp
        generalize t2 ++ [((n : Int) % 256 : Int)] = t3 at *
        obtain ⟨A6, c6, rfl, hc6, hr6⟩ := Kd.R_reads HO2.out
        clear hr6
        go_roundw
        case rel => exact ⟨8, t3, A6, c6, by omega, htl2, HT2, rfl, rfl, HO2, HB2⟩
        case measure => simp [slLen]; omega
    · obtain rfl : q = 8 := by omega
      rw [show (7 - ((8 : Nat) : Int)) = -1 from rfl]
      have HT := Aside0.mk (show t2 = be8 n by rw [HTE.out]; rfl)
      go_wp2
      go_ret
      exact ⟨_, rfl, by rw [← HT.out]; exact HO.out, HB.out⟩
end Go.Proofs.YtoiblfmlahedlaaDoor.Ref
end
section
namespace Go.Proofs.YtoiblfmlahedlaaDoor.Ref
open Go.RowKit Go.Proofs.YtoiblfmlahedlaaDoorW.PrintWords Go.Proofs.YtoiblfmlahedlaaDoorW.PrintLast Go.Proofs.YtoiblfmlahedlaaDoorW.PrintMore
set_option linter.unusedVariables false
set_option linter.unusedSimpArgs false
set_option maxRecDepth 100000
open Go.Proofs.YtoiblfmlahedlaaDoor.Sha
set_option maxHeartbeats 1600000 in
set_option maxRecDepth 100000 in
theorem leafB_calls (i : Nat) (A : Option Addr) (c : Nat) (l : List Int) (w : World) (hi : i < 9223372036854775808) (hr : B.C w A l.length l) (hc : l.length ≤ c) (hl : l.length < 10000000) :
    Calls Tryd.prog 52 #[.int .i64 i, .slice A l.length c] w fun e w' => ∃ v, e = .returned v ∧ Kd.R B 5 w' w.heap.size (fun _ => True) v (0 :: (be8 i ++ l)) ∧ Below w.heap.size w w' := by
  have HR := Aside0.mk hr
  have HLL := Aside0.mk hl
  clear hr
  go_enter Tryd.func52, Tryd.ntmps52
  go_wp2_with (first | ((with_reducible refine gate_dst (N := 5) rfl ?_); refine Kd.R_lit B (w0 := w) w.heap.size 5 ?hg (N := 5) ?hd (xs := [0]) (inner := [.int .u8 0]) (ok := fun _ => True) (okp := fun _ => True) ?hr ?hp (fun _ hk => hk) trivial (Below.refl _ _) (Nat.le_refl _) (by simp) ?_; (case hd => rfl); (case hg => rfl); (case hr => first | (go_simp; done) | (go_simp; rfl)); (case hp => exact Reps.one rfl (Reps.none _ _)); intro v1 w2 ho hb1 hg hnew; have HO := Aside0.mk ho; have HB := Aside0.mk hb1; clear ho hb1 hg hnew))
  refine (reight_calls i _ hi).mono ?_
  rintro e w3 ⟨v, rfl, h8, hb⟩
  have HB3 := Aside0.mk (below_step HB.out hb)
  replace HO := Aside0.mk (Kd.R_below HO.out hb)
  have HC8 : Aside0 (∀ A8 c8', v = .slice A8 (be8 i).length c8' → Rw w3 A8 (be8 i) _ _) := ⟨fun A8 c8' e => Rw.of (e ▸ h8)⟩
  obtain ⟨A8, c8', rfl, hc8, hr8⟩ := Kd.R_reads h8
  clear hr8 h8 hb HB
  go_wp2_with (first | ((with_reducible refine gate_builtin (b := .append) (xs := #[.tmp 5, .tmp 7]) rfl ?_); at_builtin; refine Kd.R_append_rows B (w0 := w) w.heap.size rfl (.tmp 5) (.tmp 7) 22 5 (.int .u8 0) 1 rfl Tryd.underlying22 info5 rfl (by decide) (by omega) _ ([0]) (be8 i) _ _ _ (fun _ => True) (fun _ => False) rfl rfl HO.out ((HC8.out _ _ rfl).C) (fun _ _ h => h) (fun _ h => h.elim) (fun _ _ => trivial) HB3.out HB3.out.size ?aL ?_; (case aL => simp [be8]); intro v2 w4 ho hb2 hg hat; have HO2 := Aside0.mk ho; have HB4 := Aside0.mk hb2; clear ho hb2 hg hat) | ((with_reducible refine gate_builtin (b := .append) (xs := #[.tmp 8, .tmp 9]) rfl ?_); at_builtin; refine Kd.R_append_rows B (w0 := w) w.heap.size rfl (.tmp 8) (.tmp 9) 22 5 (.int .u8 0) 1 rfl Tryd.underlying22 info5 rfl (by decide) (by omega) _ ([0] ++ be8 i) (l) _ _ _ (fun _ => True) (fun _ => False) rfl rfl HO2.out (Kd.C_below HR.out HB4.out) (fun _ _ h => h) (fun _ h => h.elim) (fun _ _ => trivial) HB4.out HB4.out.size ?aL ?_; (case aL => simp [be8]; have := HLL.out; omega); intro v3 w5 ho hb2 hg hat; have HO3 := Aside0.mk ho; have HB5 := Aside0.mk hb2; clear ho hb2 hg hat))
  go_ret
  exact ⟨_, rfl, HO3.out, HB5.out⟩
set_option maxHeartbeats 1600000 in
set_option maxRecDepth 100000 in
theorem rchunk_calls (A : Option Addr) (c : Nat) (l : List Int) (i : Nat) (w : World) (hr : B.C w A l.length l) (hc : l.length ≤ c) (hl : l.length < 10000000) (hi : i < countN l.length) :
    Calls Tryd.prog 18 #[.slice A l.length c, .int .i64 i] w fun e w' => ∃ v, e = .returned v ∧ Kd.R B 5 w' w.heap.size (fun _ => True) v (chunkL l i) ∧ Below w.heap.size w w' := by
  have HR := Aside0.mk hr
  have hin : 64 * i ≤ l.length := by have := count_lt hi; omega
  have HI := Aside0.mk hin
  obtain ⟨q, hq⟩ : ∃ q, q = 64 * i := ⟨_, rfl⟩
  obtain ⟨s, hs⟩ : ∃ s, s = min (l.length - 64 * i) 64 := ⟨_, rfl⟩
  obtain ⟨m, hm⟩ : ∃ m, m = q + s := ⟨_, rfl⟩
  have HS := Aside0.mk (show (fun w => Calls Tryd.prog 45 #[.int .i64 l.length, .int .i64 i] w fun e w' => e = .returned (.int .i64 (s : Int)) ∧ w' = w) = (fun w => Calls Tryd.prog 45 #[.int .i64 l.length, .int .i64 i] w fun e w' => e = .returned (.int .i64 ((min (l.length - 64 * i) 64 : Nat) : Int)) ∧ w' = w) by rw [← hs])
  have hml : m ≤ l.length := by omega
  obtain ⟨A2, c2, hcut, hcc, hc2⟩ := midB A c l q m (by omega) hml hc
  have HCL := Aside0.mk (show chunkL l i = (l.take m).drop q by unfold chunkL; rw [show min l.length ((i + 1) * 64) = m by omega, show i * 64 = q by omega])
  have HCC := Aside0.mk hcc
  have h1 : 64 * (i : Int) = (q : Int) := by omega
  have h2 : (q : Int) + (s : Int) = (m : Int) := by omega
  have hqm : q ≤ 10000000 := by omega
  have hmm : m ≤ 10000000 := by omega
  have hsm : s ≤ 64 := by omega
  have hil : i ≤ 10000000 := by omega
  have HML := Aside0.mk (show ((l.take m).drop q).length ≤ 10000000 by rw [List.length_drop, List.length_take]; omega)
  rw [HCL.out]
  clear hcc hm hs hq hin hi hr hml HCL
  generalize (l.take m).drop q = ch at *
  go_enter Tryd.func18, Tryd.ntmps18
  go_wp2_with (first | ((with_reducible refine gate_dst (N := 5) rfl ?_); refine Kd.R_lit B (w0 := w) w.heap.size 5 ?hg (N := 5) ?hd (xs := ([] : List Int)) (inner := []) (ok := fun _ => True) (okp := fun _ => True) ?hr ?hp (fun _ hk => hk) trivial (Below.refl _ _) (Nat.le_refl _) (by simp) ?_; (case hd => rfl); (case hg => rfl); (case hr => first | (go_simp; done) | (go_simp; rfl)); (case hp => exact Reps.none _ _); intro v1 w2 ho hb1 hg hnew; have HO := Aside0.mk ho; have HB := Aside0.mk hb1; clear ho hb1 hg hnew))
  refine (show Calls Tryd.prog 45 #[.int .i64 l.length, .int .i64 i] _ fun e w' => e = .returned (.int .i64 (s : Int)) ∧ w' = _ from by rw [congrFun HS.out _]; exact rsize_calls l.length i _ (by omega) HI.out).mono ?_
  rintro e w9 ⟨rfl, hw⟩
  replace hw := hw.symm
  subst hw
  go_wp2_with (first | ((with_reducible refine gate_builtin (b := .append) (xs := #[.tmp 5, .tmp 16]) rfl ?_); at_builtin; refine Kd.R_append_rows B (w0 := w) w.heap.size rfl (.tmp 5) (.tmp 16) 22 5 (.int .u8 0) 1 rfl Tryd.underlying22 info5 rfl (by decide) (by omega) _ ([]) (ch) _ _ _ (fun _ => True) (fun _ => False) rfl rfl HO.out (HCC.out _ (Kd.C_below HR.out HB.out)) (fun _ _ h => h) (fun _ h => h.elim) (fun _ _ => trivial) HB.out HB.out.size ?aL ?_; (case aL => have := HML.out; simp; omega); intro v2 w4 ho hb2 hg hat; rw [List.nil_append] at ho; have HO2 := Aside0.mk ho; have HB2 := Aside0.mk hb2; clear ho hb2 hg hat))
  go_ret
  exact ⟨_, rfl, HO2.out, HB2.out⟩
end Go.Proofs.YtoiblfmlahedlaaDoor.Ref
end
section
namespace Go.Proofs.YtoiblfmlahedlaaDoor.Ref
open Go.RowKit Go.Proofs.YtoiblfmlahedlaaDoorW.PrintWords Go.Proofs.YtoiblfmlahedlaaDoorW.PrintLast Go.Proofs.YtoiblfmlahedlaaDoorW.PrintMore
set_option linter.unusedVariables false
set_option linter.unusedSimpArgs false
set_option maxRecDepth 100000
open Go.Proofs.YtoiblfmlahedlaaDoor.Sha
theorem C_cb32 {w : World} {g : Nat} {D : List Int} {t : TypeId} (h : w.heap[g]? = some (.cells (cb D) t (0, 0))) (hl : D.length = 32) : B.C w (some ⟨g, 0, none⟩) 32 D := by
  have := C_cb h (by omega)
  rwa [hl] at this
theorem grown_below {w w' : World} (h : w.grownBy w' none) : Below w.heap.size w w' := ⟨h.os, h.tape, h.output, h.size, fun k hk => h.block k hk (by simp)⟩
def nb_T1 : Bool × List (List Nat × List Nat) := (true, [([], []), ([], []), ([0, 1], [0, 1]), ([], []), ([2, 3, 2], [2, 3]), ([4, 4, 0, 1, 2, 3, 4], [4])])
def nb_B1 : List Nat := [0, 0, 3, 0, 15, 31]
theorem nb_tab1 : rtab .any (opsOf Tryd.f53 1) = nb_T1 := by kernel_rfl
theorem nb_bits1 : waitsOk nb_T1.2 nb_B1 = true := by kernel_rfl
def rbt_T1 : Bool × List (List Nat × List Nat) := (true, [([], []), ([], []), ([1], [1]), ([0, 2, 2], [0, 2]), ([], []), ([3, 4, 3], [3, 4]), ([5, 5, 0, 1, 2, 3, 4, 5], [5])])
def rbt_B1 : List Nat := [0, 0, 2, 7, 0, 31, 63]
theorem rbt_tab1 : rtab .any (opsOf Tryd.f29 1) = rbt_T1 := by kernel_rfl
theorem rbt_bits1 : waitsOk rbt_T1.2 rbt_B1 = true := by kernel_rfl
set_option maxHeartbeats 1600000 in
set_option maxRecDepth 100000 in
theorem nodeB_R (a b : List Int) (w : World) (ha : a.length = 32) (hb : b.length = 32) :
    Calls Tryd.prog 53 #[vd a, vd b] w fun e w' => ∃ v, e = .returned v ∧ Kd.R B 5 w' w.heap.size (fun _ => True) v (1 :: (a ++ b)) ∧ Below w.heap.size w w' := by
  have HLA := Aside0.mk ha
  have HLB := Aside0.mk hb
  have HX := Aside0.mk (show [1] ++ a ++ b = 1 :: (a ++ b) by simp)
  generalize 1 :: (a ++ b) = X at HX ⊢
  clear ha hb
  go_enter Tryd.func53, Tryd.ntmps53
  go_upto_region 1 with (fail)
  obtain ⟨w1, hw1, HA1, HA2, HB1⟩ : ∃ w1, ((w.alloc (.cells (cb a) 31)).alloc (.cells (cb b) 31)) = w1 ∧ Aside0 (w1.heap[w.heap.size]? = some (.cells (cb a) 31 (0, 0))) ∧ Aside0 (w1.heap[w.heap.size + 1]? = some (.cells (cb b) 31 (0, 0))) ∧ Aside0 (Below w.heap.size w w1) :=
    ⟨_, rfl, ⟨by rw [Below.heap_alloc _ _ _ (by simp)]; exact Sha.heap_new _ _⟩, ⟨Sha.heap_new' _ _ _ (by simp)⟩, ⟨((Below.refl w.heap.size w).alloc (Nat.le_refl _) _).alloc (by simp) _⟩⟩
  rw [hw1]
  clear hw1
  refine start_ (n := 6) (S := fun w' => True) (ds := []) #[false, false, false, false, false, false] (by kernel_rfl) rfl rfl trivial (fun hHeld => ?_)
  refine with_tabW nb_tab1 nb_bits1 (fun HT_ HW_ => ?_)
  refine pure_ (i := 1) (N := some 6) (v := ?_) (a' := ?_) #[false, true, false, false, false, false] rfl rfl (any_of HT_.out (by kernel_rfl)) (fun _ _ _ h => h) (Or.inl ⟨by rfl, ?_⟩) ?_ ?_
  rotate_left
  · intro w'
    go_simp
    with_reducible rfl
  rotate_left
  · simp only [Act.put, List.setIfInBounds_toArray, List.set_cons_zero, List.set_cons_succ, i64_w, i32_w]
    rfl
  refine pure_ (i := 3) (N := some 8) (v := ?_) (a' := ?_) #[false, true, false, true, false, false] rfl rfl (any_of HT_.out (by kernel_rfl)) (fun _ _ _ h => h) (Or.inl ⟨by rfl, ?_⟩) ?_ ?_
  rotate_left
  · intro w'
    go_simp
    with_reducible rfl
  rotate_left
  · simp only [Act.put, List.setIfInBounds_toArray, List.set_cons_zero, List.set_cons_succ, i64_w, i32_w]
    rfl
  refine one_ (i := 0) (N := some 5) #[true, true, false, true, false, false] rfl rfl (one_of HT_.out (by kernel_rfl)) (by decide) (fun K hK => ?_)
  refine Kd.R_lit_step B (w0 := w1) w1.heap.size 5 (by rfl) rfl (xs := [1]) (inner := [.int .u8 1]) (ok := fun _ => True) (okp := fun _ => True) ?hr (Reps.one rfl (Reps.none _ _)) (fun _ hk => hk) trivial (below_drew1 (Below.refl _ _)) (Nat.le_refl _) (by simp) ?_
  case hr => first | (go_simp; done) | (go_simp; rfl)
  intro v2 w2 ho hb2 _ _
  have HO := Aside0.mk ho
  have HB := Aside0.mk hb2
  clear ho hb2
  refine hK.out _ _ trivial (fun hHeld => ?_)
  clear hK K
  refine norm_ (a' := ?_) ?_ ?_
  rotate_left
  · first
    | (show Act.put _ (some 5) _ = _; simp only [Act.put, List.setIfInBounds_toArray, List.set_cons_zero, List.set_cons_succ, i64_w, i32_w]; rfl)
    | rfl
  refine one_ (i := 2) (N := some 7) #[true, true, true, true, false, false] rfl rfl (one_of HT_.out (by kernel_rfl)) (by decide) (fun K hK => ?_)
  refine Kd.R_append_rows_step B (w0 := w1) w1.heap.size (by rfl) (.tmp 5) (.tmp 6) 22 5 (.int .u8 0) 1 rfl Tryd.underlying22 info5 rfl (by decide) (by omega) _ ([1]) (a) _ _ _ (fun _ => True) (fun _ => False) rfl rfl HO.out (Kd.C_below (C_cb32 HA1.out HLA.out) HB.out) (fun _ _ h => h) (fun _ h => h.elim) (fun _ _ => trivial) HB.out HB.out.size ?aL ?_
  case aL => have := HLA.out; simp
  intro v3 w3 ho hb2 _ _
  have HO2 := Aside0.mk ho
  have HB2 := Aside0.mk hb2
  clear ho hb2
  refine hK.out _ _ trivial (fun hHeld => ?_)
  clear hK K
  refine norm_ (a' := ?_) ?_ ?_
  rotate_left
  · first
    | (show Act.put _ (some 7) _ = _; simp only [Act.put, List.setIfInBounds_toArray, List.set_cons_zero, List.set_cons_succ, i64_w, i32_w]; rfl)
    | rfl
  refine one_ (i := 4) (N := some 9) #[true, true, true, true, true, false] rfl rfl (one_of HT_.out (by kernel_rfl)) (by decide) (fun K hK => ?_)
  refine Kd.R_append_rows_step B (w0 := w1) w1.heap.size (by rfl) (.tmp 7) (.tmp 8) 22 5 (.int .u8 0) 1 rfl Tryd.underlying22 info5 rfl (by decide) (by omega) _ ([1] ++ a) (b) _ _ _ (fun _ => True) (fun _ => False) rfl rfl HO2.out (Kd.C_below (C_cb32 HA2.out HLB.out) HB2.out) (fun _ _ h => h) (fun _ h => h.elim) (fun _ _ => trivial) HB2.out HB2.out.size ?aL ?_
  case aL => have := HLA.out; have := HLB.out; simp; omega
  intro v4 w4 ho hb2 _ _
  have HO3 := Aside0.mk ho
  have HB3 := Aside0.mk hb2
  clear ho hb2
  refine hK.out _ _ trivial (fun hHeld => ?_)
  clear hK K
  refine norm_ (a' := ?_) ?_ ?_
  rotate_left
  · first
    | (show Act.put _ (some 9) _ = _; simp only [Act.put, List.setIfInBounds_toArray, List.set_cons_zero, List.set_cons_succ, i64_w, i32_w]; rfl)
    | rfl
  refine pure_ (i := 5) (N := some 4) (v := ?_) (a' := ?_) #[true, true, true, true, true, true] rfl rfl (any_of HT_.out (by kernel_rfl)) (fun _ _ _ h => h) (Or.inl ⟨by rfl, ?_⟩) ?_ ?_
  rotate_left
  · intro w'
    go_simp
    with_reducible rfl
  rotate_left
  · simp only [Act.put, List.setIfInBounds_toArray, List.set_cons_zero, List.set_cons_succ, i64_w, i32_w]
    rfl
  refine done_ (done_of HT_.out (by kernel_rfl)) ?_
  clear hHeld HT_ HW_
  rw [HX.out] at HO3
  go_wp2
  go_ret
  exact ⟨_, rfl, Kd.R_lower HO3.out HB1.out.size, below_step HB1.out HB3.out⟩
theorem RB_reads {w : World} {base : Nat} {v : Value} {X : List Int} (h : Kd.R B 5 w base (fun _ => True) v X) : ∃ A c, v = .slice A X.length c ∧ X.length ≤ c ∧ B.C w A X.length X := by
  obtain ⟨A9, c9, rfl, hc9, hr9⟩ := Kd.R_reads h
  exact ⟨_, _, rfl, hc9, (Rw.of h).C⟩
theorem nodeB_calls (a b : List Int) (w : World) (ha : a.length = 32) (hb : b.length = 32) :
    Calls Tryd.prog 53 #[vd a, vd b] w fun e w' => ∃ A c, e = .returned (.slice A (1 :: (a ++ b)).length c) ∧ (1 :: (a ++ b)).length ≤ c ∧ B.C w' A (1 :: (a ++ b)).length (1 :: (a ++ b)) ∧ Below w.heap.size w w' :=
  (nodeB_R a b w ha hb).mono fun e w' h => by
    obtain ⟨v, rfl, ho, hb⟩ := h
    obtain ⟨A, c, rfl, h1, h2⟩ := RB_reads ho
    exact ⟨A, c, rfl, h1, h2, hb⟩
set_option maxHeartbeats 1600000 in
set_option maxRecDepth 100000 in
theorem rootB_R (n : Nat) (d : List Int) (w : World) (hn : n < 9223372036854775808) (hd : d.length = 32) :
    Calls Tryd.prog 29 #[.int .i64 n, vd d] w fun e w' => ∃ v, e = .returned v ∧ Kd.R B 5 w' w.heap.size (fun _ => True) v (2 :: (be8 n ++ d)) ∧ Below w.heap.size w w' := by
  have HLA := Aside0.mk hd
  have HX := Aside0.mk (show [2] ++ be8 n ++ d = 2 :: (be8 n ++ d) by simp)
  generalize 2 :: (be8 n ++ d) = X at HX ⊢
  clear hd
  go_enter Tryd.func29, Tryd.ntmps29
  go_upto_region 1 with (fail)
  obtain ⟨w1, hw1, HA1, HB1⟩ : ∃ w1, (w.alloc (.cells (cb d) 31)) = w1 ∧ Aside0 (w1.heap[w.heap.size]? = some (.cells (cb d) 31 (0, 0))) ∧ Aside0 (Below w.heap.size w w1) :=
    ⟨_, rfl, ⟨Sha.heap_new _ _⟩, ⟨(Below.refl w.heap.size w).alloc (Nat.le_refl _) _⟩⟩
  rw [hw1]
  clear hw1
  refine start_ (n := 7) (S := fun w' => True) (ds := []) #[false, false, false, false, false, false, false] (by kernel_rfl) rfl rfl trivial (fun hHeld => ?_)
  refine with_tabW rbt_tab1 rbt_bits1 (fun HT_ HW_ => ?_)
  refine pure_ (i := 1) (N := some 6) (v := ?_) (a' := ?_) #[false, true, false, false, false, false, false] rfl rfl (any_of HT_.out (by kernel_rfl)) (fun _ _ _ h => h) (Or.inl ⟨by rfl, ?_⟩) ?_ ?_
  rotate_left
  · intro w'
    go_simp
    with_reducible rfl
  rotate_left
  · simp only [Act.put, List.setIfInBounds_toArray, List.set_cons_zero, List.set_cons_succ, i64_w, i32_w]
    rfl
  refine pure_ (i := 4) (N := some 9) (v := ?_) (a' := ?_) #[false, true, false, false, true, false, false] rfl rfl (any_of HT_.out (by kernel_rfl)) (fun _ _ _ h => h) (Or.inl ⟨by rfl, ?_⟩) ?_ ?_
  rotate_left
  · intro w'
    go_simp
    with_reducible rfl
  rotate_left
  · simp only [Act.put, List.setIfInBounds_toArray, List.set_cons_zero, List.set_cons_succ, i64_w, i32_w]
    rfl
  refine join_ (σ := Value × Option Addr × Nat) 3 #[true, true, true, false, true, false, false] (fun s => [(5, s.1), (7, .slice s.2.1 (be8 n).length s.2.2)]) (fun s w' => Aside0 (Kd.R B 5 w' w1.heap.size (fun _ => True) s.1 [2]) ∧ Aside0 (B.C w' s.2.1 (be8 n).length (be8 n)) ∧ Aside0 (Below w1.heap.size w1 w')) ?_ ?_
  rotate_left
  · intro hJ
    refine two_ (i := 0) (j := 2) (Ni := some 5) (Nj := some 7) #[true, true, false, false, true, false, false] #[false, true, true, false, true, false, false] rfl rfl rfl rfl (two_of HT_.out (by kernel_rfl)) (by decide) (by decide) (fun K hK => ?_) (fun K hK => ?_)
    · skip
      refine Kd.R_lit_step B (w0 := w1) w1.heap.size 5 (by rfl) rfl (xs := [2]) (inner := [.int .u8 2]) (ok := fun _ => True) (okp := fun _ => True) ?hr (Reps.one rfl (Reps.none _ _)) (fun _ hk => hk) trivial (below_drew1 (Below.refl _ _)) (Nat.le_refl _) (by simp) ?_
      case hr => first | (go_simp; done) | (go_simp; rfl)
      intro v2 w2 ho hb2 _ _
      refine hK.out _ _ trivial (fun _ => ?_)
      clear hK K
      refine norm_ (a' := ?_) ?_ ?_
      rotate_left
      · first
        | (show Act.put _ (some 5) _ = _; simp only [Act.put, List.setIfInBounds_toArray, List.set_cons_zero, List.set_cons_succ, i64_w, i32_w]; rfl)
        | rfl
      refine one_ (i := 2) (N := some 7) #[true, true, true, false, true, false, false] rfl rfl (one_of HT_.out (by kernel_rfl)) (by decide) (fun K hK => ?_)
      refine goes_ Tryd.func55 (by kernel_rfl) rfl #[.int .i64 n] (by rfl) rfl rfl (by (try simp only [List.map_toArray, List.map_cons, List.map_nil]); first | done | rfl) ?_
      refine (reight_calls n _ hn).mono ?_
      rintro e w3 ⟨v, rfl, h8, hb⟩
      refine ⟨_, rfl, ?_⟩
      have HC8 : Aside0 (∀ A8 c8', v = .slice A8 (be8 n).length c8' → Rw w3 A8 (be8 n) _ _) := ⟨fun A8 c8' e => Rw.of (e ▸ h8)⟩
      obtain ⟨A8, c8', rfl, hc8, hr8⟩ := Kd.R_reads h8
      refine hK.out _ _ trivial (fun _ => ?_)
      clear hK K
      refine norm_ ?_ (hJ (v2, A8, c8') _ ⟨⟨Kd.R_below ho hb⟩, ⟨(HC8.out _ _ rfl).C⟩, ⟨below_step hb2 hb⟩⟩)
      first
        | (simp only [putAll]; simp only [Act.put, List.setIfInBounds_toArray, List.set_cons_zero, List.set_cons_succ, i64_w, i32_w]; done)
        | (simp only [putAll]; simp only [Act.put, List.setIfInBounds_toArray, List.set_cons_zero, List.set_cons_succ, i64_w, i32_w]; rfl)
        | rfl
    · skip
      refine goes_ Tryd.func55 (by kernel_rfl) rfl #[.int .i64 n] (by rfl) rfl rfl (by (try simp only [List.map_toArray, List.map_cons, List.map_nil]); first | done | rfl) ?_
      refine (reight_calls n _ hn).mono ?_
      rintro e w3 ⟨v, rfl, h8, hb⟩
      refine ⟨_, rfl, ?_⟩
      have HC8 : Aside0 (∀ A8 c8', v = .slice A8 (be8 n).length c8' → Rw w3 A8 (be8 n) _ _) := ⟨fun A8 c8' e => Rw.of (e ▸ h8)⟩
      obtain ⟨A8, c8', rfl, hc8, hr8⟩ := Kd.R_reads h8
      have hbx : Below w1.heap.size w1 w3 := below_step (below_drew1 (Below.refl _ _)) hb
      refine hK.out _ _ trivial (fun _ => ?_)
      clear hK K
      refine norm_ (a' := ?_) ?_ ?_
      rotate_left
      · first
        | (show Act.put _ (some 7) _ = _; simp only [Act.put, List.setIfInBounds_toArray, List.set_cons_zero, List.set_cons_succ, i64_w, i32_w]; rfl)
        | rfl
      refine one_ (i := 0) (N := some 5) #[true, true, true, false, true, false, false] rfl rfl (one_of HT_.out (by kernel_rfl)) (by decide) (fun K hK => ?_)
      refine Kd.R_lit_step B (w0 := w1) w1.heap.size 5 (by rfl) rfl (xs := [2]) (inner := [.int .u8 2]) (ok := fun _ => True) (okp := fun _ => True) ?hr (Reps.one rfl (Reps.none _ _)) (fun _ hk => hk) trivial (hbx) (hbx.size) (by simp) ?_
      case hr => first | (go_simp; done) | (go_simp; rfl)
      intro v2 w2 ho hb2 hgr _
      refine hK.out _ _ trivial (fun _ => ?_)
      clear hK K
      refine norm_ ?_ (hJ (v2, A8, c8') _ ⟨⟨ho⟩, ⟨Kd.C_below (HC8.out _ _ rfl).C (grown_below hgr)⟩, ⟨hb2⟩⟩)
      first
        | (simp only [putAll]; simp only [Act.put, List.setIfInBounds_toArray, List.set_cons_zero, List.set_cons_succ, i64_w, i32_w]; done)
        | (simp only [putAll]; simp only [Act.put, List.setIfInBounds_toArray, List.set_cons_zero, List.set_cons_succ, i64_w, i32_w]; rfl)
        | rfl
  rintro ⟨v5, A8, c8'⟩ w4 ⟨HOb, HC8, HB2⟩
  refine norm_ (a' := ?_) ?_ ?_
  rotate_left
  · simp only [putAll]
    simp only [Act.put, List.setIfInBounds_toArray, List.set_cons_zero, List.set_cons_succ, i64_w, i32_w]
    rfl
  refine one_ (i := 3) (N := some 8) #[true, true, true, true, true, false, false] rfl rfl (one_of HT_.out (by kernel_rfl)) (by decide) (fun K hK => ?_)
  refine Kd.R_append_rows_step B (w0 := w1) w1.heap.size (by rfl) (.tmp 5) (.tmp 7) 22 5 (.int .u8 0) 1 rfl Tryd.underlying22 info5 rfl (by decide) (by omega) _ ([2]) (be8 n) _ _ _ (fun _ => True) (fun _ => False) rfl rfl HOb.out (HC8.out) (fun _ _ h => h) (fun _ h => h.elim) (fun _ _ => trivial) HB2.out HB2.out.size ?aL ?_
  case aL => simp [be8]
  intro v4 w4 ho hb2 _ _
  have HO2 := Aside0.mk ho
  have HB3 := Aside0.mk hb2
  clear ho hb2
  refine hK.out _ _ trivial (fun hHeld => ?_)
  clear hK K
  refine norm_ (a' := ?_) ?_ ?_
  rotate_left
  · first
    | (show Act.put _ (some 8) _ = _; simp only [Act.put, List.setIfInBounds_toArray, List.set_cons_zero, List.set_cons_succ, i64_w, i32_w]; rfl)
    | rfl
  refine one_ (i := 5) (N := some 10) #[true, true, true, true, true, true, false] rfl rfl (one_of HT_.out (by kernel_rfl)) (by decide) (fun K hK => ?_)
  refine Kd.R_append_rows_step B (w0 := w1) w1.heap.size (by rfl) (.tmp 8) (.tmp 9) 22 5 (.int .u8 0) 1 rfl Tryd.underlying22 info5 rfl (by decide) (by omega) _ ([2] ++ be8 n) (d) _ _ _ (fun _ => True) (fun _ => False) rfl rfl HO2.out (Kd.C_below (C_cb32 HA1.out HLA.out) HB3.out) (fun _ _ h => h) (fun _ h => h.elim) (fun _ _ => trivial) HB3.out HB3.out.size ?aL ?_
  case aL => first | (simp [be8]; done) | (simp [be8]; omega)
  intro v5 w5 ho hb2 _ _
  have HO3 := Aside0.mk ho
  have HB4 := Aside0.mk hb2
  clear ho hb2
  refine hK.out _ _ trivial (fun hHeld => ?_)
  clear hK K
  refine norm_ (a' := ?_) ?_ ?_
  rotate_left
  · first
    | (show Act.put _ (some 10) _ = _; simp only [Act.put, List.setIfInBounds_toArray, List.set_cons_zero, List.set_cons_succ, i64_w, i32_w]; rfl)
    | rfl
  refine pure_ (i := 6) (N := some 4) (v := ?_) (a' := ?_) #[true, true, true, true, true, true, true] rfl rfl (any_of HT_.out (by kernel_rfl)) (fun _ _ _ h => h) (Or.inl ⟨by rfl, ?_⟩) ?_ ?_
  rotate_left
  · intro w'
    go_simp
    with_reducible rfl
  rotate_left
  · simp only [Act.put, List.setIfInBounds_toArray, List.set_cons_zero, List.set_cons_succ, i64_w, i32_w]
    rfl
  refine done_ (done_of HT_.out (by kernel_rfl)) ?_
  clear hHeld HT_ HW_
  rw [HX.out] at HO3
  go_wp2
  go_ret
  exact ⟨_, rfl, Kd.R_lower HO3.out HB1.out.size, below_step HB1.out HB4.out⟩
theorem rootB_calls (n : Nat) (d : List Int) (w : World) (hn : n < 9223372036854775808) (hd : d.length = 32) :
    Calls Tryd.prog 29 #[.int .i64 n, vd d] w fun e w' => ∃ A c, e = .returned (.slice A (2 :: (be8 n ++ d)).length c) ∧ (2 :: (be8 n ++ d)).length ≤ c ∧ B.C w' A (2 :: (be8 n ++ d)).length (2 :: (be8 n ++ d)) ∧ Below w.heap.size w w' :=
  (rootB_R n d w hn hd).mono fun e w' h => by
    obtain ⟨v, rfl, ho, hb⟩ := h
    obtain ⟨A, c, rfl, h1, h2⟩ := RB_reads ho
    exact ⟨A, c, rfl, h1, h2, hb⟩
end Go.Proofs.YtoiblfmlahedlaaDoor.Ref
end
section
namespace Go.Proofs.YtoiblfmlahedlaaDoor.Ref
open Go.RowKit Go.Proofs.YtoiblfmlahedlaaDoorW.PrintWords Go.Proofs.YtoiblfmlahedlaaDoorW.PrintLast Go.Proofs.YtoiblfmlahedlaaDoorW.PrintMore
set_option linter.unusedVariables false
set_option linter.unusedSimpArgs false
set_option maxRecDepth 100000
open Go.Proofs.YtoiblfmlahedlaaDoor.Sha
def hk : Array Value := cw fTab ++ cw kTab
set_option maxHeartbeats 1600000 in
set_option maxRecDepth 100000 in
theorem new_calls (w : World) : Calls Tryd.prog 10 #[] w fun e w' => ∃ g, e = .returned (.pointer (some ⟨g, 0, none⟩)) ∧ w.heap.size ≤ g ∧ w'.heap[g]? = some (.cells hk 72 (0, 0)) ∧ Below w.heap.size w w' := by
  have HBT := Aside0.mk (show Tryd.prog.built 72 [(0, .agg (cw fTab)), (1, .agg (cw kTab))] = some hk by kernel_rfl)
  generalize hk = CK at HBT ⊢
  go_enter Tryd.func10, Tryd.ntmps10
  go_wp2_with fail
  refine (words_calls _).mono ?_
  rintro e w1 ⟨rfl, hb⟩
  have HB1 := Aside0.mk hb
  clear hb
  have hsF : (cw fTab).size = 8 := by kernel_rfl
  have hsK : (cw kTab).size = 64 := by kernel_rfl
  have HOF := Aside0.mk (cw_one fTab)
  have HOK := Aside0.mk (cw_one kTab)
  have HIF := Aside0.mk (infoH fTab rfl)
  have HIK := Aside0.mk (infoK kTab rfl)
  generalize cw fTab = FT at *
  generalize cw kTab = KT at *
  go_upto_region 2 with (first | (refine wpList_store_row rfl 67 (.tmp 1) (.tmp 5) rfl w1.heap.size FT rfl rfl 67 _ (by rw [Below.heap_alloc _ _ _ (by simp)]; exact Sha.heap_new _ _) HIF.out (by rw [hsF]; rfl) HOF.out ?_) | (refine wpList_store_row rfl 68 (.tmp 2) (.tmp 6) rfl (w1.heap.size + 1) KT rfl rfl 68 _ (by rw [setRow_other _ _ _ _ (by omega)]; exact Sha.heap_new' _ _ _ (by simp)) HIK.out (by rw [hsK]; rfl) HOK.out ?_; generalize hW : World.setRow _ _ _ = W))
  have H0 := Aside0.mk (show W.heap[w1.heap.size]? = some (.cells FT 67 (0, 0)) by
    rw [← hW, setRow_other _ _ _ _ (by omega)]
    exact setRow_heap _ _ _ _ _ _ (by rw [Below.heap_alloc _ _ _ (by simp)]; exact Sha.heap_new _ _))
  have H1 := Aside0.mk (show W.heap[w1.heap.size + 1]? = some (.cells KT 68 (0, 0)) by
    rw [← hW]
    exact setRow_heap _ _ _ _ _ _ (by rw [setRow_other _ _ _ _ (by omega)]; exact Sha.heap_new' _ _ _ (by simp)))
  have HB := Aside0.mk (show Below w.heap.size w W by
    rw [← hW]
    exact below_setRow (below_setRow ((HB1.out.alloc HB1.out.size _).alloc (by have := HB1.out.size; simp; omega) _) HB1.out.size _) (by have := HB1.out.size; omega) _)
  clear hW
  go_wp2_with (first | (refine wpList_load_row rfl 67 (.tmp 1) rfl w1.heap.size rfl 67 FT (0, 0) _ H0.out Tryd.underlying67 rfl HIF.out ?_) | (refine wpList_load_row rfl 68 (.tmp 2) rfl (w1.heap.size + 1) rfl 68 KT (0, 0) _ H1.out Tryd.underlying68 rfl HIK.out ?_) | ((with_reducible refine gate_dst (N := 9) rfl ?_); refine wpList_buildTo rfl 72 _ rfl (some 9) rfl CK (Eq.trans (congrArg (Tryd.prog.built 72) (by simp only [List.map_toArray, List.map_cons, List.map_nil]; rfl)) HBT.out) ?_))
  go_ret
  exact ⟨W.heap.size, rfl, HB.out.size, Sha.heap_new _ _, HB.out.alloc HB.out.size _⟩
end Go.Proofs.YtoiblfmlahedlaaDoor.Ref
end
section
namespace Go.Proofs.YtoiblfmlahedlaaDoor.Ref
open Go.RowKit Go.Proofs.YtoiblfmlahedlaaDoorW.PrintWords Go.Proofs.YtoiblfmlahedlaaDoorW.PrintLast Go.Proofs.YtoiblfmlahedlaaDoorW.PrintMore
set_option linter.unusedVariables false
set_option linter.unusedSimpArgs false
set_option maxRecDepth 100000
open Go.Proofs.YtoiblfmlahedlaaDoor.Sha
theorem hk_load {w : World} {g off : Nat} (xs : List Int) (ty : TypeId) (n : Nat) (el : TypeId) (hg : w.heap[g]? = some (.cells hk 72 (0, 0))) (hx : ∀ j v, (xs.map (Value.int .u32))[j]? = some v → hk[off + j]? = some v)
    (hu : Tryd.prog.underlying ty = some (.array n el)) (hi : (Tryd.prog.info? ty).map (·.size) = some (cw xs).size) :
    (Instr.loadAt ty (.pointer (some ⟨g, off, none⟩))).run Tryd.prog w = .ok (.agg (cw xs)) w :=
  run_loadAt_cells w _ ty (cw xs) (.array n el) (by
    have := run_loadCells_list (P := Tryd.prog) (w := w) ⟨g, off, none⟩ (xs.map (Value.int .u32)) (fun j v hv => by
      rw [show (Addr.mk g off none).add j = ⟨g, off + j, none⟩ by simp [Addr.add_lit]]
      exact (cell_of hg).2 (hx j v hv))
    simpa [loadCells, cw] using this) hu rfl hi
theorem hk_load0 {w : World} {g : Nat} (hg : w.heap[g]? = some (.cells hk 72 (0, 0))) : (Instr.loadAt 67 (.pointer (some ⟨g, 0, none⟩))).run Tryd.prog w = .ok (.agg (c8 fS)) w :=
  hk_load (w := w) fTab 67 _ _ hg (fun j v hv => by
    have hj : j < (cw fTab).size := by
      have := (List.getElem?_eq_some_iff.1 hv).1
      simpa [cw] using this
    unfold hk
    rw [Nat.zero_add, Array.getElem?_append_left hj]
    unfold cw
    rw [List.getElem?_toArray]
    exact hv) Tryd.underlying67 (infoH fTab rfl)
theorem hk_load1 {w : World} {g : Nat} (hg : w.heap[g]? = some (.cells hk 72 (0, 0))) : (Instr.loadAt 68 (.pointer (some ⟨g, 8, none⟩))).run Tryd.prog w = .ok (.agg (cw kTab)) w :=
  hk_load (w := w) kTab 68 _ _ hg (fun j v hv => by
    have hs : (cw fTab).size = 8 := by kernel_rfl
    unfold hk
    rw [Array.getElem?_append_right (by omega), hs, Nat.add_sub_cancel_left]
    unfold cw
    rw [List.getElem?_toArray]
    exact hv) Tryd.underlying68 (infoK kTab rfl)
theorem fS_rng : rng8 fS := by unfold rng8 rng fS; decide
def hs_T1 : Bool × List (List Nat × List Nat) := (true, [([], []), ([0], [0]), ([1], [1]), ([2], [2]), ([], []), ([4], [4]), ([5], [5]), ([6], [6]), ([], []), ([3, 7, 8], [3, 7, 8]), ([9, 9, 0, 1, 2, 3, 4, 5, 6, 7, 8, 9], [9])])
def hs_B1 : List Nat := [0, 1, 3, 7, 0, 16, 48, 112, 0, 511, 1023]
theorem hs_tab1 : rtab .any (opsOf Tryd.f28 1) = hs_T1 := by kernel_rfl
theorem hs_bits1 : waitsOk hs_T1.2 hs_B1 = true := by kernel_rfl
set_option maxHeartbeats 1600000 in
set_option maxRecDepth 100000 in
theorem hsum_calls (gh : Nat) (A : Option Addr) (c : Nat) (l : List Int) (w : World) (hg : w.heap[gh]? = some (.cells hk 72 (0, 0))) (hr : B.C w A l.length l) (hc : l.length ≤ c) (hb : Sha.bytes l) (hl : l.length < 100000000) :
    Calls Tryd.prog 28 #[.pointer (some ⟨gh, 0, none⟩), .slice A l.length c] w fun e w' => e = .returned (vd (shaI l)) ∧ Below w.heap.size w w' := by
  have HR := Aside0.mk hr
  have HY := Aside0.mk hb
  have HG := Aside0.mk hg
  have HSL := Aside0.mk (shaI_len l)
  have HDR := Aside0.mk (shaR l)
  clear hr hb hg
  generalize hD : shaI l = D at HSL HDR ⊢
  clear hD
  have HDD := Aside0.mk HDR.out.symm
  clear HDR
  go_enter Tryd.func28, Tryd.ntmps28
  go_upto_region 1 with (fail)
  obtain ⟨w1, hw1, HB1, HD, HZ1⟩ := dg_start w
  rw [hw1]
  clear hw1
  have hS0 : w1.drew.heap[gh]? = some (.cells hk 72 (0, 0)) := (show w1.heap[gh]? = _ from heap_keep HG.out HB1.out)
  refine start_ (n := 11) (S := fun w' => w'.heap[gh]? = some (.cells hk 72 (0, 0))) (ds := [9,10]) #[false, false, false, false, false, false, false, false, false, false, false] (by kernel_rfl) rfl rfl (by exact hS0) (fun hHeld => ?_)
  refine with_tabW hs_tab1 hs_bits1 (fun HT_ HW_ => ?_)
  refine pure_ (i := 0) (N := some 5) (v := ?_) (a' := ?_) #[true, false, false, false, false, false, false, false, false, false, false] rfl rfl (any_of HT_.out (by kernel_rfl)) (fun _ _ _ h => h) (Or.inl ⟨by rfl, ?_⟩) ?_ ?_
  rotate_left
  · intro w'
    go_simp
    with_reducible rfl
  rotate_left
  · simp only [Act.put, List.setIfInBounds_toArray, List.set_cons_zero, List.set_cons_succ, i64_w, i32_w]
    rfl
  refine pure_ (i := 1) (N := some 6) (v := ?_) (a' := ?_) #[true, true, false, false, false, false, false, false, false, false, false] rfl rfl (any_of HT_.out (by kernel_rfl)) (fun _ _ _ h => h) (Or.inl ⟨by rfl, ?_⟩) ?_ ?_
  rotate_left
  · intro w'
    go_simp
    with_reducible rfl
  rotate_left
  · simp only [Act.put, List.setIfInBounds_toArray, List.set_cons_zero, List.set_cons_succ, i64_w, i32_w]
    rfl
  refine pure_ (i := 2) (N := some 7) (v := ?_) (a' := ?_) #[true, true, true, false, false, false, false, false, false, false, false] rfl rfl (any_of HT_.out (by kernel_rfl)) (fun _ _ _ h => h) (Or.inl ⟨by rfl, ?_⟩) ?_ ?_
  rotate_left
  · intro w'
    go_simp
    with_reducible rfl
  rotate_left
  · simp only [Act.put, List.setIfInBounds_toArray, List.set_cons_zero, List.set_cons_succ, i64_w, i32_w]
    rfl
  refine pure_ (i := 4) (N := some 9) (v := ?_) (a' := ?_) #[true, true, true, false, true, false, false, false, false, false, false] rfl rfl (any_of HT_.out (by kernel_rfl)) (fun _ _ _ h => h) (Or.inl ⟨by rfl, ?_⟩) ?_ ?_
  rotate_left
  · intro w'
    go_simp
    with_reducible rfl
  rotate_left
  · simp only [Act.put, List.setIfInBounds_toArray, List.set_cons_zero, List.set_cons_succ, i64_w, i32_w]
    rfl
  refine pure_ (i := 5) (N := some 10) (v := ?_) (a' := ?_) #[true, true, true, false, true, true, false, false, false, false, false] rfl rfl (any_of HT_.out (by kernel_rfl)) (fun _ _ _ h => h) (Or.inl ⟨by rfl, ?_⟩) ?_ ?_
  rotate_left
  · intro w'
    go_simp
    with_reducible rfl
  rotate_left
  · simp only [Act.put, List.setIfInBounds_toArray, List.set_cons_zero, List.set_cons_succ, i64_w, i32_w]
    rfl
  refine pure_ (i := 6) (N := some 11) (v := ?_) (a' := ?_) #[true, true, true, false, true, true, true, false, false, false, false] rfl rfl (any_of HT_.out (by kernel_rfl)) (fun _ _ _ h => h) (Or.inl ⟨by rfl, ?_⟩) ?_ ?_
  rotate_left
  · intro w'
    go_simp
    with_reducible rfl
  rotate_left
  · simp only [Act.put, List.setIfInBounds_toArray, List.set_cons_zero, List.set_cons_succ, i64_w, i32_w]
    rfl
  refine pure_ (i := 8) (N := some 13) (v := ?_) (a' := ?_) #[true, true, true, false, true, true, true, false, true, false, false] rfl rfl (any_of HT_.out (by kernel_rfl)) (fun _ _ _ h => h) (Or.inl ⟨by rfl, ?_⟩) ?_ ?_
  rotate_left
  · intro w'
    go_simp
    with_reducible rfl
  rotate_left
  · simp only [Act.put, List.setIfInBounds_toArray, List.set_cons_zero, List.set_cons_succ, i64_w, i32_w]
    rfl
  refine take_ (i := 3) (N := some 8) (v := ?_) (a' := ?_) #[true, true, true, true, true, true, true, false, true, false, false] rfl rfl (take_ofW HT_.out HW_.out (by kernel_rfl)) (fun _ _ _ h => h) (Or.inl ⟨by rfl, ?_⟩) hHeld ?_ ?_
  rotate_left
  · intro w' hSt
    refine (exec_load (p := .pointer (some ⟨gh, 0, none⟩)) rfl rfl (hk_load0 hSt)).trans ?_
    with_reducible rfl
  rotate_left
  · simp only [Act.put, List.setIfInBounds_toArray, List.set_cons_zero, List.set_cons_succ, i64_w, i32_w]
    rfl
  refine take_ (i := 7) (N := some 12) (v := ?_) (a' := ?_) #[true, true, true, true, true, true, true, true, true, false, false] rfl rfl (take_ofW HT_.out HW_.out (by kernel_rfl)) (fun _ _ _ h => h) (Or.inl ⟨by rfl, ?_⟩) hHeld ?_ ?_
  rotate_left
  · intro w' hSt
    refine (exec_load (p := .pointer (some ⟨gh, 8, none⟩)) rfl rfl (hk_load1 hSt)).trans ?_
    with_reducible rfl
  rotate_left
  · simp only [Act.put, List.setIfInBounds_toArray, List.set_cons_zero, List.set_cons_succ, i64_w, i32_w]
    rfl
  refine last_ (i := 9) (N := some 14) #[true, true, true, true, true, true, true, true, true, true, false] rfl rfl (one_of HT_.out (by kernel_rfl)) (by decide) (fun K hK => ?_)
  refine goes_ Tryd.func54 (by kernel_rfl) rfl #[v8 fS, .agg (cw kTab), .slice A l.length c] (by rfl) rfl rfl (by (try simp only [List.map_toArray, List.map_cons, List.map_nil]); first | done | rfl) ?_
  refine (rsum_calls fS fS_rng A c l _ (Kd.C_below HR.out (below_drew1 HB1.out)) hc HY.out hl).mono ?_
  rintro e w3 ⟨rfl, hb⟩
  refine ⟨_, rfl, ?_⟩
  rw [HDD.out]
  have HB2 := Aside0.mk (below_step (below_drew1 HB1.out) hb)
  have HD2 := Aside0.mk (heap_keep (show w1.drew.heap[w.heap.size]? = _ from HD.out) hb)
  clear hb
  refine hK.out _ _ ?_
  clear hK K
  refine norm_ (a' := ?_) ?_ ?_
  rotate_left
  · first
    | (show Act.put _ (some 14) _ = _; simp only [Act.put, List.setIfInBounds_toArray, List.set_cons_zero, List.set_cons_succ, i64_w, i32_w]; rfl)
    | rfl
  refine last_ (i := 10) (N := none) #[true, true, true, true, true, true, true, true, true, true, true] rfl rfl (one_of HT_.out (by kernel_rfl)) (by decide) (fun K hK => ?_)
  refine storeRow_step (by rfl) 31 (.tmp 4) (.tmp 14) rfl w.heap.size (cb D) rfl rfl 31 _ HD2.out (infoDg _ HSL.out) (by rw [cb_size, cb_size, HSL.out]; simp) (cb_one _) ?_
  refine hK.out _ _ ?_
  clear hK K
  refine norm_ (a' := ?_) ?_ ?_
  rotate_left
  · first
    | (show Act.put _ none _ = _; simp only [Act.put, List.setIfInBounds_toArray, List.set_cons_zero, List.set_cons_succ, i64_w, i32_w]; rfl)
    | rfl
  refine done_ (done_of HT_.out (by kernel_rfl)) ?_
  clear hS0 hHeld HT_ HW_
  go_wp2
  (try simp only [Exit.inBlock, Exit.then])
  exact dg_ret rfl rfl HSL.out (setRow_heap _ _ _ _ _ _ HD2.out) rfl ⟨rfl, below_setRow HB2.out (Nat.le_refl _) _⟩
end Go.Proofs.YtoiblfmlahedlaaDoor.Ref
end
