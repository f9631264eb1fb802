/- What calls of Go functions of this seat come to, as the rows need it: under the conditions that each theorem names. -/
import Derived.Test.YtllcofllnjgkcaaDoorRefB
namespace Go.Proofs.YtllcofllnjgkcaaDoor.Ref
open Go.RowKit Go.Proofs.YtllcofllnjgkcaaDoorW.PrintWords Go.Proofs.YtllcofllnjgkcaaDoorW.PrintLast Go.Proofs.YtllcofllnjgkcaaDoorW.PrintMore
set_option linter.unusedVariables false
set_option linter.unusedSimpArgs false
open Go.Proofs.YtllcofllnjgkcaaDoor.Sha
def c10 (l : List Nat) : Array Value := (l.map fun (n : Nat) => Value.int .u64 (n : Int)).toArray
abbrev v10 (l : List Nat) : Value := .agg (c10 l)
theorem c10_get {l : List Nat} {j : Nat} (h : j < l.length) : (c10 l)[j]? = some (.int .u64 ((l.getD j 0 : Nat) : Int)) := by
  unfold c10
  rw [List.getD_eq_getElem?_getD, List.getElem?_toArray, List.getElem?_map, List.getElem?_eq_getElem h]
  rfl
theorem c10_set (l : List Nat) (j x : Nat) : (c10 l).setIfInBounds j (.int .u64 (x : Int)) = c10 (l.set j x) := by
  unfold c10
  rw [List.setIfInBounds_toArray, List.map_set]
theorem c10_size (l : List Nat) : (c10 l).size = l.length := by simp [c10]
theorem c10_one (l : List Nat) : (c10 l).all (·.oneCell') = true := by
  rw [Array.all_eq_true_iff_forall_mem]
  intro v hv
  unfold c10 at hv
  simp only [List.mem_toArray, List.mem_map] at hv
  obtain ⟨x, _, rfl⟩ := hv
  rfl
theorem info10 (l : List Nat) (h : l.length = 10) : (Tryd.prog.info? 77).map (·.size) = some (c10 l).size := by
  rw [c10_size, h]
  kernel_rfl
def z10 : List Nat := List.replicate 10 0
/-- What times has in memory. -/
structure Tm (w0 w : World) (a b out : List Nat) : Prop where
  a : w.heap[w0.heap.size]? = some (.cells (c10 a) 77 (0, 0))
  b : w.heap[w0.heap.size + 1]? = some (.cells (c10 b) 77 (0, 0))
  z : w.heap[w0.heap.size + 1 + 1]? = some (.cells (c10 z10) 77 (0, 0))
  o : w.heap[w0.heap.size + 1 + 1 + 1]? = some (.cells (c10 out) 77 (0, 0))
  l : Below w0.heap.size w0 w
theorem Tm.drew {w0 w : World} {a b out : List Nat} (h : Tm w0 w a b out) : Tm w0 w.drew a b out := ⟨h.a, h.b, h.z, h.o, below_drew1 h.l⟩
theorem Tm.set {w0 w : World} {a b out : List Nat} (h : Tm w0 w a b out) (j x : Nat) : Tm w0 (w.setCell ⟨w0.heap.size + 1 + 1 + 1, j, none⟩ (.int .u64 (x : Int))) a b (out.set j x) :=
  ⟨blk_far h.a (p := ⟨w0.heap.size + 1 + 1 + 1, j, none⟩) (by first | (show _ ≠ _; simp; done) | (show _ ≠ _; simp; omega)) _, blk_far h.b (p := ⟨w0.heap.size + 1 + 1 + 1, j, none⟩) (by first | (show _ ≠ _; simp; done) | (show _ ≠ _; simp; omega)) _, blk_far h.z (p := ⟨w0.heap.size + 1 + 1 + 1, j, none⟩) (by first | (show _ ≠ _; simp; done) | (show _ ≠ _; simp; omega)) _, by rw [← c10_set]; exact blk_set h.o j _, h.l.setCell (p := ⟨w0.heap.size + 1 + 1 + 1, j, none⟩) (by show w0.heap.size ≤ w0.heap.size + 1 + 1 + 1; omega) _⟩
theorem Tm.start (w : World) (a b : List Nat) : Tm w ((((w.alloc (.cells (c10 a) 77)).alloc (.cells (c10 b) 77)).alloc (.cells (c10 z10) 77)).alloc (.cells (c10 z10) 77)) a b z10 :=
  ⟨by rw [Below.heap_alloc _ _ _ (by first | (simp; done) | (simp; omega)), Below.heap_alloc _ _ _ (by first | (simp; done) | (simp; omega)), Below.heap_alloc _ _ _ (by simp)]; exact Sha.heap_new _ _, by rw [Below.heap_alloc _ _ _ (by first | (simp; done) | (simp; omega)), Below.heap_alloc _ _ _ (by simp)]; exact Sha.heap_new' _ _ _ (by simp), by rw [Below.heap_alloc _ _ _ (by simp)]; exact Sha.heap_new' _ _ _ (by simp), Sha.heap_new' _ _ _ (by simp), ((((Below.refl w.heap.size w).alloc (Nat.le_refl _) _).alloc (by simp) _).alloc (by first | (simp; done) | (simp; omega)) _).alloc (by first | (simp; done) | (simp; omega)) _⟩
def tim_T9 : Bool × List (List Nat × List Nat) := (true, [([], []), ([], []), ([0, 1], [0, 1]), ([2], [2]), ([3], [3]), ([], []), ([5], [5]), ([6], [6]), ([], []), ([8], [8]), ([9], [9]), ([7, 10], [7, 10]), ([4, 11], [4, 11]), ([], []), ([12, 13], [12, 13]), ([14, 0, 1, 2, 3, 4, 5, 6, 7, 8, 9, 10, 11, 12, 13, 14], [14])])
def tim_B9 : List Nat := [0, 0, 3, 7, 15, 0, 32, 96, 0, 256, 768, 2016, 4095, 0, 16383, 32767]
theorem tim_tab9 : rtab .any (opsOf Tryd.f48 9) = tim_T9 := by kernel_rfl
theorem tim_bits9 : waitsOk tim_T9.2 tim_B9 = true := by kernel_rfl
theorem wrap_u64' (n : Int) (h0 : 0 ≤ n) (h1 : n < 18446744073709551616) : IntKind.u64.wrap n = n := by rw [IntKind.wrap_u64]; omega
theorem small_set {l : List Nat} (h : small l) (j x : Nat) (hx : x < 65536) : small (l.set j x) := fun y hy => by
  rcases List.mem_or_eq_of_mem_set hy with h1 | rfl
  · exact h y h1
  · exact hx
theorem small_getD {l : List Nat} (h : small l) (j : Nat) : l.getD j 0 < 65536 := by
  rw [List.getD_eq_getElem?_getD]
  cases hj : l[j]? with
  | none => simp
  | some x => simpa using h x (List.mem_of_getElem? hj)
set_option maxHeartbeats 1600000 in
set_option maxRecDepth 100000 in
theorem times_calls (a b : List Nat) (w : World) (ha : a.length = 10) (hb : b.length = 10) (hsa : small a) (hsb : small b) :
    Calls Tryd.prog 48 #[v10 a, v10 b] w fun e w' => ∃ out, e = .returned (v10 out) ∧ out.length = 10 ∧ small out ∧ num out = num a * num b % 65536 ^ 10 ∧ Below w.heap.size w w' := by
  have HLA := Aside0.mk ha
  have HLB := Aside0.mk hb
  have HSA := Aside0.mk hsa
  have HSB := Aside0.mk hsb
  clear ha hb hsa hsb
  go_enter Tryd.func48, Tryd.ntmps48
  go_wp2
  go_loopw [6] (fun v wr => ∃ (i : Nat) (out : List Nat), i ≤ 10 ∧ v = .int .i64 (i : Int) ∧ Aside0 (Tm w wr a b out) ∧ Aside0 (out.length = 10 ∧ small out) ∧ Aside0 (num out = num (a.take i) * num b % 65536 ^ 10)) (fun v _ => 10 - (intOf v).toNat)
  case atStart => exact ⟨0, z10, by omega, rfl, ⟨Tm.start w a b⟩, ⟨rfl, by intro x hx; obtain ⟨_, rfl⟩ := List.mem_replicate.1 hx; omega⟩, ⟨by simp [num]; decide⟩⟩
  case round =>
    obtain ⟨i, out, hi, rfl, HT, HO, HN⟩ := hrel
    by_cases hlt : i < 10
    · have hi10 : (i : Int) < 10 := by omega
      go_wp2
      go_loopw [7, 8] (fun vc v wr => ∃ (c k : Nat) (out2 : List Nat), i + k ≤ 10 ∧ c < 65536 ∧ vc = .int .u64 (c : Int) ∧ v = .int .i64 (k : Int) ∧ Aside0 (Tm w wr a b out2) ∧ Aside0 (out2.length = 10 ∧ small out2) ∧ Aside0 (num out2 + c * 65536 ^ (i + k) = num out + a.getD i 0 * 65536 ^ i * num (b.take k))) (fun _ v _ => 10 - (intOf v).toNat)
      case atStart => exact ⟨0, 0, out, by omega, by omega, rfl, rfl, HT, HO, ⟨by simp [num]⟩⟩
      case round =>
        clear HT
        obtain ⟨c, k, out2, hik, hc, rfl, rfl, HT, HO2, HI⟩ := hrel
        obtain ⟨p, hp⟩ : ∃ p, p = i + k := ⟨_, rfl⟩
        have hpi : (i : Int) + (k : Int) = (p : Int) := by omega
        have hp11 : p ≤ 10 := by omega
        by_cases hlt2 : p < 10
        · have hp10 : (p : Int) < 10 := by omega
          have hk10 : (k : Int) < 10 := by omega
          have hkb : k < b.length := by rw [HLB.out]; omega
          have hpo : p < out2.length := by rw [HO2.out.1]; exact hlt2
          obtain ⟨ai, hai⟩ : ∃ q, q = a.getD i 0 := ⟨_, rfl⟩
          obtain ⟨bk, hbk⟩ : ∃ q, q = b.getD k 0 := ⟨_, rfl⟩
          obtain ⟨o, hoe⟩ : ∃ q, q = out2.getD p 0 := ⟨_, rfl⟩
          have hai6 : ai < 65536 := by rw [hai]; exact small_getD HSA.out i
          have hbk6 : bk < 65536 := by rw [hbk]; exact small_getD HSB.out k
          have ho6 : o < 65536 := by rw [hoe]; exact small_getD HO2.out.2 p
          obtain ⟨ab, hab⟩ : ∃ q, q = ai * bk := ⟨_, rfl⟩
          have hab6 : ab ≤ 65535 * 65535 := by rw [hab]; exact Nat.mul_le_mul (by omega) (by omega)
          obtain ⟨s1, hs1⟩ : ∃ q, q = o + ab := ⟨_, rfl⟩
          obtain ⟨x, hx⟩ : ∃ q, q = s1 + c := ⟨_, rfl⟩
          have hxb : x ≤ 4294967295 := by omega
          have HLD := Aside0.mk (show (∀ w' : World, w'.heap = wr.heap → w'.cell? ⟨w.heap.size + 1 + 1 + 1, p, none⟩ = some (.int .u64 (o : Int))) ∧ (∀ w' : World, w'.heap = wr.heap → w'.cell? ⟨w.heap.size, i, none⟩ = some (.int .u64 (ai : Int))) ∧ (∀ w' : World, w'.heap = wr.heap → w'.cell? ⟨w.heap.size + 1, k, none⟩ = some (.int .u64 (bk : Int))) from
            ⟨fun w' hh => by rw [hoe]; exact (cell_of (show w'.heap[w.heap.size + 1 + 1 + 1]? = _ by rw [hh]; exact HT.out.o)).2 (c10_get hpo), fun w' hh => by rw [hai]; exact (cell_of (show w'.heap[w.heap.size]? = _ by rw [hh]; exact HT.out.a)).2 (c10_get (by rw [HLA.out]; exact hlt)), fun w' hh => by rw [hbk]; exact (cell_of (show w'.heap[w.heap.size + 1]? = _ by rw [hh]; exact HT.out.b)).2 (c10_get hkb)⟩)
          have HWP := Aside0.mk (show IntKind.i64.wrap (p : Int) = (p : Int) by simp [IntKind.wrap, IntKind.bits, IntKind.signed]; omega)
          have HMU := Aside0.mk (show IntKind.u64.wrap ((ai : Int) * (bk : Int)) = (ab : Int) by rw [show (ai : Int) * (bk : Int) = (ab : Int) by rw [hab]; simp]; exact wrap_u64' _ (by omega) (by omega))
          have HA1 := Aside0.mk (show IntKind.u64.wrap ((o : Int) + (ab : Int)) = (s1 : Int) by rw [show (o : Int) + (ab : Int) = (s1 : Int) by omega]; exact wrap_u64' _ (by omega) (by omega))
          have HA2 := Aside0.mk (show IntKind.u64.wrap ((s1 : Int) + (c : Int)) = (x : Int) by rw [show (s1 : Int) + (c : Int) = (x : Int) by omega]; exact wrap_u64' _ (by omega) (by omega))
          have HSTEP := Aside0.mk (show num (out2.set p (x % 65536)) + (x / 65536) * 65536 ^ (i + (k + 1)) = num out + a.getD i 0 * 65536 ^ i * num (b.take (k + 1)) by
            rw [hp]
            refine inner_step (by rw [← hp]; exact hpo) hkb ?_ HI.out
            rw [hx, hs1, hab, hoe, hai, hbk, hp])
          have hxd : x / 65536 < 65536 := by omega
          have hxm : x % 65536 < 65536 := by omega
          have HC := Aside0.mk (show i + (k + 1) ≤ 10 by omega)
          have hS0 : wr.drew.heap = wr.heap := rfl
          clear hp hai hbk hoe hab hs1 hx hik
          go_upto_region 9 with (fail)
          refine start_ (n := 16) (S := fun w' => w'.heap = wr.heap) (ds := []) #[false, false, false, false, false, false, false, false, false, false, false, false, false, false, false, false] (by kernel_rfl) rfl rfl (by exact hS0) (fun hHeld => ?_)
          refine with_tabW tim_tab9 tim_bits9 (fun HT_ HW_ => ?_)
          refine pure_ (i := 0) (N := some 20) (v := ?_) (a' := ?_) #[true, false, false, false, false, false, false, false, false, false, false, false, false, false, false, false] rfl rfl (any_of HT_.out (by kernel_rfl)) (fun _ _ _ h => h) (Or.inl ⟨by rfl, ?_⟩) ?_ ?_
          rotate_left
          · intro w'
            go_simp
            with_reducible rfl
          rotate_left
          · simp only [Act.put, List.setIfInBounds_toArray, List.set_cons_zero, List.set_cons_succ, i64_w, i32_w]
            rfl
          refine pure_ (i := 1) (N := some 21) (v := ?_) (a' := ?_) #[true, true, false, false, false, false, false, false, false, false, false, false, false, false, false, false] rfl rfl (any_of HT_.out (by kernel_rfl)) (fun _ _ _ h => h) (Or.inl ⟨by rfl, ?_⟩) ?_ ?_
          rotate_left
          · intro w'
            go_simp
            with_reducible rfl
          rotate_left
          · simp only [Act.put, List.setIfInBounds_toArray, List.set_cons_zero, List.set_cons_succ, i64_w, i32_w]
            rfl
          refine pure_ (i := 2) (N := some 22) (v := ?_) (a' := ?_) #[true, true, true, false, false, false, false, false, false, false, false, false, false, false, false, false] rfl rfl (any_of HT_.out (by kernel_rfl)) (fun _ _ _ h => h) (Or.inl ⟨by rfl, ?_⟩) ?_ ?_
          rotate_left
          · intro w'
            go_simp
            rw [HWP.out]
          rotate_left
          · simp only [Act.put, List.setIfInBounds_toArray, List.set_cons_zero, List.set_cons_succ, i64_w, i32_w]
            rfl
          refine pure_ (i := 3) (N := some 23) (v := ?_) (a' := ?_) #[true, true, true, true, false, false, false, false, false, false, false, false, false, false, false, false] rfl rfl (any_of HT_.out (by kernel_rfl)) (fun _ _ _ h => h) (Or.inl ⟨by rfl, ?_⟩) ?_ ?_
          rotate_left
          · intro w'
            go_simp
            with_reducible rfl
          rotate_left
          · simp only [Act.put, List.setIfInBounds_toArray, List.set_cons_zero, List.set_cons_succ, i64_w, i32_w]
            rfl
          refine take_ (i := 4) (N := some 24) (v := ?_) (a' := ?_) #[true, true, true, true, true, false, false, false, false, false, false, false, false, false, false, false] rfl rfl (take_ofW HT_.out HW_.out (by kernel_rfl)) (fun _ _ _ h => h) (Or.inl ⟨by rfl, ?_⟩) hHeld ?_ ?_
          rotate_left
          · intro w' hSt
            have hx := HLD.out.1 w' hSt
            go_simp
            with_reducible rfl
          rotate_left
          · simp only [Act.put, List.setIfInBounds_toArray, List.set_cons_zero, List.set_cons_succ, i64_w, i32_w]
            rfl
          refine pure_ (i := 5) (N := some 25) (v := ?_) (a' := ?_) #[true, true, true, true, true, true, false, false, false, false, false, false, false, false, false, false] rfl rfl (any_of HT_.out (by kernel_rfl)) (fun _ _ _ h => h) (Or.inl ⟨by rfl, ?_⟩) ?_ ?_
          rotate_left
          · intro w'
            go_simp
            with_reducible rfl
          rotate_left
          · simp only [Act.put, List.setIfInBounds_toArray, List.set_cons_zero, List.set_cons_succ, i64_w, i32_w]
            rfl
          refine pure_ (i := 6) (N := some 26) (v := ?_) (a' := ?_) #[true, true, true, true, true, true, true, false, false, false, false, false, false, false, false, false] rfl rfl (any_of HT_.out (by kernel_rfl)) (fun _ _ _ h => h) (Or.inl ⟨by rfl, ?_⟩) ?_ ?_
          rotate_left
          · intro w'
            go_simp
            with_reducible rfl
          rotate_left
          · simp only [Act.put, List.setIfInBounds_toArray, List.set_cons_zero, List.set_cons_succ, i64_w, i32_w]
            rfl
          refine take_ (i := 7) (N := some 27) (v := ?_) (a' := ?_) #[true, true, true, true, true, true, true, true, false, false, false, false, false, false, false, false] rfl rfl (take_ofW HT_.out HW_.out (by kernel_rfl)) (fun _ _ _ h => h) (Or.inl ⟨by rfl, ?_⟩) hHeld ?_ ?_
          rotate_left
          · intro w' hSt
            have hx := HLD.out.2.1 w' hSt
            go_simp
            with_reducible rfl
          rotate_left
          · simp only [Act.put, List.setIfInBounds_toArray, List.set_cons_zero, List.set_cons_succ, i64_w, i32_w]
            rfl
          refine pure_ (i := 8) (N := some 28) (v := ?_) (a' := ?_) #[true, true, true, true, true, true, true, true, true, false, false, false, false, false, false, false] rfl rfl (any_of HT_.out (by kernel_rfl)) (fun _ _ _ h => h) (Or.inl ⟨by rfl, ?_⟩) ?_ ?_
          rotate_left
          · intro w'
            go_simp
            with_reducible rfl
          rotate_left
          · simp only [Act.put, List.setIfInBounds_toArray, List.set_cons_zero, List.set_cons_succ, i64_w, i32_w]
            rfl
          refine pure_ (i := 9) (N := some 29) (v := ?_) (a' := ?_) #[true, true, true, true, true, true, true, true, true, true, false, false, false, false, false, false] rfl rfl (any_of HT_.out (by kernel_rfl)) (fun _ _ _ h => h) (Or.inl ⟨by rfl, ?_⟩) ?_ ?_
          rotate_left
          · intro w'
            go_simp
            with_reducible rfl
          rotate_left
          · simp only [Act.put, List.setIfInBounds_toArray, List.set_cons_zero, List.set_cons_succ, i64_w, i32_w]
            rfl
          refine take_ (i := 10) (N := some 30) (v := ?_) (a' := ?_) #[true, true, true, true, true, true, true, true, true, true, true, false, false, false, false, false] rfl rfl (take_ofW HT_.out HW_.out (by kernel_rfl)) (fun _ _ _ h => h) (Or.inl ⟨by rfl, ?_⟩) hHeld ?_ ?_
          rotate_left
          · intro w' hSt
            have hx := HLD.out.2.2 w' hSt
            go_simp
            with_reducible rfl
          rotate_left
          · simp only [Act.put, List.setIfInBounds_toArray, List.set_cons_zero, List.set_cons_succ, i64_w, i32_w]
            rfl
          refine pure_ (i := 11) (N := some 31) (v := ?_) (a' := ?_) #[true, true, true, true, true, true, true, true, true, true, true, true, false, false, false, false] rfl rfl (any_of HT_.out (by kernel_rfl)) (fun _ _ _ h => h) (Or.inl ⟨by rfl, ?_⟩) ?_ ?_
          rotate_left
          · intro w'
            go_simp
            rw [HMU.out]
          rotate_left
          · simp only [Act.put, List.setIfInBounds_toArray, List.set_cons_zero, List.set_cons_succ, i64_w, i32_w]
            rfl
          refine pure_ (i := 12) (N := some 32) (v := ?_) (a' := ?_) #[true, true, true, true, true, true, true, true, true, true, true, true, true, false, false, false] rfl rfl (any_of HT_.out (by kernel_rfl)) (fun _ _ _ h => h) (Or.inl ⟨by rfl, ?_⟩) ?_ ?_
          rotate_left
          · intro w'
            go_simp
            rw [HA1.out]
          rotate_left
          · simp only [Act.put, List.setIfInBounds_toArray, List.set_cons_zero, List.set_cons_succ, i64_w, i32_w]
            rfl
          refine pure_ (i := 13) (N := some 33) (v := ?_) (a' := ?_) #[true, true, true, true, true, true, true, true, true, true, true, true, true, true, false, false] rfl rfl (any_of HT_.out (by kernel_rfl)) (fun _ _ _ h => h) (Or.inl ⟨by rfl, ?_⟩) ?_ ?_
          rotate_left
          · intro w'
            go_simp
            with_reducible rfl
          rotate_left
          · simp only [Act.put, List.setIfInBounds_toArray, List.set_cons_zero, List.set_cons_succ, i64_w, i32_w]
            rfl
          refine pure_ (i := 14) (N := some 34) (v := ?_) (a' := ?_) #[true, true, true, true, true, true, true, true, true, true, true, true, true, true, true, false] rfl rfl (any_of HT_.out (by kernel_rfl)) (fun _ _ _ h => h) (Or.inl ⟨by rfl, ?_⟩) ?_ ?_
          rotate_left
          · intro w'
            go_simp
            rw [HA2.out]
          rotate_left
          · simp only [Act.put, List.setIfInBounds_toArray, List.set_cons_zero, List.set_cons_succ, i64_w, i32_w]
            rfl
          refine pure_ (i := 15) (N := some 9) (v := ?_) (a' := ?_) #[true, true, true, true, true, true, true, true, true, true, true, true, true, true, true, true] rfl rfl (any_of HT_.out (by kernel_rfl)) (fun _ _ _ h => h) (Or.inl ⟨by rfl, ?_⟩) ?_ ?_
          rotate_left
          · intro w'
            go_simp
            with_reducible rfl
          rotate_left
          · simp only [Act.put, List.setIfInBounds_toArray, List.set_cons_zero, List.set_cons_succ, i64_w, i32_w]
            rfl
          refine done_ (done_of HT_.out (by kernel_rfl)) ?_
          replace HT := Aside0.mk HT.out.drew
          clear hS0 hHeld HT_ HW_ HLD HMU HA1 HA2 HWP HI
          generalize wr.drew = w5 at HT ⊢
          have hx := (cell_of HT.out.o).2 (c10_get hpo)
          have hf : w5.frozen? ⟨w.heap.size + 1 + 1 + 1, p, none⟩ = false := by simp [World.frozen?, HT.out.o]
          generalize out2.getD p 0 = od at hx
          have HT2 := Aside0.mk (HT.out.set p (x % 65536))
          rw [show ((x % 65536 : Nat) : Int) = (x : Int) % 65536 from rfl] at HT2
          have HO3 := Aside0.mk (show (out2.set p (x % 65536)).length = 10 ∧ small (out2.set p (x % 65536)) from ⟨by rw [List.length_set]; exact HO2.out.1, small_set HO2.out.2 _ _ hxm⟩)
          have hx4 : x ≤ 4294967295 := hxb
          go_wp2
          go_roundw
          case rel => exact ⟨x / 65536, k + 1, _, HC.out, hxd, by go_num, by go_num, HT2, HO3, HSTEP⟩
          case measure => simp [intOf]; omega
        · have hp9 : ¬ ((p : Int) < 10) := by omega
          have hkk : k = 10 - i := by omega
          have HE := Aside0.mk (outer_end HLB.out HO2.out.1 HO2.out.2 hi (by rw [← hkk]; exact HI.out))
          have HE2 := Aside0.mk (show num out2 = num (a.take (i + 1)) * num b % 65536 ^ 10 by rw [HE.out]; exact outer_step (by rw [HLA.out]; exact hlt) HN.out)
          clear hp hkk HE HI hik
          go_wp2
          go_roundw
          case rel => exact ⟨i + 1, out2, by omega, by go_num, HT, HO2, HE2⟩
          case measure => simp [intOf]; omega
    · obtain rfl : i = 10 := by omega
      have HNN := Aside0.mk (show num out = num a * num b % 65536 ^ 10 by rw [HN.out, ← HLA.out, List.take_length])
      have HIO := Aside0.mk (info10 out HO.out.1)
      clear hlt hi
      rw [show ((10 : Nat) : Int) = 10 from rfl]
      go_wp2_with (first | (refine wpList_load_row rfl 77 (.tmp 5) rfl (w.heap.size + 1 + 1 + 1) rfl 77 (c10 out) (0, 0) _ HT.out.o Tryd.underlying77 rfl HIO.out ?_) | (refine wpList_store_row rfl 77 (.tmp 4) (.tmp 43) rfl (w.heap.size + 1 + 1) (c10 out) rfl rfl 77 _ HT.out.z HIO.out (by rw [c10_size, c10_size, HO.out.1]; rfl) (c10_one _) ?_))
      have HF := Aside0.mk (setRow_heap _ _ _ (c10 out) _ _ HT.out.z)
      have HB := Aside0.mk (below_setRow HT.out.l (show w.heap.size ≤ w.heap.size + 1 + 1 by omega) (c10 out))
      (try simp only [Exit.inBlock, Exit.then])
      refine bodyPost_ret (results_cell_row rfl _ _ (w.heap.size + 1 + 1) 77 (c10 out) (0, 0) _ rfl HF.out Tryd.underlying77 rfl HIO.out) rfl ?_
      exact ⟨out, rfl, HO.out.1, HO.out.2, HNN.out, HB.out⟩
end Go.Proofs.YtllcofllnjgkcaaDoor.Ref
