/- What calls of Go functions of this seat come to, as the rows need it: under the conditions that each theorem names. -/
import Derived.Test.YtllcofllnjgkcaaDoorRefE
namespace Go.Proofs.YtllcofllnjgkcaaDoor.Ref
open Go.RowKit Go.Proofs.YtllcofllnjgkcaaDoorW.PrintWords Go.Proofs.YtllcofllnjgkcaaDoorW.PrintLast Go.Proofs.YtllcofllnjgkcaaDoorW.PrintMore
set_option linter.unusedVariables false
set_option linter.unusedSimpArgs false
open Go.Proofs.YtllcofllnjgkcaaDoor.Sha
def pN (k : Nat) : Nat := (rd P64 (k : Int)).toNat
theorem pN_ok (k : Nat) (h : k < 64) : rd P64 (k : Int) = (pN k : Int) ∧ pN k < 65536 := by
  have key : ∀ k : Fin 64, rd P64 ((k.val : Nat) : Int) = (pN k.val : Int) ∧ pN k.val < 65536 := by decide +kernel
  exact key ⟨k, h⟩
def rK (k : Nat) : Int := ((rootF (pN k) 3 38 0 137438953472 % 4294967296 : Nat) : Int)
def rH (k : Nat) : Int := ((rootF (pN k) 2 38 0 137438953472 % 4294967296 : Nat) : Int)
def ksN : Nat → List Int
  | 0 => List.replicate 64 0
  | n + 1 => (ksN n).set n (rK n)
def hsN : Nat → List Int
  | 0 => List.replicate 8 0
  | n + 1 => if n < 8 then (hsN n).set n (rH n) else hsN n
theorem ksN_len (n : Nat) : (ksN n).length = 64 := by
  induction n with
  | zero => simp [ksN]
  | succ n ih => simp [ksN, ih]
theorem hsN_len (n : Nat) : (hsN n).length = 8 := by
  induction n with
  | zero => simp [hsN]
  | succ n ih => unfold hsN; split <;> simp [ih]
set_option maxRecDepth 100000 in
theorem ksN_all : ksN 64 = kTab := by decide +kernel
set_option maxRecDepth 100000 in
theorem hsN_all : hsN 64 = fTab := by decide +kernel
theorem cw_size (l : List Int) : (cw l).size = l.length := by simp [cw]
theorem cw_one (l : List Int) : (cw l).all (·.oneCell') = true := by
  rw [Array.all_eq_true_iff_forall_mem]
  intro v hv
  unfold cw at hv
  simp only [List.mem_toArray, List.mem_map] at hv
  obtain ⟨x, _, rfl⟩ := hv
  rfl
theorem infoH (l : List Int) (h : l.length = 8) : (Tryd.prog.info? 49).map (·.size) = some (cw l).size := by rw [cw_size, h]; kernel_rfl
theorem infoK (l : List Int) (h : l.length = 64) : (Tryd.prog.info? 50).map (·.size) = some (cw l).size := by rw [cw_size, h]; kernel_rfl
/-- What Words has in memory. -/
structure Wm (w0 w : World) (h k : List Int) : Prop where
  a : w.heap[w0.heap.size]? = some (.cells (cw (List.replicate 8 0)) 49 (0, 0))
  b : w.heap[w0.heap.size + 1]? = some (.cells (cw (List.replicate 64 0)) 50 (0, 0))
  h : w.heap[w0.heap.size + 1 + 1]? = some (.cells (cw h) 49 (0, 0))
  k : w.heap[w0.heap.size + 1 + 1 + 1]? = some (.cells (cw k) 50 (0, 0))
  l : Below w0.heap.size w0 w
theorem Wm.below {w0 w w' : World} {h k : List Int} (H : Wm w0 w h k) (hb : Below w.heap.size w w') : Wm w0 w' h k := ⟨heap_keep H.a hb, heap_keep H.b hb, heap_keep H.h hb, heap_keep H.k hb, below_step H.l hb⟩
theorem Wm.setK {w0 w : World} {h k : List Int} (H : Wm w0 w h k) (j : Nat) (x : Int) : Wm w0 (w.setCell ⟨w0.heap.size + 1 + 1 + 1, j, none⟩ (.int .u32 x)) h (k.set j x) :=
  ⟨blk_far H.a (p := ⟨w0.heap.size + 1 + 1 + 1, j, none⟩) (by first | (show _ ≠ _; simp; done) | (show _ ≠ _; simp; omega)) _, blk_far H.b (p := ⟨w0.heap.size + 1 + 1 + 1, j, none⟩) (by first | (show _ ≠ _; simp; done) | (show _ ≠ _; simp; omega)) _, blk_far H.h (p := ⟨w0.heap.size + 1 + 1 + 1, j, none⟩) (by first | (show _ ≠ _; simp; done) | (show _ ≠ _; simp; omega)) _, by rw [← cw_set]; exact blk_set H.k j _, H.l.setCell (p := ⟨w0.heap.size + 1 + 1 + 1, j, none⟩) (by show w0.heap.size ≤ w0.heap.size + 1 + 1 + 1; omega) _⟩
theorem Wm.setH {w0 w : World} {h k : List Int} (H : Wm w0 w h k) (j : Nat) (x : Int) : Wm w0 (w.setCell ⟨w0.heap.size + 1 + 1, j, none⟩ (.int .u32 x)) (h.set j x) k :=
  ⟨blk_far H.a (p := ⟨w0.heap.size + 1 + 1, j, none⟩) (by first | (show _ ≠ _; simp; done) | (show _ ≠ _; simp; omega)) _, blk_far H.b (p := ⟨w0.heap.size + 1 + 1, j, none⟩) (by first | (show _ ≠ _; simp; done) | (show _ ≠ _; simp; omega)) _, by rw [← cw_set]; exact blk_set H.h j _, blk_far H.k (p := ⟨w0.heap.size + 1 + 1, j, none⟩) (by first | (show _ ≠ _; simp; done) | (show _ ≠ _; simp; omega)) _, H.l.setCell (p := ⟨w0.heap.size + 1 + 1, j, none⟩) (by show w0.heap.size ≤ w0.heap.size + 1 + 1; omega) _⟩
theorem Wm.start (w : World) : Wm w ((((w.alloc (.cells (cw (List.replicate 8 0)) 49)).alloc (.cells (cw (List.replicate 64 0)) 50)).alloc (.cells (cw (List.replicate 8 0)) 49)).alloc (.cells (cw (List.replicate 64 0)) 50)) (List.replicate 8 0) (List.replicate 64 0) :=
  ⟨by rw [Below.heap_alloc _ _ _ (by first | (simp; done) | (simp; omega)), Below.heap_alloc _ _ _ (by first | (simp; done) | (simp; omega)), Below.heap_alloc _ _ _ (by simp)]; exact Sha.heap_new _ _, by rw [Below.heap_alloc _ _ _ (by first | (simp; done) | (simp; omega)), Below.heap_alloc _ _ _ (by simp)]; exact Sha.heap_new' _ _ _ (by simp), by rw [Below.heap_alloc _ _ _ (by simp)]; exact Sha.heap_new' _ _ _ (by simp), Sha.heap_new' _ _ _ (by simp), ((((Below.refl w.heap.size w).alloc (Nat.le_refl _) _).alloc (by simp) _).alloc (by first | (simp; done) | (simp; omega)) _).alloc (by first | (simp; done) | (simp; omega)) _⟩
theorem Wm.frK {w0 w : World} {h k : List Int} (H : Wm w0 w h k) (j : Nat) : w.frozen? ⟨w0.heap.size + 1 + 1 + 1, j, none⟩ = false := by simp [World.frozen?, H.k]
theorem Wm.frH {w0 w : World} {h k : List Int} (H : Wm w0 w h k) (j : Nat) : w.frozen? ⟨w0.heap.size + 1 + 1, j, none⟩ = false := by simp [World.frozen?, H.h]
section
variable {P : Program}
theorem results_cell2 {fn : Func} {p q : Tmp} {ty uy : TypeId} (h : fn.results = #[.cell p ty, .cell q uy]) (tmps : Array Value) (w : World) (g1 g2 : Nat) (t u : TypeId) (cs ds : Array Value) (d1 d2 : TypeDesc)
    (hp : tmps.getD p undef = .pointer (some ⟨g1, 0, none⟩)) (hg : w.heap[g1]? = some (.cells cs t (0, 0))) (hu : P.underlying ty = some d1) (hd : (match d1 with | .struct _ | .array _ _ => true | _ => false) = true) (hi : (P.info? ty).map (·.size) = some cs.size)
    (hq : tmps.getD q undef = .pointer (some ⟨g2, 0, none⟩)) (hg2 : w.heap[g2]? = some (.cells ds u (0, 0))) (hu2 : P.underlying uy = some d2) (hd2 : (match d2 with | .struct _ | .array _ _ => true | _ => false) = true) (hi2 : (P.info? uy).map (·.size) = some ds.size) :
    (results fn tmps).run P w = .ok (.tuple #[.agg cs, .agg ds]) w := by
  have hp' : tmps[p]?.getD undef = .pointer (some ⟨g1, 0, none⟩) := by simpa using hp
  have hq' : tmps[q]?.getD undef = .pointer (some ⟨g2, 0, none⟩) := by simpa using hq
  simp [results, h, hp', hq', asAddr, run_loadVar_row w g1 t ty cs (0, 0) d1 hg hu hd hi, run_loadVar_row w g2 u uy ds (0, 0) d2 hg2 hu2 hd2 hi2]
end
def wrd_T10 : Bool × List (List Nat × List Nat) := (true, [([], []), ([], []), ([0, 0], [0]), ([1, 2, 0, 1, 2], [1])])
def wrd_B10 : List Nat := [0, 0, 1, 7]
theorem wrd_tab10 : rtab .any (opsOf Tryd.f26 10) = wrd_T10 := by kernel_rfl
theorem wrd_bits10 : waitsOk wrd_T10.2 wrd_B10 = true := by kernel_rfl
set_option maxHeartbeats 1600000 in
set_option maxRecDepth 100000 in
theorem words_calls (w : World) : Calls Tryd.prog 26 #[] w fun e w' => e = .returned (.tuple #[.agg (cw fTab), .agg (cw kTab)]) ∧ Below w.heap.size w w' := by
  go_enter Tryd.func26, Tryd.ntmps26
  go_upto_region 3 with (fail)
  obtain ⟨w1, hw1, HM⟩ : ∃ w1, (((w.alloc (.cells #[.int .u32 0, .int .u32 0, .int .u32 0, .int .u32 0, .int .u32 0, .int .u32 0, .int .u32 0, .int .u32 0] 49)).alloc (.cells #[.int .u32 0, .int .u32 0, .int .u32 0, .int .u32 0, .int .u32 0, .int .u32 0, .int .u32 0, .int .u32 0, .int .u32 0, .int .u32 0, .int .u32 0, .int .u32 0, .int .u32 0, .int .u32 0, .int .u32 0, .int .u32 0, .int .u32 0, .int .u32 0, .int .u32 0, .int .u32 0, .int .u32 0, .int .u32 0, .int .u32 0, .int .u32 0, .int .u32 0, .int .u32 0, .int .u32 0, .int .u32 0, .int .u32 0, .int .u32 0, .int .u32 0, .int .u32 0, .int .u32 0, .int .u32 0, .int .u32 0, .int .u32 0, .int .u32 0, .int .u32 0, .int .u32 0, .int .u32 0, .int .u32 0, .int .u32 0, .int .u32 0, .int .u32 0, .int .u32 0, .int .u32 0, .int .u32 0, .int .u32 0, .int .u32 0, .int .u32 0, .int .u32 0, .int .u32 0, .int .u32 0, .int .u32 0, .int .u32 0, .int .u32 0, .int .u32 0, .int .u32 0, .int .u32 0, .int .u32 0, .int .u32 0, .int .u32 0, .int .u32 0, .int .u32 0] 50)).alloc (.cells #[.int .u32 0, .int .u32 0, .int .u32 0, .int .u32 0, .int .u32 0, .int .u32 0, .int .u32 0, .int .u32 0] 49)).alloc (.cells #[.int .u32 0, .int .u32 0, .int .u32 0, .int .u32 0, .int .u32 0, .int .u32 0, .int .u32 0, .int .u32 0, .int .u32 0, .int .u32 0, .int .u32 0, .int .u32 0, .int .u32 0, .int .u32 0, .int .u32 0, .int .u32 0, .int .u32 0, .int .u32 0, .int .u32 0, .int .u32 0, .int .u32 0, .int .u32 0, .int .u32 0, .int .u32 0, .int .u32 0, .int .u32 0, .int .u32 0, .int .u32 0, .int .u32 0, .int .u32 0, .int .u32 0, .int .u32 0, .int .u32 0, .int .u32 0, .int .u32 0, .int .u32 0, .int .u32 0, .int .u32 0, .int .u32 0, .int .u32 0, .int .u32 0, .int .u32 0, .int .u32 0, .int .u32 0, .int .u32 0, .int .u32 0, .int .u32 0, .int .u32 0, .int .u32 0, .int .u32 0, .int .u32 0, .int .u32 0, .int .u32 0, .int .u32 0, .int .u32 0, .int .u32 0, .int .u32 0, .int .u32 0, .int .u32 0, .int .u32 0, .int .u32 0, .int .u32 0, .int .u32 0, .int .u32 0] 50) = w1 ∧ Aside0 (Wm w w1 (List.replicate 8 0) (List.replicate 64 0)) := ⟨_, rfl, ⟨Wm.start w⟩⟩
  rw [hw1]
  clear hw1
  have HB1S := Aside0.mk (show w.heap.size + 1 + 1 + 1 < w1.heap.size from (Array.getElem?_eq_some_iff.1 HM.out.k).1)
  go_wp2_with fail
  refine (primes_calls _).mono ?_
  rintro e w2 ⟨v, rfl, ho, hb⟩
  replace HM := Aside0.mk (HM.out.below hb)
  obtain ⟨A, c, rfl, hc, hr⟩ := Kd.R_reads ho
  obtain ⟨ad, rfl, _⟩ := Kd.at_int hr 0 (by omega) (by rw [P64_len]; omega)
  have HR64 := Aside0.mk (show Kd.R KI 3 w2 w1.heap.size (fun k => w1.heap.size ≤ k) (.slice (some ad) 64 c) P64 from Kd.R_mono (Kd.R_bound ho) (fun k hk => hk.2.1))
  have hB1 := Aside0.mk (show w.heap.size + 1 + 1 + 1 < w1.heap.size from HB1S.out)
  clear ho hb hr
  rw [P64_len] at hc ⊢
  generalize w1.heap.size = B1 at *
  go_wp2
  go_loopw [5] (fun v wr => ∃ n : Nat, n ≤ 64 ∧ v = .int .i64 (n : Int) ∧ Aside0 (Wm w wr (hsN n) (ksN n)) ∧ Aside0 (Kd.R KI 3 wr B1 (fun k => B1 ≤ k) (.slice (some ad) 64 c) P64)) (fun v _ => 64 - (intOf v).toNat)
  case atStart => exact ⟨0, by omega, rfl, HM, HR64⟩
  case round =>
    clear HM HR64
    obtain ⟨n, hn, rfl, HM, HR⟩ := hrel
    by_cases hlt : n < 64
    · have hn64 : (n : Int) < 64 := by omega
      obtain ⟨hpn, hp6⟩ := pN_ok n hlt
      obtain ⟨ad', e', hx⟩ := Kd.at_int (Kd.R_reads' HR.out).2.2 (n : Int) (by omega) (by rw [P64_len]; omega)
      cases e'
      rw [Int.toNat_natCast, hpn] at hx
      have HK := Aside0.mk (show ksN (n + 1) = (ksN n).set n (rK n) from rfl)
      have HKV := Aside0.mk (show rK n = ((rootF (pN n) 3 38 0 137438953472 % 4294967296 : Nat) : Int) from rfl)
      go_wp2_with fail
      refine (root_calls (pN n) 3 _ hp6 (by omega) (by omega)).mono ?_
      rintro e w3 ⟨rfl, hb⟩
      rw [← HKV.out]
      replace HM := Aside0.mk (HM.out.below hb)
      replace HR := Aside0.mk (Kd.R_below HR.out hb)
      have hck := (cell_of HM.out.k).2 (cw_get (xs := ksN n) (j := n) (by rw [ksN_len]; exact hlt))
      have hfk := HM.out.frK n
      generalize rd (ksN n) (n : Int) = kd at hck
      generalize rK n = kv at *
      have HM2 := Aside0.mk (HM.out.setK n kv)
      rw [← HK.out] at HM2
      have HR2 := Aside0.mk (Kd.R_far HR.out (p := ⟨w.heap.size + 1 + 1 + 1, n, none⟩) (fun k hk => by show k ≠ w.heap.size + 1 + 1 + 1; have := hB1.out; omega) (.int .u32 kv))
      clear hx hb
      by_cases h8 : n < 8
      · have hn8 : (n : Int) < 8 := by omega
        have HHN := Aside0.mk (show hsN (n + 1) = (hsN n).set n (rH n) by show (if n < 8 then _ else _) = _; rw [if_pos h8])
        have HHV := Aside0.mk (show rH n = ((rootF (pN n) 2 38 0 137438953472 % 4294967296 : Nat) : Int) from rfl)
        obtain ⟨w4, hw4⟩ : ∃ w4, w4 = w3.setCell ⟨w.heap.size + 1 + 1 + 1, n, none⟩ (.int .u32 kv) := ⟨_, rfl⟩
        rw [← hw4] at HM2 HR2
        obtain ⟨ad', e', hx⟩ := Kd.at_int (Kd.R_reads' HR2.out).2.2 (n : Int) (by omega) (by rw [P64_len]; omega)
        cases e'
        rw [Int.toNat_natCast, hpn] at hx
        have hw4' := hw4.symm
        clear hw4
        go_wp2_with fail
        refine (root_calls (pN n) 2 _ hp6 (by omega) (by omega)).mono ?_
        rintro e w5 ⟨rfl, hb⟩
        rw [← HHV.out]
        replace HM2 := Aside0.mk (HM2.out.below hb)
        replace HR2 := Aside0.mk (Kd.R_below HR2.out hb)
        have hch := (cell_of HM2.out.h).2 (cw_get (xs := hsN n) (j := n) (by rw [hsN_len]; exact h8))
        have hfh := HM2.out.frH n
        generalize rd (hsN n) (n : Int) = hd at hch
        generalize rH n = hv at *
        have HM3 := Aside0.mk (HM2.out.setH n hv)
        rw [← HHN.out] at HM3
        have HR3 := Aside0.mk (Kd.R_far HR2.out (p := ⟨w.heap.size + 1 + 1, n, none⟩) (fun k hk => by show k ≠ w.heap.size + 1 + 1; have := hB1.out; omega) (.int .u32 hv))
        clear hx hb hck hfk hw4'
        go_wp2
        go_roundw
        case rel => exact ⟨n + 1, by omega, by go_num, HM3, HR3⟩
        case measure => simp [intOf]; omega
      · have hn8 : ¬ ((n : Int) < 8) := by omega
        have HHN := Aside0.mk (show hsN (n + 1) = hsN n by show (if n < 8 then _ else _) = _; rw [if_neg h8])
        rw [← HHN.out] at HM2
        go_wp2
        go_roundw
        case rel => exact ⟨n + 1, by omega, by go_num, HM2, HR2⟩
        case measure => simp [intOf]; omega
    · obtain rfl : n = 64 := by omega
      rw [hsN_all, ksN_all] at HM
      clear hlt hn HR
      have HG1 := Aside0.mk (show (wr.drew.setRow w.heap.size (cw fTab)).heap[w.heap.size + 1]? = some (.cells (cw (List.replicate 64 0)) 50 (0, 0)) from (setRow_other _ _ _ _ (by omega)).trans HM.out.b)
      have hS0 : wr.drew.heap[w.heap.size + 1 + 1]? = some (.cells (cw fTab) 49 (0, 0)) ∧ wr.drew.heap[w.heap.size + 1 + 1 + 1]? = some (.cells (cw kTab) 50 (0, 0)) := ⟨HM.out.h, HM.out.k⟩
      go_upto_region 10 with (fail)
      refine start_ (n := 4) (S := fun w' => w'.heap[w.heap.size + 1 + 1]? = some (.cells (cw fTab) 49 (0, 0)) ∧ w'.heap[w.heap.size + 1 + 1 + 1]? = some (.cells (cw kTab) 50 (0, 0))) (ds := [3]) #[false, false, false, false] (by kernel_rfl) rfl rfl (by exact hS0) (fun hHeld => ?_)
      refine with_tabW wrd_tab10 wrd_bits10 (fun HT_ HW_ => ?_)
      refine take_ (i := 0) (N := some 27) (v := ?_) (a' := ?_) #[true, false, false, false] rfl rfl (take_ofW HT_.out HW_.out (by kernel_rfl)) (fun _ _ _ h => h) (Or.inl ⟨by rfl, ?_⟩) hHeld ?_ ?_
      rotate_left
      · intro w' hSt
        refine (exec_load (p := .pointer (some ⟨w.heap.size + 1 + 1, 0, none⟩)) rfl rfl (loadRow_take _ _ _ _ _ hSt.1 Tryd.underlying49 rfl (infoH _ rfl))).trans ?_
        with_reducible rfl
      rotate_left
      · simp only [Act.put, List.setIfInBounds_toArray, List.set_cons_zero, List.set_cons_succ, i64_w, i32_w]
        rfl
      refine take_ (i := 1) (N := some 28) (v := ?_) (a' := ?_) #[true, true, false, false] rfl rfl (take_ofW HT_.out HW_.out (by kernel_rfl)) (fun _ _ _ h => h) (Or.inl ⟨by rfl, ?_⟩) hHeld ?_ ?_
      rotate_left
      · intro w' hSt
        refine (exec_load (p := .pointer (some ⟨w.heap.size + 1 + 1 + 1, 0, none⟩)) rfl rfl (loadRow_take _ _ _ _ _ hSt.2 Tryd.underlying50 rfl (infoK _ rfl))).trans ?_
        with_reducible rfl
      rotate_left
      · simp only [Act.put, List.setIfInBounds_toArray, List.set_cons_zero, List.set_cons_succ, i64_w, i32_w]
        rfl
      refine one_ (i := 2) (N := none) #[true, true, true, false] rfl rfl (one_of HT_.out (by kernel_rfl)) (by decide) (fun K hK => ?_)
      refine storeRow_step (by rfl) 49 (.tmp 0) (.tmp 27) rfl w.heap.size (cw fTab) rfl rfl 49 _ HM.out.a (infoH _ rfl) (by rw [cw_size, cw_size]; rfl) (cw_one _) ?_
      have hS1 := show (wr.drew.setRow w.heap.size (cw fTab)).heap[w.heap.size + 1 + 1]? = some (.cells (cw fTab) 49 (0, 0)) ∧ (wr.drew.setRow w.heap.size (cw fTab)).heap[w.heap.size + 1 + 1 + 1]? = some (.cells (cw kTab) 50 (0, 0)) from ⟨(setRow_other _ _ _ _ (by omega)).trans HM.out.h, (setRow_other _ _ _ _ (by omega)).trans HM.out.k⟩
      refine hK.out _ _ (by exact hS1) (fun hHeld => ?_)
      clear hK K
      refine norm_ (a' := ?_) ?_ ?_
      rotate_left
      · first
        | (show Act.put _ none _ = _; simp only [Act.put, List.setIfInBounds_toArray, List.set_cons_zero, List.set_cons_succ, i64_w, i32_w]; rfl)
        | rfl
      refine last_ (i := 3) (N := none) #[true, true, true, true] rfl rfl (one_of HT_.out (by kernel_rfl)) (by decide) (fun K hK => ?_)
      refine storeRow_step (by rfl) 50 (.tmp 1) (.tmp 28) rfl (w.heap.size + 1) (cw kTab) rfl rfl 50 _ HG1.out (infoK _ rfl) (by rw [cw_size, cw_size]; rfl) (cw_one _) ?_
      refine hK.out _ _ ?_
      clear hK K
      refine norm_ (a' := ?_) ?_ ?_
      rotate_left
      · first
        | (show Act.put _ none _ = _; simp only [Act.put, List.setIfInBounds_toArray, List.set_cons_zero, List.set_cons_succ, i64_w, i32_w]; rfl)
        | rfl
      refine done_ (done_of HT_.out (by kernel_rfl)) ?_
      clear hS0 hHeld HT_ HW_
      have HF0 := Aside0.mk (show ((wr.drew.setRow w.heap.size (cw fTab)).setRow (w.heap.size + 1) (cw kTab)).heap[w.heap.size]? = some (.cells (cw fTab) 49 (0, 0)) from (setRow_other _ _ _ _ (by omega)).trans (setRow_heap _ _ _ _ _ _ HM.out.a))
      have HF1 := Aside0.mk (show ((wr.drew.setRow w.heap.size (cw fTab)).setRow (w.heap.size + 1) (cw kTab)).heap[w.heap.size + 1]? = some (.cells (cw kTab) 50 (0, 0)) from setRow_heap _ _ _ _ _ _ HG1.out)
      have HB := Aside0.mk (below_setRow (below_setRow (below_drew1 HM.out.l) (Nat.le_refl _) (cw fTab)) (show w.heap.size ≤ w.heap.size + 1 by omega) (cw kTab))
      go_wp2
      (try simp only [Exit.inBlock, Exit.then])
      refine bodyPost_ret (results_cell2 rfl _ _ w.heap.size (w.heap.size + 1) 49 50 (cw fTab) (cw kTab) _ _ rfl HF0.out Tryd.underlying49 rfl (infoH _ rfl) rfl HF1.out Tryd.underlying50 rfl (infoK _ rfl)) rfl ?_
      exact ⟨rfl, HB.out⟩
end Go.Proofs.YtllcofllnjgkcaaDoor.Ref
