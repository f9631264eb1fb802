/- What calls of Go functions of this seat come to, as the rows need it: under the conditions that each theorem names. -/
import Derived.Test.YtneindaodfiabaaDoorRw
import Derived.Test.YtneindaodfiabaaDoorMoreB
import Derived.Test.YtneindaodfiabaaDoorWTab
import Derived.Test.YtneindaodfiabaaDoorWLast
namespace Go.Proofs.YtneindaodfiabaaDoor.Prog6
open Go.RowKit Go.Proofs.YtneindaodfiabaaDoorW.PrintWords Go.Proofs.YtneindaodfiabaaDoorW.PrintLast Go.Proofs.YtneindaodfiabaaDoorW.PrintMore
set_option linter.unusedVariables false
set_option linter.unusedSimpArgs false
open Go.Proofs.YtneindaodfiabaaDoor.Hand (uintL uint_calls bytesL bytes_calls uintL_ok uintL_err U3 bytesL_eq ruint_calls rbytes_calls)
/-- All blocks but one stay. -/
structure Ch (m : Nat) (w w' : World) : Prop where
  os : w'.os = w.os
  tape : w'.tape = w.tape
  output : w'.output = w.output
  size : w.heap.size ≤ w'.heap.size
  block : ∀ k, k < w.heap.size → k ≠ m → w'.heap[k]? = w.heap[k]?
theorem Ch.refl (m : Nat) (w : World) : Ch m w w := ⟨rfl, rfl, rfl, Nat.le_refl _, fun _ _ _ => rfl⟩
theorem Ch.trans {m : Nat} {a b c : World} (h : Ch m a b) (k : Ch m b c) : Ch m a c :=
  ⟨k.os.trans h.os, k.tape.trans h.tape, k.output.trans h.output, Nat.le_trans h.size k.size, fun i hi hm => (k.block i (Nat.lt_of_lt_of_le hi h.size) hm).trans (h.block i hi hm)⟩
theorem Ch.of_below {m : Nat} {w w' : World} (h : Below w.heap.size w w') : Ch m w w' := ⟨h.os, h.tape, h.output, h.size, fun k hk _ => h.block k hk⟩
theorem Ch.set (m j : Nat) (w : World) (v : Value) : Ch m w (w.setCell ⟨m, j, none⟩ v) :=
  have h : Below m w (w.setCell ⟨m, j, none⟩ v) := (Below.refl m w).setCell (p := ⟨m, j, none⟩) (Nat.le_refl m) v
  ⟨h.os, h.tape, h.output, h.size, fun k _ hm => Below.heap_setCell w ⟨m, j, none⟩ v k hm⟩
theorem Ch.below {m base : Nat} {w w' : World} (h : Ch m w w') (hb : base ≤ m) (hm : m < w.heap.size) : Below base w w' :=
  ⟨h.os, h.tape, h.output, h.size, fun k hk => h.block k (by omega) (by omega)⟩
theorem Ch.new {m : Nat} {w w' : World} (h : Ch m w w') (hm : w.heap.size ≤ m) : Below w.heap.size w w' :=
  ⟨h.os, h.tape, h.output, h.size, fun k hk => h.block k hk (by omega)⟩
abbrev rbytes := Go.Proofs.YtneindaodfiabaaDoor.Hand.bytes
abbrev RBy := Go.Proofs.YtneindaodfiabaaDoor.Hand.B
/-- The reader's block: the bytes, the place, whether something was wrong. -/
def Rd (w : World) (g : Nat) (A : Option Addr) (n c : Nat) (s : Int × Bool) : Prop := w.heap[g]? = some (.cells #[.slice A n c, .int .i64 s.1, .bool s.2] 44 (0, 0))
theorem Rd.cells {w : World} {g : Nat} {A : Option Addr} {n c : Nat} {s : Int × Bool} (h : Rd w g A n c s) : w.cell? ⟨g, 0, none⟩ = some (.slice A n c) ∧ w.cell? ⟨g, 1, none⟩ = some (.int .i64 s.1) ∧ w.cell? ⟨g, 2, none⟩ = some (.bool s.2) ∧ ∀ j, w.frozen? ⟨g, j, none⟩ = false :=
  ⟨(cell_of h).2 rfl, (cell_of h).2 rfl, (cell_of h).2 rfl, fun j => by unfold Rd at h; simp [World.frozen?, h]⟩
theorem Rd.below {w w' : World} {g : Nat} {A : Option Addr} {n c : Nat} {s : Int × Bool} (h : Rd w g A n c s) (hb : Below w.heap.size w w') : Rd w' g A n c s := heap_keep h hb
theorem Rd.set1 {w : World} {g : Nat} {A : Option Addr} {n c : Nat} {s : Int × Bool} (h : Rd w g A n c s) (x : Int) : Rd (w.setCell ⟨g, 1, none⟩ (.int .i64 x)) g A n c (x, s.2) := by
  have := blk_set h 1 (.int .i64 x)
  exact this
theorem Rd.set2 {w : World} {g : Nat} {A : Option Addr} {n c : Nat} {s : Int × Bool} (h : Rd w g A n c s) (x : Bool) : Rd (w.setCell ⟨g, 2, none⟩ (.bool x)) g A n c (s.1, x) := by
  have := blk_set h 2 (.bool x)
  exact this
/-- A number that is read. -/
def numR (l : List Int) (s : Int × Bool) (most : Int) : Int × (Int × Bool) :=
  if (uintL l s.1).2.2 ≠ 0 ∨ most < (uintL l s.1).1 ∨ s.2 = true then (0, (s.1, true)) else ((uintL l s.1).1, ((uintL l s.1).2.1, false))
/-- A text that is read. -/
def textR (l : List Int) (s : Int × Bool) : ByteArray × (Int × Bool) :=
  if (bytesL l s.1 40).2.2 ≠ 0 ∨ s.2 = true then (⟨#[]⟩, (s.1, true)) else (strOfNums (bytesL l s.1 40).1, ((bytesL l s.1 40).2.1, false))
def nba_T1 : Bool × List (List Nat × List Nat) := (true, [([], []), ([0], [0]), ([1], [1]), ([2], [2]), ([], []), ([4], [4]), ([5], [5]), ([6], [6]), ([3, 7], [3, 7]), ([8], [8]), ([9], [9]), ([9], [9]), ([9], [9]), ([10, 8, 0, 1, 2, 3, 4, 5, 6, 7, 8, 9, 10], [10]), ([11, 13, 0, 1, 2, 3, 4, 5, 6, 7, 8, 9, 10, 11, 13], [11]), ([12, 14, 0, 1, 2, 3, 4, 5, 6, 7, 8, 9, 10, 11, 12, 13, 14], [12])])
def nba_B1 : List Nat := [0, 1, 3, 7, 0, 16, 48, 112, 255, 511, 1023, 1023, 1023, 2047, 12287, 32767]
theorem nba_tab1 : rtab .any (opsOf Tryd.f20 1) = nba_T1 := by kernel_rfl
theorem nba_bits1 : waitsOk nba_T1.2 nba_B1 = true := by kernel_rfl
def txa_T1 : Bool × List (List Nat × List Nat) := (true, [([], []), ([0], [0]), ([1], [1]), ([2], [2]), ([], []), ([4], [4]), ([5], [5]), ([6], [6]), ([3, 7], [3, 7]), ([8], [8]), ([9], [9]), ([9], [9]), ([9], [9]), ([10, 8, 0, 1, 2, 3, 4, 5, 6, 7, 8, 9, 10], [10]), ([11, 13, 0, 1, 2, 3, 4, 5, 6, 7, 8, 9, 10, 11, 13], [11]), ([12, 14, 0, 1, 2, 3, 4, 5, 6, 7, 8, 9, 10, 11, 12, 13, 14], [12])])
def txa_B1 : List Nat := [0, 1, 3, 7, 0, 16, 48, 112, 255, 511, 1023, 1023, 1023, 2047, 12287, 32767]
theorem txa_tab1 : rtab .any (opsOf Tryd.f21 1) = txa_T1 := by kernel_rfl
theorem txa_bits1 : waitsOk txa_T1.2 txa_B1 = true := by kernel_rfl
set_option maxHeartbeats 1600000 in
set_option maxRecDepth 100000 in
theorem number_calls (g : Nat) (A : Option Addr) (c : Nat) (l : List Int) (s : Int × Bool) (most : Int) (w : World) (hg : Rd w g A l.length c s) (hr : RBy.C w A l.length l) (hc : l.length ≤ c) (hb : rbytes l) (hm : 0 ≤ most ∧ most ≤ 100000) :
    Calls Tryd.prog 20 #[.pointer (some ⟨g, 0, none⟩), .int .u64 most] w fun e w' => e = .returned (.int .i64 (numR l s most).1) ∧ Rd w' g A l.length c (numR l s most).2 ∧ Ch g w w' := by
  have HR := Aside0.mk hr
  have HY := Aside0.mk hb
  have HRD := Aside0.mk hg
  have HMM := Aside0.mk hm
  have HOK := Aside0.mk (uintL_ok l s.1 hb)
  have HN := Aside0.mk (show numR l s most = if (uintL l s.1).2.2 ≠ 0 ∨ most < (uintL l s.1).1 ∨ s.2 = true then (0, (s.1, true)) else ((uintL l s.1).1, ((uintL l s.1).2.1, false)) from rfl)
  obtain ⟨n, x, e0, hu⟩ : ∃ n x e0 : Int, uintL l s.1 = (n, x, e0) := ⟨_, _, _, rfl⟩
  rw [hu] at HN HOK
  have HUE := Aside0.mk hu
  clear hr hb hg hm hu
  obtain ⟨wd, hwd⟩ : ∃ wd, wd = w.drew := ⟨_, rfl⟩
  have HBD := Aside0.mk (show Below w.heap.size w wd by rw [hwd]; exact below_drew1 (Below.refl _ _))
  have hS0 : Below w.heap.size w w.drew := below_drew1 (Below.refl _ _)
  go_enter Tryd.func20, Tryd.ntmps20
  go_upto_region 1 with (fail)
  refine start_ (n := 16) (S := fun w' => Below w.heap.size w w') (ds := []) #[false, false, false, false, false, false, false, false, false, false, false, false, false, false, false, false] (by kernel_rfl) rfl rfl (by exact hS0) (fun hHeld => ?_)
  refine with_tabW nba_tab1 nba_bits1 (fun HT_ HW_ => ?_)
  refine pure_ (i := 0) (N := some 9) (v := ?_) (a' := ?_) #[true, false, false, false, false, false, false, false, false, false, false, false, false, false, false, false] rfl rfl (any_of HT_.out (by kernel_rfl)) (fun _ _ _ h => h) (Or.inl ⟨by rfl, ?_⟩) ?_ ?_
  rotate_left
  · intro w'
    go_simp
    with_reducible rfl
  rotate_left
  · simp only [Act.put, List.setIfInBounds_toArray, List.set_cons_zero, List.set_cons_succ, i64_w, i32_w]
    rfl
  refine pure_ (i := 1) (N := some 10) (v := ?_) (a' := ?_) #[true, true, false, false, false, false, false, false, false, false, false, false, false, false, false, false] rfl rfl (any_of HT_.out (by kernel_rfl)) (fun _ _ _ h => h) (Or.inl ⟨by rfl, ?_⟩) ?_ ?_
  rotate_left
  · intro w'
    go_simp
    with_reducible rfl
  rotate_left
  · simp only [Act.put, List.setIfInBounds_toArray, List.set_cons_zero, List.set_cons_succ, i64_w, i32_w]
    rfl
  refine pure_ (i := 2) (N := some 11) (v := ?_) (a' := ?_) #[true, true, true, false, false, false, false, false, false, false, false, false, false, false, false, false] rfl rfl (any_of HT_.out (by kernel_rfl)) (fun _ _ _ h => h) (Or.inl ⟨by rfl, ?_⟩) ?_ ?_
  rotate_left
  · intro w'
    go_simp
    with_reducible rfl
  rotate_left
  · simp only [Act.put, List.setIfInBounds_toArray, List.set_cons_zero, List.set_cons_succ, i64_w, i32_w]
    rfl
  refine pure_ (i := 4) (N := some 13) (v := ?_) (a' := ?_) #[true, true, true, false, true, false, false, false, false, false, false, false, false, false, false, false] rfl rfl (any_of HT_.out (by kernel_rfl)) (fun _ _ _ h => h) (Or.inl ⟨by rfl, ?_⟩) ?_ ?_
  rotate_left
  · intro w'
    go_simp
    with_reducible rfl
  rotate_left
  · simp only [Act.put, List.setIfInBounds_toArray, List.set_cons_zero, List.set_cons_succ, i64_w, i32_w]
    rfl
  refine pure_ (i := 5) (N := some 14) (v := ?_) (a' := ?_) #[true, true, true, false, true, true, false, false, false, false, false, false, false, false, false, false] rfl rfl (any_of HT_.out (by kernel_rfl)) (fun _ _ _ h => h) (Or.inl ⟨by rfl, ?_⟩) ?_ ?_
  rotate_left
  · intro w'
    go_simp
    with_reducible rfl
  rotate_left
  · simp only [Act.put, List.setIfInBounds_toArray, List.set_cons_zero, List.set_cons_succ, i64_w, i32_w]
    rfl
  refine pure_ (i := 6) (N := some 15) (v := ?_) (a' := ?_) #[true, true, true, false, true, true, true, false, false, false, false, false, false, false, false, false] rfl rfl (any_of HT_.out (by kernel_rfl)) (fun _ _ _ h => h) (Or.inl ⟨by rfl, ?_⟩) ?_ ?_
  rotate_left
  · intro w'
    go_simp
    with_reducible rfl
  rotate_left
  · simp only [Act.put, List.setIfInBounds_toArray, List.set_cons_zero, List.set_cons_succ, i64_w, i32_w]
    rfl
  refine take_ (i := 3) (N := some 12) (v := ?_) (a' := ?_) #[true, true, true, true, true, true, true, false, false, false, false, false, false, false, false, false] rfl rfl (take_ofW HT_.out HW_.out (by kernel_rfl)) (fun _ _ _ h => h) (Or.inl ⟨by rfl, ?_⟩) hHeld ?_ ?_
  rotate_left
  · intro w' hSt
    have hc0 := (HRD.out.below hSt).cells.1
    go_simp
    with_reducible rfl
  rotate_left
  · simp only [Act.put, List.setIfInBounds_toArray, List.set_cons_zero, List.set_cons_succ, i64_w, i32_w]
    rfl
  refine take_ (i := 7) (N := some 16) (v := ?_) (a' := ?_) #[true, true, true, true, true, true, true, true, false, false, false, false, false, false, false, false] rfl rfl (take_ofW HT_.out HW_.out (by kernel_rfl)) (fun _ _ _ h => h) (Or.inl ⟨by rfl, ?_⟩) hHeld ?_ ?_
  rotate_left
  · intro w' hSt
    have hc1 := (HRD.out.below hSt).cells.2.1
    go_simp
    with_reducible rfl
  rotate_left
  · simp only [Act.put, List.setIfInBounds_toArray, List.set_cons_zero, List.set_cons_succ, i64_w, i32_w]
    rfl
  refine one_ (i := 8) (N := some 17) #[true, true, true, true, true, true, true, true, true, false, false, false, false, false, false, false] rfl rfl (one_of HT_.out (by kernel_rfl)) (by decide) (fun K hK => ?_)
  refine goes_ Tryd.func31 (by kernel_rfl) rfl #[.slice A l.length c, .int .i64 s.1] (by rfl) rfl rfl (by (try simp only [List.map_toArray, List.map_cons, List.map_nil]); first | done | rfl) ?_
  refine (uint_calls A c l s.1 _ (Kd.C_below HR.out hHeld) hc HY.out).mono ?_
  rintro e w8 ⟨rfl, rfl⟩
  refine ⟨_, rfl, ?_⟩
  rw [HUE.out]
  have hS1 := hHeld
  refine hK.out _ _ (by exact hS1) (fun hHeld => ?_)
  clear hK K
  refine norm_ (a' := ?_) ?_ ?_
  rotate_left
  · first
    | (show Act.put _ (some 17) _ = _; simp only [Act.put, List.setIfInBounds_toArray, List.set_cons_zero, List.set_cons_succ, i64_w, i32_w]; rfl)
    | rfl
  refine pure_ (i := 9) (N := some 8) (v := ?_) (a' := ?_) #[true, true, true, true, true, true, true, true, true, true, false, false, false, false, false, false] rfl rfl (any_of HT_.out (by kernel_rfl)) (fun _ _ _ h => h) (Or.inl ⟨by rfl, ?_⟩) ?_ ?_
  rotate_left
  · intro w'
    go_simp
    with_reducible rfl
  rotate_left
  · simp only [Act.put, List.setIfInBounds_toArray, List.set_cons_zero, List.set_cons_succ, i64_w, i32_w]
    rfl
  refine pure_ (i := 10) (N := some 18) (v := ?_) (a' := ?_) #[true, true, true, true, true, true, true, true, true, true, true, false, false, false, false, false] rfl rfl (any_of HT_.out (by kernel_rfl)) (fun _ _ _ h => h) (Or.inl ⟨by rfl, ?_⟩) ?_ ?_
  rotate_left
  · intro w'
    go_simp
    with_reducible rfl
  rotate_left
  · simp only [Act.put, List.setIfInBounds_toArray, List.set_cons_zero, List.set_cons_succ, i64_w, i32_w]
    rfl
  refine pure_ (i := 11) (N := some 19) (v := ?_) (a' := ?_) #[true, true, true, true, true, true, true, true, true, true, true, true, false, false, false, false] rfl rfl (any_of HT_.out (by kernel_rfl)) (fun _ _ _ h => h) (Or.inl ⟨by rfl, ?_⟩) ?_ ?_
  rotate_left
  · intro w'
    go_simp
    with_reducible rfl
  rotate_left
  · simp only [Act.put, List.setIfInBounds_toArray, List.set_cons_zero, List.set_cons_succ, i64_w, i32_w]
    rfl
  refine pure_ (i := 12) (N := some 20) (v := ?_) (a' := ?_) #[true, true, true, true, true, true, true, true, true, true, true, true, true, false, false, false] rfl rfl (any_of HT_.out (by kernel_rfl)) (fun _ _ _ h => h) (Or.inl ⟨by rfl, ?_⟩) ?_ ?_
  rotate_left
  · intro w'
    go_simp
    with_reducible rfl
  rotate_left
  · simp only [Act.put, List.setIfInBounds_toArray, List.set_cons_zero, List.set_cons_succ, i64_w, i32_w]
    rfl
  refine pure_ (i := 13) (N := some 5) (v := ?_) (a' := ?_) #[true, true, true, true, true, true, true, true, true, true, true, true, true, true, false, false] rfl rfl (any_of HT_.out (by kernel_rfl)) (fun _ _ _ h => h) (Or.inl ⟨by rfl, ?_⟩) ?_ ?_
  rotate_left
  · intro w'
    go_simp
    with_reducible rfl
  rotate_left
  · simp only [Act.put, List.setIfInBounds_toArray, List.set_cons_zero, List.set_cons_succ, i64_w, i32_w]
    rfl
  refine pure_ (i := 14) (N := some 6) (v := ?_) (a' := ?_) #[true, true, true, true, true, true, true, true, true, true, true, true, true, true, true, false] rfl rfl (any_of HT_.out (by kernel_rfl)) (fun _ _ _ h => h) (Or.inl ⟨by rfl, ?_⟩) ?_ ?_
  rotate_left
  · intro w'
    go_simp
    with_reducible rfl
  rotate_left
  · simp only [Act.put, List.setIfInBounds_toArray, List.set_cons_zero, List.set_cons_succ, i64_w, i32_w]
    rfl
  refine pure_ (i := 15) (N := some 7) (v := ?_) (a' := ?_) #[true, true, true, true, true, true, true, true, true, true, true, true, true, true, true, true] rfl rfl (any_of HT_.out (by kernel_rfl)) (fun _ _ _ h => h) (Or.inl ⟨by rfl, ?_⟩) ?_ ?_
  rotate_left
  · intro w'
    go_simp
    with_reducible rfl
  rotate_left
  · simp only [Act.put, List.setIfInBounds_toArray, List.set_cons_zero, List.set_cons_succ, i64_w, i32_w]
    rfl
  refine done_ (done_of HT_.out (by kernel_rfl)) ?_
  clear hS0 hHeld HT_ HW_
  rw [← hwd]
  clear hwd
  have HRW := Aside0.mk (HRD.out.below HBD.out)
  obtain ⟨c0, c1, c2, cf⟩ := HRW.out.cells
  have cf2 := cf 2
  have cf1 := cf 1
  clear cf
  by_cases he : e0 = 0
  · by_cases hnm : most < n
    · have HE := Aside0.mk (show numR l s most = (0, (s.1, true)) by rw [HN.out, if_pos (.inr (.inl hnm))])
      rw [he]
      have h2 : decide (n > most) = true := decide_eq_true hnm
      clear he
      go_wp2
      go_ret
      exact ⟨by rw [HE.out]; rfl, by rw [HE.out]; exact HRW.out.set2 true, (Ch.of_below HBD.out).trans (Ch.set g 2 wd _)⟩
    · have h2 : decide (n > most) = false := decide_eq_false hnm
      cases hs2 : s.2 with
      | true =>
        have HE := Aside0.mk (show numR l s most = (0, (s.1, true)) by rw [HN.out, if_pos (.inr (.inr hs2))])
        rw [hs2] at c2
        rw [he]
        clear he hs2
        go_wp2
        go_ret
        exact ⟨by rw [HE.out]; rfl, by rw [HE.out]; exact HRW.out.set2 true, (Ch.of_below HBD.out).trans (Ch.set g 2 wd _)⟩
      | false =>
        have HE := Aside0.mk (show numR l s most = (n, (x, false)) by
          rw [HN.out, if_neg]
          rintro (h | h | h)
          · exact h he
          · exact hnm h
          · rw [hs2] at h; cases h)
        have HS2 := Aside0.mk hs2
        rw [hs2] at c2
        have hwn : IntKind.i64.wrap n = n := by rw [IntKind.wrap_i64]; have := HMM.out; have := (HOK.out he).1; omega
        rw [he]
        clear he hs2
        go_wp2
        go_ret
        exact ⟨by rw [HE.out]; rfl, by rw [HE.out, ← HS2.out]; exact HRW.out.set1 x, (Ch.of_below HBD.out).trans (Ch.set g 1 wd _)⟩
  · have HE := Aside0.mk (show numR l s most = (0, (s.1, true)) by rw [HN.out, if_pos (.inl he)])
    have h1 : (e0 == 0) = false := by simpa using he
    have h2 : (e0 != 0) = true := by simpa using he
    clear he
    go_wp2
    go_ret
    exact ⟨by rw [HE.out]; rfl, by rw [HE.out]; exact HRW.out.set2 true, (Ch.of_below HBD.out).trans (Ch.set g 2 wd _)⟩
theorem R_off {w : World} {b g j : Nat} {v : Value} {xs : List Int} (h : Kd.R RBy 5 w b (fun _ => True) v xs) (hg : g < b) (u : Value) : Kd.R RBy 5 (w.setCell ⟨g, j, none⟩ u) b (fun _ => True) v xs :=
  Kd.R_mono (Kd.R_far (p := ⟨g, j, none⟩) (Kd.R_bound h) (fun k hk => by have := hk.2.1; show k ≠ g; omega) u) (fun _ _ => trivial)
set_option maxHeartbeats 1600000 in
set_option maxRecDepth 100000 in
theorem text_calls (g : Nat) (A : Option Addr) (c : Nat) (l : List Int) (s : Int × Bool) (w : World) (hg : Rd w g A l.length c s) (hr : RBy.C w A l.length l) (hc : l.length ≤ c) (hb : rbytes l) (hl : l.length < 140737488355300) :
    Calls Tryd.prog 21 #[.pointer (some ⟨g, 0, none⟩)] w fun e w' => e = .returned (.string (textR l s).1) ∧ Rd w' g A l.length c (textR l s).2 ∧ Ch g w w' := by
  have HR := Aside0.mk hr
  have HY := Aside0.mk hb
  have HRD := Aside0.mk hg
  have HLL := Aside0.mk hl
  have HGS := Aside0.mk (show g < w.heap.size from (Array.getElem?_eq_some_iff.1 hg).1)
  have HN := Aside0.mk (show textR l s = if (bytesL l s.1 40).2.2 ≠ 0 ∨ s.2 = true then (⟨#[]⟩, (s.1, true)) else (strOfNums (bytesL l s.1 40).1, ((bytesL l s.1 40).2.1, false)) from rfl)
  obtain ⟨ys, x, e0, hu⟩ : ∃ (ys : List Int) (x e0 : Int), bytesL l s.1 40 = (ys, x, e0) := ⟨_, _, _, rfl⟩
  rw [hu] at HN
  have HUE := Aside0.mk hu
  clear hr hb hg hl hu
  have hS0 : Below w.heap.size w w.drew := below_drew1 (Below.refl _ _)
  go_enter Tryd.func21, Tryd.ntmps21
  go_upto_region 1 with (fail)
  refine start_ (n := 16) (S := fun w' => Below w.heap.size w w') (ds := []) #[false, false, false, false, false, false, false, false, false, false, false, false, false, false, false, false] (by kernel_rfl) rfl rfl (by exact hS0) (fun hHeld => ?_)
  refine with_tabW txa_tab1 txa_bits1 (fun HT_ HW_ => ?_)
  refine pure_ (i := 0) (N := some 7) (v := ?_) (a' := ?_) #[true, false, false, false, false, false, false, false, false, false, false, false, false, false, false, false] rfl rfl (any_of HT_.out (by kernel_rfl)) (fun _ _ _ h => h) (Or.inl ⟨by rfl, ?_⟩) ?_ ?_
  rotate_left
  · intro w'
    go_simp
    with_reducible rfl
  rotate_left
  · simp only [Act.put, List.setIfInBounds_toArray, List.set_cons_zero, List.set_cons_succ, i64_w, i32_w]
    rfl
  refine pure_ (i := 1) (N := some 8) (v := ?_) (a' := ?_) #[true, true, false, false, false, false, false, false, false, false, false, false, false, false, false, false] rfl rfl (any_of HT_.out (by kernel_rfl)) (fun _ _ _ h => h) (Or.inl ⟨by rfl, ?_⟩) ?_ ?_
  rotate_left
  · intro w'
    go_simp
    with_reducible rfl
  rotate_left
  · simp only [Act.put, List.setIfInBounds_toArray, List.set_cons_zero, List.set_cons_succ, i64_w, i32_w]
    rfl
  refine pure_ (i := 2) (N := some 9) (v := ?_) (a' := ?_) #[true, true, true, false, false, false, false, false, false, false, false, false, false, false, false, false] rfl rfl (any_of HT_.out (by kernel_rfl)) (fun _ _ _ h => h) (Or.inl ⟨by rfl, ?_⟩) ?_ ?_
  rotate_left
  · intro w'
    go_simp
    with_reducible rfl
  rotate_left
  · simp only [Act.put, List.setIfInBounds_toArray, List.set_cons_zero, List.set_cons_succ, i64_w, i32_w]
    rfl
  refine pure_ (i := 4) (N := some 11) (v := ?_) (a' := ?_) #[true, true, true, false, true, false, false, false, false, false, false, false, false, false, false, false] rfl rfl (any_of HT_.out (by kernel_rfl)) (fun _ _ _ h => h) (Or.inl ⟨by rfl, ?_⟩) ?_ ?_
  rotate_left
  · intro w'
    go_simp
    with_reducible rfl
  rotate_left
  · simp only [Act.put, List.setIfInBounds_toArray, List.set_cons_zero, List.set_cons_succ, i64_w, i32_w]
    rfl
  refine pure_ (i := 5) (N := some 12) (v := ?_) (a' := ?_) #[true, true, true, false, true, true, false, false, false, false, false, false, false, false, false, false] rfl rfl (any_of HT_.out (by kernel_rfl)) (fun _ _ _ h => h) (Or.inl ⟨by rfl, ?_⟩) ?_ ?_
  rotate_left
  · intro w'
    go_simp
    with_reducible rfl
  rotate_left
  · simp only [Act.put, List.setIfInBounds_toArray, List.set_cons_zero, List.set_cons_succ, i64_w, i32_w]
    rfl
  refine pure_ (i := 6) (N := some 13) (v := ?_) (a' := ?_) #[true, true, true, false, true, true, true, false, false, false, false, false, false, false, false, false] rfl rfl (any_of HT_.out (by kernel_rfl)) (fun _ _ _ h => h) (Or.inl ⟨by rfl, ?_⟩) ?_ ?_
  rotate_left
  · intro w'
    go_simp
    with_reducible rfl
  rotate_left
  · simp only [Act.put, List.setIfInBounds_toArray, List.set_cons_zero, List.set_cons_succ, i64_w, i32_w]
    rfl
  refine take_ (i := 3) (N := some 10) (v := ?_) (a' := ?_) #[true, true, true, true, true, true, true, false, false, false, false, false, false, false, false, false] rfl rfl (take_ofW HT_.out HW_.out (by kernel_rfl)) (fun _ _ _ h => h) (Or.inl ⟨by rfl, ?_⟩) hHeld ?_ ?_
  rotate_left
  · intro w' hSt
    have hc0 := (HRD.out.below hSt).cells.1
    go_simp
    with_reducible rfl
  rotate_left
  · simp only [Act.put, List.setIfInBounds_toArray, List.set_cons_zero, List.set_cons_succ, i64_w, i32_w]
    rfl
  refine take_ (i := 7) (N := some 14) (v := ?_) (a' := ?_) #[true, true, true, true, true, true, true, true, false, false, false, false, false, false, false, false] rfl rfl (take_ofW HT_.out HW_.out (by kernel_rfl)) (fun _ _ _ h => h) (Or.inl ⟨by rfl, ?_⟩) hHeld ?_ ?_
  rotate_left
  · intro w' hSt
    have hc1 := (HRD.out.below hSt).cells.2.1
    go_simp
    with_reducible rfl
  rotate_left
  · simp only [Act.put, List.setIfInBounds_toArray, List.set_cons_zero, List.set_cons_succ, i64_w, i32_w]
    rfl
  refine one_ (i := 8) (N := some 15) #[true, true, true, true, true, true, true, true, true, false, false, false, false, false, false, false] rfl rfl (one_of HT_.out (by kernel_rfl)) (by decide) (fun K hK => ?_)
  refine goes_ Tryd.func32 (by kernel_rfl) rfl #[.slice A l.length c, .int .i64 s.1, .int .i64 40] (by rfl) rfl rfl (by (try simp only [List.map_toArray, List.map_cons, List.map_nil]); first | done | rfl) ?_
  refine (bytes_calls A c l s.1 40 _ (Kd.C_below HR.out hHeld) hc HY.out HLL.out (by omega)).mono ?_
  rintro e w8 ⟨v8, rfl, ho, hb⟩
  refine ⟨_, rfl, ?_⟩
  rw [HUE.out] at ho ⊢
  have HO8 := Aside0.mk (Kd.R_lower ho hHeld.size)
  have hS1 := below_step hHeld hb
  clear ho hb
  refine hK.out _ _ (by exact hS1) (fun hHeld => ?_)
  clear hK K
  refine norm_ (a' := ?_) ?_ ?_
  rotate_left
  · first
    | (show Act.put _ (some 15) _ = _; simp only [Act.put, List.setIfInBounds_toArray, List.set_cons_zero, List.set_cons_succ, i64_w, i32_w]; rfl)
    | rfl
  refine pure_ (i := 9) (N := some 6) (v := ?_) (a' := ?_) #[true, true, true, true, true, true, true, true, true, true, false, false, false, false, false, false] rfl rfl (any_of HT_.out (by kernel_rfl)) (fun _ _ _ h => h) (Or.inl ⟨by rfl, ?_⟩) ?_ ?_
  rotate_left
  · intro w'
    go_simp
    with_reducible rfl
  rotate_left
  · simp only [Act.put, List.setIfInBounds_toArray, List.set_cons_zero, List.set_cons_succ, i64_w, i32_w]
    rfl
  refine pure_ (i := 10) (N := some 16) (v := ?_) (a' := ?_) #[true, true, true, true, true, true, true, true, true, true, true, false, false, false, false, false] rfl rfl (any_of HT_.out (by kernel_rfl)) (fun _ _ _ h => h) (Or.inl ⟨by rfl, ?_⟩) ?_ ?_
  rotate_left
  · intro w'
    go_simp
    with_reducible rfl
  rotate_left
  · simp only [Act.put, List.setIfInBounds_toArray, List.set_cons_zero, List.set_cons_succ, i64_w, i32_w]
    rfl
  refine pure_ (i := 11) (N := some 17) (v := ?_) (a' := ?_) #[true, true, true, true, true, true, true, true, true, true, true, true, false, false, false, false] rfl rfl (any_of HT_.out (by kernel_rfl)) (fun _ _ _ h => h) (Or.inl ⟨by rfl, ?_⟩) ?_ ?_
  rotate_left
  · intro w'
    go_simp
    with_reducible rfl
  rotate_left
  · simp only [Act.put, List.setIfInBounds_toArray, List.set_cons_zero, List.set_cons_succ, i64_w, i32_w]
    rfl
  refine pure_ (i := 12) (N := some 18) (v := ?_) (a' := ?_) #[true, true, true, true, true, true, true, true, true, true, true, true, true, false, false, false] rfl rfl (any_of HT_.out (by kernel_rfl)) (fun _ _ _ h => h) (Or.inl ⟨by rfl, ?_⟩) ?_ ?_
  rotate_left
  · intro w'
    go_simp
    with_reducible rfl
  rotate_left
  · simp only [Act.put, List.setIfInBounds_toArray, List.set_cons_zero, List.set_cons_succ, i64_w, i32_w]
    rfl
  refine pure_ (i := 13) (N := some 3) (v := ?_) (a' := ?_) #[true, true, true, true, true, true, true, true, true, true, true, true, true, true, false, false] rfl rfl (any_of HT_.out (by kernel_rfl)) (fun _ _ _ h => h) (Or.inl ⟨by rfl, ?_⟩) ?_ ?_
  rotate_left
  · intro w'
    go_simp
    with_reducible rfl
  rotate_left
  · simp only [Act.put, List.setIfInBounds_toArray, List.set_cons_zero, List.set_cons_succ, i64_w, i32_w]
    rfl
  refine pure_ (i := 14) (N := some 4) (v := ?_) (a' := ?_) #[true, true, true, true, true, true, true, true, true, true, true, true, true, true, true, false] rfl rfl (any_of HT_.out (by kernel_rfl)) (fun _ _ _ h => h) (Or.inl ⟨by rfl, ?_⟩) ?_ ?_
  rotate_left
  · intro w'
    go_simp
    with_reducible rfl
  rotate_left
  · simp only [Act.put, List.setIfInBounds_toArray, List.set_cons_zero, List.set_cons_succ, i64_w, i32_w]
    rfl
  refine pure_ (i := 15) (N := some 5) (v := ?_) (a' := ?_) #[true, true, true, true, true, true, true, true, true, true, true, true, true, true, true, true] rfl rfl (any_of HT_.out (by kernel_rfl)) (fun _ _ _ h => h) (Or.inl ⟨by rfl, ?_⟩) ?_ ?_
  rotate_left
  · intro w'
    go_simp
    with_reducible rfl
  rotate_left
  · simp only [Act.put, List.setIfInBounds_toArray, List.set_cons_zero, List.set_cons_succ, i64_w, i32_w]
    rfl
  refine done_ (done_of HT_.out (by kernel_rfl)) ?_
  have HBD := Aside0.mk hHeld
  clear hS0 hHeld HT_ HW_
  replace HO8 := Aside0.mk (show Kd.R RBy 5 w8 w.heap.size (fun _ => True) v8 ys from HO8.out)
  have HRW := Aside0.mk (HRD.out.below HBD.out)
  obtain ⟨c0, c1, c2, cf⟩ := HRW.out.cells
  have cf2 := cf 2
  have cf1 := cf 1
  clear cf
  by_cases he : e0 = 0
  · cases hs2 : s.2 with
    | true =>
      have HE := Aside0.mk (show textR l s = (⟨#[]⟩, (s.1, true)) by rw [HN.out, if_pos (.inr hs2)])
      rw [hs2] at c2
      rw [he]
      clear he hs2
      go_wp2
      go_ret
      exact ⟨by rw [HE.out]; rfl, by rw [HE.out]; exact HRW.out.set2 true, (Ch.of_below HBD.out).trans (Ch.set g 2 w8 _)⟩
    | false =>
      have HE := Aside0.mk (show textR l s = (strOfNums ys, (x, false)) by
        rw [HN.out, if_neg]
        rintro (h | h)
        · exact h he
        · rw [hs2] at h; cases h)
      have HS2 := Aside0.mk hs2
      rw [hs2] at c2
      rw [he]
      obtain ⟨A8, c8, rfl, hc8, hr8⟩ := Kd.R_reads (R_off (j := 1) HO8.out HGS.out (.int .i64 x))
      have h8 : (convert 29 9 (.slice A8 ys.length c8)).run Tryd.prog (w8.setCell ⟨g, 1, none⟩ (.int .i64 x)) = .ok (.string (strOfNums ys)) (w8.setCell ⟨g, 1, none⟩ (.int .i64 x)) := Kd.C_string Tryd.underlying29 Tryd.underlying5 Tryd.underlying9 hr8
      clear he hs2 hr8 HO8
      go_wp2
      go_ret
      exact ⟨by rw [HE.out]; rfl, by rw [HE.out, ← HS2.out]; exact HRW.out.set1 x, (Ch.of_below HBD.out).trans (Ch.set g 1 w8 _)⟩
  · have HE := Aside0.mk (show textR l s = (⟨#[]⟩, (s.1, true)) by rw [HN.out, if_pos (.inl he)])
    have h1 : (e0 == 0) = false := by simpa using he
    have h2 : (e0 != 0) = true := by simpa using he
    clear he
    go_wp2
    go_ret
    exact ⟨by rw [HE.out]; rfl, by rw [HE.out]; exact HRW.out.set2 true, (Ch.of_below HBD.out).trans (Ch.set g 2 w8 _)⟩
end Go.Proofs.YtneindaodfiabaaDoor.Prog6
