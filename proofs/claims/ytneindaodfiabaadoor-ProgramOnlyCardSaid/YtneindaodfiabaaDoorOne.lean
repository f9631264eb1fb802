/- What calls of Go functions of this seat come to, as the rows need it: under the conditions that each theorem names. -/
import Derived.Test.YtneindaodfiabaaDoorPath
import Derived.Test.YtneindaodfiabaaDoorWTab
namespace Go.Proofs.YtneindaodfiabaaDoor.Prog6
open Go.RowKit Go.Proofs.YtneindaodfiabaaDoorW.PrintWords Go.Proofs.YtneindaodfiabaaDoorW.PrintLast Go.Proofs.YtneindaodfiabaaDoorW.PrintMore
set_option linter.unusedVariables false
set_option linter.unusedSimpArgs false
/-- An instruction: what it does, its three texts, its two numbers. -/
abbrev Ins := Int × ByteArray × ByteArray × ByteArray × Int × Int
theorem cell_of {w : World} {g : Nat} {cur : Array Value} {t : TypeId} (h : w.heap[g]? = some (.cells cur t (0, 0))) {j : Nat} {u : Value} : w.cell? ⟨g, j, none⟩ = some u ↔ cur[j]? = some u := by
  simp [World.cell?, h]
theorem heap_keep {w w' : World} {h : Nat} {o : Obj} (hh : w.heap[h]? = some o) (hb : Below w.heap.size w w') : w'.heap[h]? = some o := (hb.block h (Array.getElem?_eq_some_iff.1 hh).1).trans hh
theorem heap_new (w : World) (o : Obj) : (w.alloc o).heap[w.heap.size]? = some o := by
  show (w.heap.push o)[w.heap.size]? = some o
  simp
def BoxI (w : World) (b : Nat) (x : Ins) : Prop := w.heap[b]? = some (.cells #[.int .u8 x.1, .string x.2.1, .string x.2.2.1, .string x.2.2.2.1, .int .i64 x.2.2.2.2.1, .int .i64 x.2.2.2.2.2] 26 (0, 0))
theorem BoxI.below {w w' : World} {b : Nat} {x : Ins} (h : BoxI w b x) (hb : Below w.heap.size w w') : BoxI w' b x := heap_keep h hb
theorem BoxI.cu {w : World} {b : Nat} {x : Ins} (h : BoxI w b x) : w.cell? ⟨b, 0, none⟩ = some (.int .u8 x.1) ∧ w.cell? ⟨b, 1, none⟩ = some (.string x.2.1) ∧ w.cell? ⟨b, 2, none⟩ = some (.string x.2.2.1) ∧ w.cell? ⟨b, 3, none⟩ = some (.string x.2.2.2.1) ∧ w.cell? ⟨b, 4, none⟩ = some (.int .i64 x.2.2.2.2.1) ∧ w.cell? ⟨b, 5, none⟩ = some (.int .i64 x.2.2.2.2.2) :=
  ⟨(cell_of h).2 rfl, (cell_of h).2 rfl, (cell_of h).2 rfl, (cell_of h).2 rfl, (cell_of h).2 rfl, (cell_of h).2 rfl⟩
def flds (op : Nat) : List UInt8 := ([[], [112, 112, 46, 46, 46], [112, 112, 112, 46, 46], [112, 112, 46, 110, 110], [112, 87, 119, 46, 46], [112, 46, 46, 46, 46], [112, 112, 46, 46, 46], [112, 112, 46, 46, 46], [46, 46, 46, 106, 46], [112, 46, 46, 106, 46], [112, 112, 46, 106, 46], [46, 46, 46, 46, 46]] : List (List UInt8)).getD op []
def fieldB (op : Nat) : ByteArray := ⟨(flds op).toArray⟩
def chr (op k : Nat) : Nat := ((flds op).getD k 0).toNat
def txt (x : Ins) (k : Nat) : ByteArray := ([x.2.1, x.2.2.1, x.2.2.2.1] : List ByteArray).getD k ⟨#[]⟩
def num (x : Ins) (k : Nat) : Int := ([x.2.2.2.2.1, x.2.2.2.2.2] : List Int).getD (k - 3) 0
/-- May this field stand at this place? -/
def okAt (x : Ins) (many : Int) (k c : Nat) : Bool :=
  if c = 112 then isPath (txt x k)
  else if c = 119 then decide ((txt x k).size ≤ 40)
  else if c = 87 then decide ((txt x k).size ≤ 40) && !(txt x k).toList.isEmpty
  else if c = 110 then decide (0 ≤ num x k) && decide (num x k ≤ 2000)
  else if c = 106 then decide (0 ≤ num x k) && decide (num x k ≤ many)
  else if k < 3 then (txt x k).toList.isEmpty else (num x k == 0)
def okFrom (x : Ins) (many : Int) : Nat → Nat → Bool
  | 0, _ => true
  | f + 1, k => okAt x many k (chr x.1.toNat k) && okFrom x many f (k + 1)
/-- May an instruction be, in a program of so many? -/
def one (x : Ins) (many : Int) : Bool := if x.1 < 1 ∨ 11 < x.1 then false else okFrom x many 5 0
/-- The fields' table lies where the program laid it. -/
def Tab (w : World) : Prop := 0 < w.heap.size ∧ ∀ op, op < 12 → w.cell? ⟨0, op, none⟩ = some (.string (fieldB op))
theorem Tab.below {w w' : World} (h : Tab w) (hb : Below w.heap.size w w') : Tab w' := by
  refine ⟨Nat.lt_of_lt_of_le h.1 hb.size, fun op hop => ?_⟩
  rw [← h.2 op hop]
  simp only [World.cell?]
  rw [hb.block 0 h.1]
theorem fsize : ∀ op, op < 12 → 1 ≤ op → (flds op).length = 5 := by decide
theorem fchrB : ((List.range 12).all fun op => op == 0 || (List.range 5).all fun k => decide (chr op k < 128) && (if k < 3 then (chr op k == 112 || chr op k == 119 || chr op k == 87 || chr op k == 46) else (chr op k == 110 || chr op k == 106 || chr op k == 46))) = true := by decide
theorem fchr (op : Nat) (h12 : op < 12) (h1 : 1 ≤ op) (k : Nat) (hk : k < 5) : chr op k < 128 ∧ (k < 3 → chr op k = 112 ∨ chr op k = 119 ∨ chr op k = 87 ∨ chr op k = 46) ∧ (3 ≤ k → chr op k = 110 ∨ chr op k = 106 ∨ chr op k = 46) := by
  have h := List.all_eq_true.1 fchrB op (List.mem_range.2 h12)
  simp only [Bool.or_eq_true, beq_iff_eq] at h
  rcases h with h | h
  · omega
  · have h2 := List.all_eq_true.1 h k (List.mem_range.2 hk)
    simp only [Bool.and_eq_true, decide_eq_true_eq] at h2
    refine ⟨h2.1, fun h3 => ?_, fun h3 => ?_⟩
    · have h4 := h2.2
      rw [if_pos h3] at h4
      simp only [Bool.or_eq_true, beq_iff_eq] at h4
      rcases h4 with ((h4 | h4) | h4) | h4 <;> simp [h4]
    · have h4 := h2.2
      rw [if_neg (by omega)] at h4
      simp only [Bool.or_eq_true, beq_iff_eq] at h4
      rcases h4 with (h4 | h4) | h4 <;> simp [h4]
theorem fdec (op k : Nat) (h12 : op < 12) (h1 : 1 ≤ op) (hk : k < 5) : Utf8.decode (fieldB op) k = (chr op k, 1) := by
  have hs : (fieldB op).size = 5 := fsize op h12 h1
  have hc := (fchr op h12 h1 k hk).1
  have e : ((fieldB op)[k]'(by omega)).toNat = chr op k := by
    unfold chr
    have hl : k < (flds op).length := by rw [fsize op h12 h1]; exact hk
    rw [List.getD_eq_getElem?_getD, List.getElem?_eq_getElem hl]
    rfl
  rw [decode_ascii (fieldB op) k (by omega) (by omega), e]
theorem txt_at (x : Ins) (k : Nat) (hk : k < 3) : (#[.string x.2.1, .string x.2.2.1, .string x.2.2.2.1] : Array Value)[k]? = some (.string (txt x k)) := by
  rcases k with _ | _ | _ | k
  · rfl
  · rfl
  · rfl
  · omega
def one_T3 : Bool × List (List Nat × List Nat) := (true, [([], []), ([0], [0]), ([], []), ([2], [2]), ([], []), ([4], [4]), ([1, 3, 5], [1, 3, 5]), ([], []), ([7], [7]), ([], []), ([9], [9]), ([8, 10], [8, 10]), ([], []), ([], []), ([12, 6, 0, 1, 2, 3, 4, 5, 6, 12, 13], [6, 12]), ([13, 11, 14, 0, 1, 2, 3, 4, 5, 6, 7, 8, 9, 10, 11, 12, 13, 14], [11, 13])])
def one_B3 : List Nat := [0, 1, 0, 4, 0, 16, 63, 0, 128, 0, 512, 1920, 0, 0, 12415, 32767]
theorem one_tab3 : rtab .any (opsOf Tryd.f19 3) = one_T3 := by kernel_rfl
theorem one_bits3 : waitsOk one_T3.2 one_B3 = true := by kernel_rfl
set_option maxHeartbeats 3200000 in
set_option maxRecDepth 100000 in
theorem one_calls (x : Ins) (many : Int) (w : World) (hT : Tab w) (hsz : ∀ k, (txt x k).size ≤ 9223372036854775807) :
    Calls Tryd.prog 19 #[.agg #[.int .u8 x.1, .string x.2.1, .string x.2.2.1, .string x.2.2.2.1, .int .i64 x.2.2.2.2.1, .int .i64 x.2.2.2.2.2], .int .i64 many] w fun e w' => e = .returned (.bool (one x many)) ∧ Below w.heap.size w w' := by
  have HTAB := Aside0.mk hT
  have HSZ := Aside0.mk hsz
  clear hT hsz
  generalize hgo : one x many = R
  by_cases h1 : x.1 < 1
  · have e1 : decide (x.1 < 1) = true := decide_eq_true h1
    have HV := Aside0.mk (show R = false by rw [← hgo]; unfold one; rw [if_pos (Or.inl h1)])
    clear h1 hgo
    go_enter Tryd.func19, Tryd.ntmps19
    go_upto_region 1 with (fail)
    have HB := Aside0.mk ((Below.refl w.heap.size w).alloc (Nat.le_refl _) (.cells #[.int .u8 x.1, .string x.2.1, .string x.2.2.1, .string x.2.2.2.1, .int .i64 x.2.2.2.2.1, .int .i64 x.2.2.2.2.2] 26 (0, 0)))
    have HX := Aside0.mk (show BoxI (w.alloc (.cells #[.int .u8 x.1, .string x.2.1, .string x.2.2.1, .string x.2.2.2.1, .int .i64 x.2.2.2.2.1, .int .i64 x.2.2.2.2.2] 26 (0, 0))) w.heap.size x from heap_new _ _)
    generalize w.alloc _ = wa at HB HX ⊢
    generalize w.heap.size = b at HX ⊢
    obtain ⟨b0, b1, b2, b3, b4, b5⟩ := HX.out.cu
    go_wp2
    go_ret
    exact ⟨by rw [HV.out]; rfl, HB.out⟩
  have e1 : decide (x.1 < 1) = false := decide_eq_false h1
  by_cases h2 : x.1 > 11
  · have e2 : decide (x.1 > 11) = true := decide_eq_true h2
    have HV := Aside0.mk (show R = false by rw [← hgo]; unfold one; rw [if_pos (Or.inr h2)])
    clear h1 h2 hgo
    go_enter Tryd.func19, Tryd.ntmps19
    go_upto_region 1 with (fail)
    have HB := Aside0.mk ((Below.refl w.heap.size w).alloc (Nat.le_refl _) (.cells #[.int .u8 x.1, .string x.2.1, .string x.2.2.1, .string x.2.2.2.1, .int .i64 x.2.2.2.2.1, .int .i64 x.2.2.2.2.2] 26 (0, 0)))
    have HX := Aside0.mk (show BoxI (w.alloc (.cells #[.int .u8 x.1, .string x.2.1, .string x.2.2.1, .string x.2.2.2.1, .int .i64 x.2.2.2.2.1, .int .i64 x.2.2.2.2.2] 26 (0, 0))) w.heap.size x from heap_new _ _)
    generalize w.alloc _ = wa at HB HX ⊢
    generalize w.heap.size = b at HX ⊢
    obtain ⟨b0, b1, b2, b3, b4, b5⟩ := HX.out.cu
    go_wp2
    go_ret
    exact ⟨by rw [HV.out]; rfl, HB.out⟩
  have e2 : decide (x.1 > 11) = false := decide_eq_false h2
  have HOK := Aside0.mk (show okFrom x many 5 0 = R by rw [← hgo]; unfold one; rw [if_neg (by omega)])
  have HOP := Aside0.mk (show x.1.toNat < 12 ∧ 1 ≤ x.1.toNat by omega)
  clear hgo
  go_enter Tryd.func19, Tryd.ntmps19
  go_upto_region 1 with (fail)
  have HB := Aside0.mk ((Below.refl w.heap.size w).alloc (Nat.le_refl _) (.cells #[.int .u8 x.1, .string x.2.1, .string x.2.2.1, .string x.2.2.2.1, .int .i64 x.2.2.2.2.1, .int .i64 x.2.2.2.2.2] 26 (0, 0)))
  have HX := Aside0.mk (show BoxI (w.alloc (.cells #[.int .u8 x.1, .string x.2.1, .string x.2.2.1, .string x.2.2.2.1, .int .i64 x.2.2.2.2.1, .int .i64 x.2.2.2.2.2] 26 (0, 0))) w.heap.size x from heap_new _ _)
  generalize w.alloc _ = wa at HB HX ⊢
  generalize hgb : w.heap.size = b at HX ⊢
  have hwb : w.heap.size ≤ b := Nat.le_of_eq hgb
  clear hgb
  obtain ⟨b0, b1, b2, b3, b4, b5⟩ := HX.out.cu
  go_upto_region 3 with (fail)
  clear b0 b1 b2 b3 b4 b5
  go_cut [5, 6] (fun v5 v6 wc => ∃ bt bn, v5 = .pointer (some ⟨bt, 0, none⟩) ∧ v6 = .pointer (some ⟨bn, 0, none⟩) ∧ Aside0 (wc.heap[bt]? = some (.cells #[.string x.2.1, .string x.2.2.1, .string x.2.2.2.1] 49 (0, 0))) ∧ Aside0 (wc.heap[bn]? = some (.cells #[.int .i64 x.2.2.2.2.1, .int .i64 x.2.2.2.2.2] 58 (0, 0))) ∧ Aside0 (Below wa.heap.size wa wc))
  case first =>
    refine start_ (n := 16) (S := fun w' => Below wa.heap.size wa w') (ds := []) #[false, false, false, false, false, false, false, false, false, false, false, false, false, false, false, false] (by kernel_rfl) rfl rfl (below_drew1 (Below.refl _ _)) (fun hHeld => ?_)
    refine with_tabW one_tab3 one_bits3 (fun HT_ HW_ => ?_)
    generalize wa.drew = W0 at hHeld ⊢
    refine pure_ (i := 0) (N := some 18) (v := ?_) (a' := ?_) #[true, false, false, false, false, false, false, false, false, false, false, false, false, false, false, false] rfl rfl (any_of HT_.out (by kernel_rfl)) (fun _ _ _ h => h) (Or.inl ⟨by rfl, ?_⟩) ?_ ?_
    rotate_left
    · intro w'
      go_simp
      with_reducible rfl
    rotate_left
    · simp only [Act.put, List.setIfInBounds_toArray, List.set_cons_zero, List.set_cons_succ, i64_w, i32_w]
      rfl
    refine take_ (i := 1) (N := some 19) (v := ?_) (a' := ?_) #[true, true, false, false, false, false, false, false, false, false, false, false, false, false, false, false] rfl rfl (take_ofW HT_.out HW_.out (by kernel_rfl)) (fun _ _ _ h => h) (Or.inl ⟨by rfl, ?_⟩) hHeld ?_ ?_
    rotate_left
    · intro w' hSt
      obtain ⟨b0, b1, b2, b3, b4, b5⟩ := (HX.out.below hSt).cu
      go_simp
      with_reducible rfl
    rotate_left
    · simp only [Act.put, List.setIfInBounds_toArray, List.set_cons_zero, List.set_cons_succ, i64_w, i32_w]
      rfl
    refine pure_ (i := 2) (N := some 20) (v := ?_) (a' := ?_) #[true, true, true, false, false, false, false, false, false, false, false, false, false, false, false, false] rfl rfl (any_of HT_.out (by kernel_rfl)) (fun _ _ _ h => h) (Or.inl ⟨by rfl, ?_⟩) ?_ ?_
    rotate_left
    · intro w'
      go_simp
      with_reducible rfl
    rotate_left
    · simp only [Act.put, List.setIfInBounds_toArray, List.set_cons_zero, List.set_cons_succ, i64_w, i32_w]
      rfl
    refine take_ (i := 3) (N := some 21) (v := ?_) (a' := ?_) #[true, true, true, true, false, false, false, false, false, false, false, false, false, false, false, false] rfl rfl (take_ofW HT_.out HW_.out (by kernel_rfl)) (fun _ _ _ h => h) (Or.inl ⟨by rfl, ?_⟩) hHeld ?_ ?_
    rotate_left
    · intro w' hSt
      obtain ⟨b0, b1, b2, b3, b4, b5⟩ := (HX.out.below hSt).cu
      go_simp
      with_reducible rfl
    rotate_left
    · simp only [Act.put, List.setIfInBounds_toArray, List.set_cons_zero, List.set_cons_succ, i64_w, i32_w]
      rfl
    refine pure_ (i := 4) (N := some 22) (v := ?_) (a' := ?_) #[true, true, true, true, true, false, false, false, false, false, false, false, false, false, false, false] rfl rfl (any_of HT_.out (by kernel_rfl)) (fun _ _ _ h => h) (Or.inl ⟨by rfl, ?_⟩) ?_ ?_
    rotate_left
    · intro w'
      go_simp
      with_reducible rfl
    rotate_left
    · simp only [Act.put, List.setIfInBounds_toArray, List.set_cons_zero, List.set_cons_succ, i64_w, i32_w]
      rfl
    refine take_ (i := 5) (N := some 23) (v := ?_) (a' := ?_) #[true, true, true, true, true, true, false, false, false, false, false, false, false, false, false, false] rfl rfl (take_ofW HT_.out HW_.out (by kernel_rfl)) (fun _ _ _ h => h) (Or.inl ⟨by rfl, ?_⟩) hHeld ?_ ?_
    rotate_left
    · intro w' hSt
      obtain ⟨b0, b1, b2, b3, b4, b5⟩ := (HX.out.below hSt).cu
      go_simp
      with_reducible rfl
    rotate_left
    · simp only [Act.put, List.setIfInBounds_toArray, List.set_cons_zero, List.set_cons_succ, i64_w, i32_w]
      rfl
    refine pure_ (i := 6) (N := some 24) (v := ?_) (a' := ?_) #[true, true, true, true, true, true, true, false, false, false, false, false, false, false, false, false] rfl rfl (any_of HT_.out (by kernel_rfl)) (fun _ _ _ h => h) (Or.inl ⟨by rfl, ?_⟩) ?_ ?_
    rotate_left
    · intro w'
      go_simp
      with_reducible rfl
    rotate_left
    · simp only [Act.put, List.setIfInBounds_toArray, List.set_cons_zero, List.set_cons_succ, i64_w, i32_w]
      rfl
    refine pure_ (i := 7) (N := some 25) (v := ?_) (a' := ?_) #[true, true, true, true, true, true, true, true, false, false, false, false, false, false, false, false] rfl rfl (any_of HT_.out (by kernel_rfl)) (fun _ _ _ h => h) (Or.inl ⟨by rfl, ?_⟩) ?_ ?_
    rotate_left
    · intro w'
      go_simp
      with_reducible rfl
    rotate_left
    · simp only [Act.put, List.setIfInBounds_toArray, List.set_cons_zero, List.set_cons_succ, i64_w, i32_w]
      rfl
    refine take_ (i := 8) (N := some 26) (v := ?_) (a' := ?_) #[true, true, true, true, true, true, true, true, true, false, false, false, false, false, false, false] rfl rfl (take_ofW HT_.out HW_.out (by kernel_rfl)) (fun _ _ _ h => h) (Or.inl ⟨by rfl, ?_⟩) hHeld ?_ ?_
    rotate_left
    · intro w' hSt
      obtain ⟨b0, b1, b2, b3, b4, b5⟩ := (HX.out.below hSt).cu
      go_simp
      with_reducible rfl
    rotate_left
    · simp only [Act.put, List.setIfInBounds_toArray, List.set_cons_zero, List.set_cons_succ, i64_w, i32_w]
      rfl
    refine pure_ (i := 9) (N := some 27) (v := ?_) (a' := ?_) #[true, true, true, true, true, true, true, true, true, true, false, false, false, false, false, false] rfl rfl (any_of HT_.out (by kernel_rfl)) (fun _ _ _ h => h) (Or.inl ⟨by rfl, ?_⟩) ?_ ?_
    rotate_left
    · intro w'
      go_simp
      with_reducible rfl
    rotate_left
    · simp only [Act.put, List.setIfInBounds_toArray, List.set_cons_zero, List.set_cons_succ, i64_w, i32_w]
      rfl
    refine take_ (i := 10) (N := some 28) (v := ?_) (a' := ?_) #[true, true, true, true, true, true, true, true, true, true, true, false, false, false, false, false] rfl rfl (take_ofW HT_.out HW_.out (by kernel_rfl)) (fun _ _ _ h => h) (Or.inl ⟨by rfl, ?_⟩) hHeld ?_ ?_
    rotate_left
    · intro w' hSt
      obtain ⟨b0, b1, b2, b3, b4, b5⟩ := (HX.out.below hSt).cu
      go_simp
      with_reducible rfl
    rotate_left
    · simp only [Act.put, List.setIfInBounds_toArray, List.set_cons_zero, List.set_cons_succ, i64_w, i32_w]
      rfl
    refine pure_ (i := 11) (N := some 29) (v := ?_) (a' := ?_) #[true, true, true, true, true, true, true, true, true, true, true, true, false, false, false, false] rfl rfl (any_of HT_.out (by kernel_rfl)) (fun _ _ _ h => h) (Or.inl ⟨by rfl, ?_⟩) ?_ ?_
    rotate_left
    · intro w'
      go_simp
      with_reducible rfl
    rotate_left
    · simp only [Act.put, List.setIfInBounds_toArray, List.set_cons_zero, List.set_cons_succ, i64_w, i32_w]
      rfl
    have hHeld0 := hHeld
    refine two_ (i := 12) (j := 13) (Ni := some 5) (Nj := some 6) #[true, true, true, true, true, true, true, true, true, true, true, true, true, false, false, false] #[true, true, true, true, true, true, true, true, true, true, true, true, false, true, false, false] rfl rfl rfl rfl (two_of HT_.out (by kernel_rfl)) (by decide) (by decide) (fun K hK => ?_) (fun K hK => ?_)
    · skip
      refine value_ (w1 := ?_) (v := ?_) (by rfl) rfl ?_ ?_
      rotate_left 2
      · go_simp
        constructor
        · rfl
        · rfl
      refine hK.out _ _ (hHeld.alloc hHeld.size _) (fun hHeld => ?_)
      clear hK K
      refine norm_ (a' := ?_) ?_ ?_
      rotate_left
      · show Act.put _ (some 5) _ = _
        simp only [Act.put, List.setIfInBounds_toArray, List.set_cons_zero, List.set_cons_succ, i64_w, i32_w]
        rfl
      have h12 := heap_new W0 (.cells #[.string ⟨#[]⟩, .string ⟨#[]⟩, .string ⟨#[]⟩] 49 (0, 0))
      have hge12 := hHeld0.size
      replace hHeld0 := hHeld0.alloc hHeld0.size (.cells #[.string ⟨#[]⟩, .string ⟨#[]⟩, .string ⟨#[]⟩] 49 (0, 0))
      generalize hgen : W0.alloc (.cells #[.string ⟨#[]⟩, .string ⟨#[]⟩, .string ⟨#[]⟩] 49 (0, 0)) = W1 at h12 hHeld hHeld0 ⊢
      clear hgen
      generalize W0.heap.size = b12 at h12 hge12 ⊢
      refine one_ (i := 13) (N := (some 6)) #[true, true, true, true, true, true, true, true, true, true, true, true, true, true, false, false] rfl rfl (one_of HT_.out (by kernel_rfl)) (by decide) (fun K hK => ?_)
      refine value_ (w1 := ?_) (v := ?_) (by rfl) rfl ?_ ?_
      rotate_left 2
      · go_simp
        constructor
        · rfl
        · rfl
      refine hK.out _ _ (hHeld.alloc hHeld.size _) (fun hHeld => ?_)
      clear hK K
      refine norm_ (a' := ?_) ?_ ?_
      rotate_left
      · show Act.put _ (some 6) _ = _
        simp only [Act.put, List.setIfInBounds_toArray, List.set_cons_zero, List.set_cons_succ, i64_w, i32_w]
        rfl
      have h13 := heap_new W1 (.cells #[.int .i64 0, .int .i64 0] 58 (0, 0))
      have hge13 := hHeld0.size
      replace hHeld0 := hHeld0.alloc hHeld0.size (.cells #[.int .i64 0, .int .i64 0] 58 (0, 0))
      have hne : b12 ≠ W1.heap.size := Nat.ne_of_lt (Array.getElem?_eq_some_iff.1 h12).1
      replace h12 := heap_keep h12 ((Below.refl W1.heap.size W1).alloc (Nat.le_refl _) (.cells #[.int .i64 0, .int .i64 0] 58 (0, 0)))
      generalize hgen : W1.alloc (.cells #[.int .i64 0, .int .i64 0] 58 (0, 0)) = W2 at h13 hHeld hHeld0 h12 ⊢
      clear hgen
      generalize W1.heap.size = b13 at h13 hge13 hne ⊢
      refine one_ (i := 14) (N := none) #[true, true, true, true, true, true, true, true, true, true, true, true, true, true, true, false] rfl rfl (one_of HT_.out (by kernel_rfl)) (by decide) (fun K hK => ?_)
      have y0 := (cell_of h12 (j := 0)).2 rfl
      have z0 : W2.frozen? ⟨b12, 0, none⟩ = false := by simp [World.frozen?, h12]
      have y1 := (cell_of h12 (j := 1)).2 rfl
      have z1 : W2.frozen? ⟨b12, 1, none⟩ = false := by simp [World.frozen?, h12]
      have y2 := (cell_of h12 (j := 2)).2 rfl
      have z2 : W2.frozen? ⟨b12, 2, none⟩ = false := by simp [World.frozen?, h12]
      refine skip_ (w1 := ?_) (by rfl) rfl ?_ ?_
      rotate_left
      · go_simp
        rfl
      clear y0 z0 y1 z1 y2 z2
      refine hK.out _ _ (((hHeld.setCell (p := ⟨b12, 0, none⟩) hge12 (.string x.2.1)).setCell (p := ⟨b12, 1, none⟩) hge12 (.string x.2.2.1)).setCell (p := ⟨b12, 2, none⟩) hge12 (.string x.2.2.2.1)) (fun hHeld => ?_)
      clear hK K
      replace hHeld0 := (((hHeld0.setCell (p := ⟨b12, 0, none⟩) hge12 (.string x.2.1)).setCell (p := ⟨b12, 1, none⟩) hge12 (.string x.2.2.1)).setCell (p := ⟨b12, 2, none⟩) hge12 (.string x.2.2.2.1))
      replace h12 := (blk_set (blk_set (blk_set h12 0 (.string x.2.1)) 1 (.string x.2.2.1)) 2 (.string x.2.2.2.1))
      replace h13 := (blk_far (blk_far (blk_far h13 (p := ⟨b12, 0, none⟩) (fun e => hne e.symm) (.string x.2.1)) (p := ⟨b12, 1, none⟩) (fun e => hne e.symm) (.string x.2.2.1)) (p := ⟨b12, 2, none⟩) (fun e => hne e.symm) (.string x.2.2.2.1))
      generalize hgen : ((W2.setCell ⟨b12, 0, none⟩ (.string x.2.1)).setCell ⟨b12, 1, none⟩ (.string x.2.2.1)).setCell ⟨b12, 2, none⟩ (.string x.2.2.2.1) = W2s at h12 h13 hHeld hHeld0 ⊢
      clear hgen
      refine one_ (i := 15) (N := none) #[true, true, true, true, true, true, true, true, true, true, true, true, true, true, true, true] rfl rfl (one_of HT_.out (by kernel_rfl)) (by decide) (fun K hK => ?_)
      have y0 := (cell_of h13 (j := 0)).2 rfl
      have z0 : W2s.frozen? ⟨b13, 0, none⟩ = false := by simp [World.frozen?, h13]
      have y1 := (cell_of h13 (j := 1)).2 rfl
      have z1 : W2s.frozen? ⟨b13, 1, none⟩ = false := by simp [World.frozen?, h13]
      refine skip_ (w1 := ?_) (by rfl) rfl ?_ ?_
      rotate_left
      · go_simp
        rfl
      clear y0 z0 y1 z1
      refine hK.out _ _ ((hHeld.setCell (p := ⟨b13, 0, none⟩) hge13 (.int .i64 x.2.2.2.2.1)).setCell (p := ⟨b13, 1, none⟩) hge13 (.int .i64 x.2.2.2.2.2)) (fun hHeld => ?_)
      clear hK K
      replace hHeld0 := ((hHeld0.setCell (p := ⟨b13, 0, none⟩) hge13 (.int .i64 x.2.2.2.2.1)).setCell (p := ⟨b13, 1, none⟩) hge13 (.int .i64 x.2.2.2.2.2))
      replace h13 := (blk_set (blk_set h13 0 (.int .i64 x.2.2.2.2.1)) 1 (.int .i64 x.2.2.2.2.2))
      replace h12 := (blk_far (blk_far h12 (p := ⟨b13, 0, none⟩) (fun e => hne e) (.int .i64 x.2.2.2.2.1)) (p := ⟨b13, 1, none⟩) (fun e => hne e) (.int .i64 x.2.2.2.2.2))
      generalize hgen : (W2s.setCell ⟨b13, 0, none⟩ (.int .i64 x.2.2.2.2.1)).setCell ⟨b13, 1, none⟩ (.int .i64 x.2.2.2.2.2) = W2ss at h12 h13 hHeld hHeld0 ⊢
      clear hgen
      refine done_ (done_of HT_.out (by kernel_rfl)) ?_
      go_wp2
      go_meet
      case rel => exact ⟨b12, b13, rfl, rfl, ⟨h12⟩, ⟨h13⟩, ⟨hHeld0⟩⟩
    · skip
      refine value_ (w1 := ?_) (v := ?_) (by rfl) rfl ?_ ?_
      rotate_left 2
      · go_simp
        constructor
        · rfl
        · rfl
      refine hK.out _ _ (hHeld.alloc hHeld.size _) (fun hHeld => ?_)
      clear hK K
      refine norm_ (a' := ?_) ?_ ?_
      rotate_left
      · show Act.put _ (some 6) _ = _
        simp only [Act.put, List.setIfInBounds_toArray, List.set_cons_zero, List.set_cons_succ, i64_w, i32_w]
        rfl
      have h13 := heap_new W0 (.cells #[.int .i64 0, .int .i64 0] 58 (0, 0))
      have hge13 := hHeld0.size
      replace hHeld0 := hHeld0.alloc hHeld0.size (.cells #[.int .i64 0, .int .i64 0] 58 (0, 0))
      generalize hgen : W0.alloc (.cells #[.int .i64 0, .int .i64 0] 58 (0, 0)) = W1 at h13 hHeld hHeld0 ⊢
      clear hgen
      generalize W0.heap.size = b13 at h13 hge13 ⊢
      refine one_ (i := 12) (N := (some 5)) #[true, true, true, true, true, true, true, true, true, true, true, true, true, true, false, false] rfl rfl (one_of HT_.out (by kernel_rfl)) (by decide) (fun K hK => ?_)
      refine value_ (w1 := ?_) (v := ?_) (by rfl) rfl ?_ ?_
      rotate_left 2
      · go_simp
        constructor
        · rfl
        · rfl
      refine hK.out _ _ (hHeld.alloc hHeld.size _) (fun hHeld => ?_)
      clear hK K
      refine norm_ (a' := ?_) ?_ ?_
      rotate_left
      · show Act.put _ (some 5) _ = _
        simp only [Act.put, List.setIfInBounds_toArray, List.set_cons_zero, List.set_cons_succ, i64_w, i32_w]
        rfl
      have h12 := heap_new W1 (.cells #[.string ⟨#[]⟩, .string ⟨#[]⟩, .string ⟨#[]⟩] 49 (0, 0))
      have hge12 := hHeld0.size
      replace hHeld0 := hHeld0.alloc hHeld0.size (.cells #[.string ⟨#[]⟩, .string ⟨#[]⟩, .string ⟨#[]⟩] 49 (0, 0))
      have hne : b13 ≠ W1.heap.size := Nat.ne_of_lt (Array.getElem?_eq_some_iff.1 h13).1
      replace h13 := heap_keep h13 ((Below.refl W1.heap.size W1).alloc (Nat.le_refl _) (.cells #[.string ⟨#[]⟩, .string ⟨#[]⟩, .string ⟨#[]⟩] 49 (0, 0)))
      generalize hgen : W1.alloc (.cells #[.string ⟨#[]⟩, .string ⟨#[]⟩, .string ⟨#[]⟩] 49 (0, 0)) = W2 at h12 hHeld hHeld0 h13 ⊢
      clear hgen
      generalize W1.heap.size = b12 at h12 hge12 hne ⊢
      refine one_ (i := 14) (N := none) #[true, true, true, true, true, true, true, true, true, true, true, true, true, true, true, false] rfl rfl (one_of HT_.out (by kernel_rfl)) (by decide) (fun K hK => ?_)
      have y0 := (cell_of h12 (j := 0)).2 rfl
      have z0 : W2.frozen? ⟨b12, 0, none⟩ = false := by simp [World.frozen?, h12]
      have y1 := (cell_of h12 (j := 1)).2 rfl
      have z1 : W2.frozen? ⟨b12, 1, none⟩ = false := by simp [World.frozen?, h12]
      have y2 := (cell_of h12 (j := 2)).2 rfl
      have z2 : W2.frozen? ⟨b12, 2, none⟩ = false := by simp [World.frozen?, h12]
      refine skip_ (w1 := ?_) (by rfl) rfl ?_ ?_
      rotate_left
      · go_simp
        rfl
      clear y0 z0 y1 z1 y2 z2
      refine hK.out _ _ (((hHeld.setCell (p := ⟨b12, 0, none⟩) hge12 (.string x.2.1)).setCell (p := ⟨b12, 1, none⟩) hge12 (.string x.2.2.1)).setCell (p := ⟨b12, 2, none⟩) hge12 (.string x.2.2.2.1)) (fun hHeld => ?_)
      clear hK K
      replace hHeld0 := (((hHeld0.setCell (p := ⟨b12, 0, none⟩) hge12 (.string x.2.1)).setCell (p := ⟨b12, 1, none⟩) hge12 (.string x.2.2.1)).setCell (p := ⟨b12, 2, none⟩) hge12 (.string x.2.2.2.1))
      replace h12 := (blk_set (blk_set (blk_set h12 0 (.string x.2.1)) 1 (.string x.2.2.1)) 2 (.string x.2.2.2.1))
      replace h13 := (blk_far (blk_far (blk_far h13 (p := ⟨b12, 0, none⟩) (fun e => hne e) (.string x.2.1)) (p := ⟨b12, 1, none⟩) (fun e => hne e) (.string x.2.2.1)) (p := ⟨b12, 2, none⟩) (fun e => hne e) (.string x.2.2.2.1))
      generalize hgen : ((W2.setCell ⟨b12, 0, none⟩ (.string x.2.1)).setCell ⟨b12, 1, none⟩ (.string x.2.2.1)).setCell ⟨b12, 2, none⟩ (.string x.2.2.2.1) = W2s at h12 h13 hHeld hHeld0 ⊢
      clear hgen
      refine one_ (i := 15) (N := none) #[true, true, true, true, true, true, true, true, true, true, true, true, true, true, true, true] rfl rfl (one_of HT_.out (by kernel_rfl)) (by decide) (fun K hK => ?_)
      have y0 := (cell_of h13 (j := 0)).2 rfl
      have z0 : W2s.frozen? ⟨b13, 0, none⟩ = false := by simp [World.frozen?, h13]
      have y1 := (cell_of h13 (j := 1)).2 rfl
      have z1 : W2s.frozen? ⟨b13, 1, none⟩ = false := by simp [World.frozen?, h13]
      refine skip_ (w1 := ?_) (by rfl) rfl ?_ ?_
      rotate_left
      · go_simp
        rfl
      clear y0 z0 y1 z1
      refine hK.out _ _ ((hHeld.setCell (p := ⟨b13, 0, none⟩) hge13 (.int .i64 x.2.2.2.2.1)).setCell (p := ⟨b13, 1, none⟩) hge13 (.int .i64 x.2.2.2.2.2)) (fun hHeld => ?_)
      clear hK K
      replace hHeld0 := ((hHeld0.setCell (p := ⟨b13, 0, none⟩) hge13 (.int .i64 x.2.2.2.2.1)).setCell (p := ⟨b13, 1, none⟩) hge13 (.int .i64 x.2.2.2.2.2))
      replace h13 := (blk_set (blk_set h13 0 (.int .i64 x.2.2.2.2.1)) 1 (.int .i64 x.2.2.2.2.2))
      replace h12 := (blk_far (blk_far h12 (p := ⟨b13, 0, none⟩) (fun e => hne e.symm) (.int .i64 x.2.2.2.2.1)) (p := ⟨b13, 1, none⟩) (fun e => hne e.symm) (.int .i64 x.2.2.2.2.2))
      generalize hgen : (W2s.setCell ⟨b13, 0, none⟩ (.int .i64 x.2.2.2.2.1)).setCell ⟨b13, 1, none⟩ (.int .i64 x.2.2.2.2.2) = W2ss at h12 h13 hHeld hHeld0 ⊢
      clear hgen
      refine done_ (done_of HT_.out (by kernel_rfl)) ?_
      go_wp2
      go_meet
      case rel => exact ⟨b12, b13, rfl, rfl, ⟨h12⟩, ⟨h13⟩, ⟨hHeld0⟩⟩

  case rest =>
    obtain ⟨bt, bn, rfl, rfl, HT, HN, HBC⟩ := hcut
    have htab := (HTAB.out.below (below_step HB.out HBC.out)).2 x.1.toNat HOP.out.1
    have b0 := (HX.out.below HBC.out).cu.1
    have hrange : 0 ≤ x.1 ∧ x.1 < 12 := by omega
    have hwa := HB.out.size
    replace HB := Aside0.mk (below_step HB.out HBC.out)
    have HBW := HB
    clear HX HTAB HBC h1 h2
    go_upto_block 0 with (fail)
    clear htab b0 hrange
    have HIT := Aside0.mk (World.iter_heap wc (fieldB x.1.toNat) 0)
    have hbt := (Array.getElem?_eq_some_iff.1 HT.out).1
    have hbn := (Array.getElem?_eq_some_iff.1 HN.out).1
    have HAL := (Below.refl wc.heap.size wc).alloc (Nat.le_refl _) (.stringIter (fieldB x.1.toNat) 0)
    replace HB := Aside0.mk (below_step HB.out HAL)
    replace HT := Aside0.mk (heap_keep HT.out HAL)
    replace HN := Aside0.mk (heap_keep HN.out HAL)
    clear HAL
    have hbi : wc.heap.size ≤ wc.heap.size := Nat.le_refl _
    change Code.wp _ _ _ _ (wc.iter (fieldB x.1.toNat) 0)
    have hwbi : w.heap.size ≤ wc.heap.size := by have := (Array.getElem?_eq_some_iff.1 HIT.out).1; have h := HBW.out.size; omega
    rw [show wc.alloc (.stringIter (fieldB x.1.toNat) 0) = wc.iter (fieldB x.1.toNat) 0 from rfl] at HB HT HN
    generalize wc.iter (fieldB x.1.toNat) 0 = wd at HB HT HN HIT ⊢
    generalize wc.heap.size = bi at HIT hbt hbn hwbi ⊢
    clear hbi
    go_wp2
    go_loopw [] (fun wr => ∃ k : Nat, k ≤ 5 ∧ Aside0 (wr.heap[bi]? = some (.stringIter (fieldB x.1.toNat) k)) ∧ Aside0 (Below w.heap.size w wr) ∧ Aside0 (wr.heap[bt]? = some (.cells #[.string x.2.1, .string x.2.2.1, .string x.2.2.2.1] 49 (0, 0))) ∧ Aside0 (wr.heap[bn]? = some (.cells #[.int .i64 x.2.2.2.2.1, .int .i64 x.2.2.2.2.2] 58 (0, 0))) ∧ Aside0 (okFrom x many (5 - k) k = R)) (fun wr => 5 - wr.iterPos bi)
    case atStart => exact ⟨0, by omega, HIT, HB, HT, HN, HOK⟩
    case round =>
      clear HIT HB HT HN HOK
      obtain ⟨k, hk, HIT, HB, HT, HN, HOK⟩ := hrel
      by_cases hk5 : k < 5
      · have hsz5 : (fieldB x.1.toNat).size = 5 := fsize _ HOP.out.1 HOP.out.2
        have hd := fdec x.1.toNat k HOP.out.1 HOP.out.2 hk5
        have hnx : ∀ ty, (Instr.next (.pointer (some ⟨bi, 0, none⟩)) true ty).run Tryd.prog wr = .ok (.tuple #[.bool true, .int .i64 k, .int .i32 (chr x.1.toNat k : Nat)]) (wr.iterAt bi (fieldB x.1.toNat) (k + 1)) := fun ty => by
          have h := Lib.run_next_any_at (P := Tryd.prog) wr bi (fieldB x.1.toNat) k ty HIT.out (by omega)
          rw [hd] at h
          exact h
        have HIT2 := Aside0.mk (Lib.iterAt_heap wr bi (fieldB x.1.toNat) k (k + 1) HIT.out)
        have HB2 := Aside0.mk (Lib.below_iterAt HB.out (k := bi) hwbi (fieldB x.1.toNat) (k + 1))
        have HT2 := Aside0.mk ((Lib.iterAt_other wr bi bt (fieldB x.1.toNat) (k + 1) (by omega)).trans HT.out)
        have HN2 := Aside0.mk ((Lib.iterAt_other wr bi bn (fieldB x.1.toNat) (k + 1) (by omega)).trans HN.out)
        have HPOS := Aside0.mk (show wr.iterPos bi = k by unfold World.iterPos; rw [HIT.out])
        have HOK2 := Aside0.mk (show (okAt x many k (chr x.1.toNat k) && okFrom x many (5 - (k + 1)) (k + 1)) = R by have h := HOK.out; rw [show 5 - k = (5 - (k + 1)) + 1 by omega] at h; exact h)
        have HCH := Aside0.mk (fchr x.1.toNat HOP.out.1 HOP.out.2 k hk5).2
        clear HIT HB HT HN HOK hd hsz5
        go_upto_block 2 with (fail)
        clear hnx
        generalize wr.iterAt bi (fieldB x.1.toNat) (k + 1) = wn at HIT2 HB2 HT2 HN2 ⊢
        generalize chr x.1.toNat k = c at HOK2 HCH ⊢
        go_cut [9] (fun v wc => v = .bool (okAt x many k c) ∧ Aside0 (Below wn.heap.size wn wc))
        case first =>
          by_cases hk3 : k < 3
          · have hx := (cell_of HT2.out (j := k)).2 (txt_at x k hk3)
            have hki : (k : Int) < 3 := by omega
            have hkd : decide (k < 3) = true := decide_eq_true hk3
            have hsk := HSZ.out k
            rcases HCH.out.1 hk3 with rfl | rfl | rfl | rfl
            · have HV := Aside0.mk (show okAt x many k 112 = isPath (txt x k) by unfold okAt; rw [if_pos rfl])
              go_wp2_with fail
              refine (isPath_calls (txt x k) _ hsk).mono ?_
              rintro e w7 ⟨rfl, hb⟩
              have HB7 := Aside0.mk hb
              clear hb hx
              go_wp2
              go_meet
              case rel => exact ⟨by rw [HV.out], HB7⟩
            · by_cases h40 : (txt x k).size ≤ 40
              · have e40 : decide (((txt x k).size : Int) ≤ 40) = true := decide_eq_true (by omega)
                have e40' : decide ((txt x k).size ≤ 40) = true := decide_eq_true h40
                have HV := Aside0.mk (show okAt x many k 119 = true by unfold okAt; simp [h40])
                clear h40
                go_wp2
                go_meet
                case rel => exact ⟨by rw [HV.out], ⟨Below.refl _ _⟩⟩
              · have e40 : decide (((txt x k).size : Int) ≤ 40) = false := decide_eq_false (by omega)
                have e40' : decide ((txt x k).size ≤ 40) = false := decide_eq_false h40
                have HV := Aside0.mk (show okAt x many k 119 = false by unfold okAt; simp; omega)
                clear h40
                go_wp2
                go_meet
                case rel => exact ⟨by rw [HV.out], ⟨Below.refl _ _⟩⟩
            · by_cases h40 : (txt x k).size ≤ 40
              · have e40 : decide (((txt x k).size : Int) ≤ 40) = true := decide_eq_true (by omega)
                have e40' : decide ((txt x k).size ≤ 40) = true := decide_eq_true h40
                have HV := Aside0.mk (show okAt x many k 87 = !(txt x k).toList.isEmpty by unfold okAt; simp [h40])
                clear h40
                go_wp2
                go_meet
                case rel => exact ⟨by rw [HV.out], ⟨Below.refl _ _⟩⟩
              · have e40 : decide (((txt x k).size : Int) ≤ 40) = false := decide_eq_false (by omega)
                have e40' : decide ((txt x k).size ≤ 40) = false := decide_eq_false h40
                have HV := Aside0.mk (show okAt x many k 87 = false by unfold okAt; simp; omega)
                clear h40
                go_wp2
                go_meet
                case rel => exact ⟨by rw [HV.out], ⟨Below.refl _ _⟩⟩
            · have HV := Aside0.mk (show okAt x many k 46 = (txt x k).toList.isEmpty by unfold okAt; simp [hk3])
              go_wp2
              go_meet
              case rel => exact ⟨by rw [HV.out], ⟨Below.refl _ _⟩⟩
          · have hk34 : k = 3 ∨ k = 4 := by omega
            rcases hk34 with rfl | rfl
            · have hx := (cell_of HN2.out (j := 0)).2 rfl
              rcases HCH.out.2 (by omega) with rfl | rfl | rfl
              · by_cases h0 : 0 ≤ x.2.2.2.2.1
                · have e0 : decide (x.2.2.2.2.1 ≥ 0) = true := decide_eq_true h0
                  have e0' : decide (0 ≤ x.2.2.2.2.1) = true := decide_eq_true h0
                  have HV := Aside0.mk (show okAt x many 3 110 = decide (x.2.2.2.2.1 ≤ 2000) by show (decide (0 ≤ x.2.2.2.2.1) && decide (x.2.2.2.2.1 ≤ 2000)) = _; rw [e0']; rfl)
                  clear h0
                  go_wp2
                  go_meet
                  case rel => exact ⟨by rw [HV.out], ⟨Below.refl _ _⟩⟩
                · have e0 : decide (x.2.2.2.2.1 ≥ 0) = false := decide_eq_false h0
                  have e0' : decide (0 ≤ x.2.2.2.2.1) = false := decide_eq_false h0
                  have HV := Aside0.mk (show okAt x many 3 110 = false by show (decide (0 ≤ x.2.2.2.2.1) && decide (x.2.2.2.2.1 ≤ 2000)) = _; rw [e0']; rfl)
                  clear h0
                  go_wp2
                  go_meet
                  case rel => exact ⟨by rw [HV.out], ⟨Below.refl _ _⟩⟩
              · by_cases h0 : 0 ≤ x.2.2.2.2.1
                · have e0 : decide (x.2.2.2.2.1 ≥ 0) = true := decide_eq_true h0
                  have e0' : decide (0 ≤ x.2.2.2.2.1) = true := decide_eq_true h0
                  have HV := Aside0.mk (show okAt x many 3 106 = decide (x.2.2.2.2.1 ≤ many) by show (decide (0 ≤ x.2.2.2.2.1) && decide (x.2.2.2.2.1 ≤ many)) = _; rw [e0']; rfl)
                  clear h0
                  go_wp2
                  go_meet
                  case rel => exact ⟨by rw [HV.out], ⟨Below.refl _ _⟩⟩
                · have e0 : decide (x.2.2.2.2.1 ≥ 0) = false := decide_eq_false h0
                  have e0' : decide (0 ≤ x.2.2.2.2.1) = false := decide_eq_false h0
                  have HV := Aside0.mk (show okAt x many 3 106 = false by show (decide (0 ≤ x.2.2.2.2.1) && decide (x.2.2.2.2.1 ≤ many)) = _; rw [e0']; rfl)
                  clear h0
                  go_wp2
                  go_meet
                  case rel => exact ⟨by rw [HV.out], ⟨Below.refl _ _⟩⟩
              · have HV := Aside0.mk (show okAt x many 3 46 = (x.2.2.2.2.1 == 0) from rfl)
                go_wp2
                go_meet
                case rel => exact ⟨by rw [HV.out], ⟨Below.refl _ _⟩⟩
            · have hx := (cell_of HN2.out (j := 1)).2 rfl
              rcases HCH.out.2 (by omega) with rfl | rfl | rfl
              · by_cases h0 : 0 ≤ x.2.2.2.2.2
                · have e0 : decide (x.2.2.2.2.2 ≥ 0) = true := decide_eq_true h0
                  have e0' : decide (0 ≤ x.2.2.2.2.2) = true := decide_eq_true h0
                  have HV := Aside0.mk (show okAt x many 4 110 = decide (x.2.2.2.2.2 ≤ 2000) by show (decide (0 ≤ x.2.2.2.2.2) && decide (x.2.2.2.2.2 ≤ 2000)) = _; rw [e0']; rfl)
                  clear h0
                  go_wp2
                  go_meet
                  case rel => exact ⟨by rw [HV.out], ⟨Below.refl _ _⟩⟩
                · have e0 : decide (x.2.2.2.2.2 ≥ 0) = false := decide_eq_false h0
                  have e0' : decide (0 ≤ x.2.2.2.2.2) = false := decide_eq_false h0
                  have HV := Aside0.mk (show okAt x many 4 110 = false by show (decide (0 ≤ x.2.2.2.2.2) && decide (x.2.2.2.2.2 ≤ 2000)) = _; rw [e0']; rfl)
                  clear h0
                  go_wp2
                  go_meet
                  case rel => exact ⟨by rw [HV.out], ⟨Below.refl _ _⟩⟩
              · by_cases h0 : 0 ≤ x.2.2.2.2.2
                · have e0 : decide (x.2.2.2.2.2 ≥ 0) = true := decide_eq_true h0
                  have e0' : decide (0 ≤ x.2.2.2.2.2) = true := decide_eq_true h0
                  have HV := Aside0.mk (show okAt x many 4 106 = decide (x.2.2.2.2.2 ≤ many) by show (decide (0 ≤ x.2.2.2.2.2) && decide (x.2.2.2.2.2 ≤ many)) = _; rw [e0']; rfl)
                  clear h0
                  go_wp2
                  go_meet
                  case rel => exact ⟨by rw [HV.out], ⟨Below.refl _ _⟩⟩
                · have e0 : decide (x.2.2.2.2.2 ≥ 0) = false := decide_eq_false h0
                  have e0' : decide (0 ≤ x.2.2.2.2.2) = false := decide_eq_false h0
                  have HV := Aside0.mk (show okAt x many 4 106 = false by show (decide (0 ≤ x.2.2.2.2.2) && decide (x.2.2.2.2.2 ≤ many)) = _; rw [e0']; rfl)
                  clear h0
                  go_wp2
                  go_meet
                  case rel => exact ⟨by rw [HV.out], ⟨Below.refl _ _⟩⟩
              · have HV := Aside0.mk (show okAt x many 4 46 = (x.2.2.2.2.2 == 0) from rfl)
                go_wp2
                go_meet
                case rel => exact ⟨by rw [HV.out], ⟨Below.refl _ _⟩⟩
        case rest =>
          obtain ⟨rfl, HBC⟩ := hcut
          replace HIT2 := Aside0.mk (heap_keep HIT2.out HBC.out)
          replace HB2 := Aside0.mk (below_step HB2.out HBC.out)
          replace HT2 := Aside0.mk (heap_keep HT2.out HBC.out)
          replace HN2 := Aside0.mk (heap_keep HN2.out HBC.out)
          have HPOS2 := Aside0.mk (show wc.iterPos bi = k + 1 by unfold World.iterPos; rw [HIT2.out])
          cases hok : okAt x many k c with
          | true =>
            have HOK3 := Aside0.mk (show okFrom x many (5 - (k + 1)) (k + 1) = R by have h := HOK2.out; rw [hok] at h; simpa using h)
            clear HOK2 hok
            go_wp2
            go_roundw
            case rel => exact ⟨k + 1, by omega, HIT2, HB2, HT2, HN2, HOK3⟩
            case measure => rw [HPOS.out, HPOS2.out]; omega
          | false =>
            have HRF := Aside0.mk (show R = false by have h := HOK2.out; rw [hok] at h; simpa using h.symm)
            clear HOK2 hok
            go_wp2
            go_ret
            exact ⟨by rw [HRF.out]; rfl, HB2.out⟩
      · obtain rfl : k = 5 := by omega
        have hsz5 : (fieldB x.1.toNat).size = 5 := fsize _ HOP.out.1 HOP.out.2
        have hnx : ∀ ty, (Instr.next (.pointer (some ⟨bi, 0, none⟩)) true ty).run Tryd.prog wr = _ := fun ty => Lib.run_next_end_at (P := Tryd.prog) wr bi (fieldB x.1.toNat) 5 ty HIT.out (by omega)
        have HR_ := Aside0.mk (show R = true from HOK.out.symm)
        clear HIT HOK hsz5
        go_wp2
        go_ret
        exact ⟨by rw [HR_.out]; rfl, HB.out⟩
end Go.Proofs.YtneindaodfiabaaDoor.Prog6
