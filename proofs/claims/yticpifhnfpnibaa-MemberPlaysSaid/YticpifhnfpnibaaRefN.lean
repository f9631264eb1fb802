/- What calls of Go functions of this seat come to, as the rows need it: under the conditions that each theorem names. -/
import Derived.Test.YticpifhnfpnibaaRefH
import Derived.Laws.Tables
import Derived.Laws.CopyOwn
namespace Go.Proofs.Yticpifhnfpnibaa.Mem
open Go.RowKit Go.Proofs.YticpifhnfpnibaaW.PrintWords Go.Proofs.YticpifhnfpnibaaW.PrintLast Go.Proofs.YticpifhnfpnibaaW.PrintMore
set_option linter.unusedVariables false
set_option linter.unusedSimpArgs false
theorem C_oneU (w : World) (x : U) : KU.C (w.alloc (.cells #[.int .i64 x.1, .int .u8 x.2.1, .int .u64 x.2.2] 32 (0, 0))) (some ⟨w.heap.size, 0, none⟩) 1 [x] := by
  refine ⟨rfl, by omega, fun _ => ⟨_, rfl, fun j p hj => ?_⟩⟩
  have hj0 : j = 0 := by
    rcases j with _ | j
    · rfl
    · simp at hj
  subst hj0
  have hp : x = p := by simpa using hj
  subst hp
  refine ⟨[.int .i64 x.1, .int .u8 x.2.1, .int .u64 x.2.2], rfl, ⟨[.int .i64 x.1], [.int .u8 x.2.1, .int .u64 x.2.2], rfl, rfl, ⟨[.int .u8 x.2.1], [.int .u64 x.2.2], rfl, rfl, rfl⟩⟩, fun i u hu => ?_⟩
  obtain ⟨a0, a1, a2⟩ := Box.cu (show Box (w.alloc (.cells #[.int .i64 x.1, .int .u8 x.2.1, .int .u64 x.2.2] 32 (0, 0))) w.heap.size x from heap_new _ _)
  rcases i with _ | _ | _ | i
  · have hu0 : Value.int .i64 x.1 = u := by simpa using hu
    rw [← hu0]
    simp [Addr.add_lit, a0]
  · have hu0 : Value.int .u8 x.2.1 = u := by simpa using hu
    rw [← hu0]
    simp [Addr.add_lit, a1]
  · have hu0 : Value.int .u64 x.2.2 = u := by simpa using hu
    rw [← hu0]
    simp [Addr.add_lit, a2]
  · simp at hu
theorem first_at (s n k : Nat) (inc : Int) (h : k < n) : first s n inc k = ((k : Int), 1, if k = s then inc else 0) := by unfold first; rw [if_pos h]
theorem RM.make {w : World} {r s n base : Nat} {f : Nat → U} {v : Value} (h1 : w.heap[r]? = some (.cells #[.int .i64 s, v] 59 (0, 0))) (hR : Kd.R KU 32 w base (fun q => q ≠ r) v (lst f n)) (hn : 0 < n) : ∃ g cap, base ≤ g ∧ RM w r g cap s n f := by
  have hne := hR.1
  obtain ⟨A, c, hv, hc, hr⟩ := Kd.R_reads hR
  obtain ⟨g, cap, hv2, hb, _, cells, hcell⟩ := Kd.R_form hR (by rw [lst_len]; exact hn)
  rw [lst_len] at hv hc hr hv2
  rw [hv2] at hv
  injection hv with e1 e2 e3
  subst e1 e3
  rw [hv2] at h1
  refine ⟨g, cap, hb, h1, hne g (by rw [hv2]; rfl), hc, cells, hcell, fun i hi => ?_⟩
  obtain ⟨ad, e, a0, a1, a2⟩ := row_cu hr i hi (f i) (by simp [lst, hi])
  injection e with e
  subst e
  have q0 : (⟨g, 0, none⟩ : Addr).add (i * 3) = ⟨g, i * 3, none⟩ := by simp [Addr.add_lit]
  rw [q0] at a0 a1 a2
  exact ⟨(cell_of hcell).1 a0, (cell_of hcell).1 a1, (cell_of hcell).1 a2⟩
abbrev RH (w : World) (r s : Nat) (v : Value) : Prop := w.heap[r]? = some (.cells #[.int .i64 s, v] 59 (0, 0))
def rnew_T10 : Bool × List (List Nat × List Nat) := (true, [([], []), ([], []), ([1], [1]), ([2], [2]), ([3], [3]), ([], []), ([5], [5]), ([4, 6], [4, 6]), ([0, 0, 1, 2, 3, 4, 5, 6, 7], [0]), ([8, 0, 1, 2, 3, 4, 5, 6, 7], [8]), ([9, 7, 7, 0, 1, 2, 3, 4, 5, 6, 7], [7, 9])])
def rnew_B10 : List Nat := [0, 0, 2, 6, 14, 0, 32, 126, 255, 511, 1023]
theorem rnew_tab10 : rtab .any (opsOf Try.f16 10) = rnew_T10 := by kernel_rfl
theorem rnew_bits10 : waitsOk rnew_T10.2 rnew_B10 = true := by kernel_rfl
set_option maxHeartbeats 3200000 in
set_option maxRecDepth 100000 in
theorem rnew_calls (s n inc : Int) (w : World) (hmay : mayNew s n inc) :
    Calls Try.prog 16 #[.int .i64 s, .int .i64 n, .int .u64 inc] w fun e w' => e = .returned (.tuple #[.pointer (some ⟨w.heap.size, 0, none⟩), .bool true]) ∧ Below w.heap.size w w' ∧ ∃ g cap, w.heap.size ≤ g ∧ RM w' w.heap.size g cap s.toNat n.toNat (first s.toNat n.toNat inc) := by
  obtain ⟨h1, h2, h3, h4, h5⟩ := hmay
  obtain ⟨s, rfl⟩ := Int.eq_ofNat_of_zero_le h3
  obtain ⟨n, rfl⟩ := Int.eq_ofNat_of_zero_le (a := n) (by omega)
  simp only [Int.toNat_natCast]
  have e1 : decide ((n : Int) < 1) = false := decide_eq_false (by omega)
  have e2 : decide ((n : Int) > 16) = false := decide_eq_false (by omega)
  have e3 : decide ((s : Int) < 0) = false := decide_eq_false (by omega)
  have e4 : decide ((s : Int) ≥ n) = false := decide_eq_false (by omega)
  have e5 : decide (inc > 1099511627776) = false := decide_eq_false (by omega)
  have e6 : decide (n ≤ s) = false := decide_eq_false (by omega)
  have hn0 : 0 < n := by omega
  have hn16 : n ≤ 16 := by omega
  have HF := Aside0.mk (fun k (hk : k < n) => first_at s n k inc hk)
  generalize first s n inc = f at HF ⊢
  go_enter Try.func16, Try.ntmps16
  go_upto_region 4 with (fail)
  have HB := Aside0.mk ((Below.refl w.heap.size w).alloc (Nat.le_refl _) (.cells #[.int .i64 s, .slice none 0 0] 59 (0, 0)))
  have HR := Aside0.mk (heap_new w (.cells #[.int .i64 s, .slice none 0 0] 59 (0, 0)))
  generalize w.alloc _ = w1 at HB HR ⊢
  generalize hgr : w.heap.size = r at HR ⊢
  have hrw : w.heap.size ≤ r := Nat.le_of_eq hgr
  have HGR := Aside0.mk hgr
  clear hgr e1 e2 e3 e4 e5 e6 h1 h2 h3 h4 h5
  go_wp2
  go_loopw [9] (fun i wr => ∃ (k : Nat) (v : Value), k ≤ n ∧ i = .int .i64 k ∧ Aside0 (Below w.heap.size w wr) ∧ Aside0 (wr.heap[r]? = some (.cells #[.int .i64 s, v] 59 (0, 0))) ∧ Aside0 (Kd.R KU 32 wr w.heap.size (fun q => q ≠ r) v (lst f k))) (fun i _ => n - (intOf i).toNat)
  case atStart => exact ⟨0, _, Nat.zero_le _, rfl, HB, HR, ⟨Kd.R_nil _ _ _ _ _⟩⟩
  case round =>
    clear HB HR
    obtain ⟨k, v, hk, rfl, HB, HR, HL⟩ := hrel
    by_cases hlt : k < n
    · go_upto_region 8 with (fail)
      have hb0 := (Below.refl wr.heap.size wr).alloc (Nat.le_refl _) (.cells #[.int .i64 k, .int .u8 1, .int .u64 0] 32 (0, 0))
      have HBX := Aside0.mk (show Box (wr.alloc (.cells #[.int .i64 k, .int .u8 1, .int .u64 0] 32 (0, 0))) wr.heap.size ((k : Int), 1, 0) from heap_new _ _)
      have hrl := (Array.getElem?_eq_some_iff.1 HR.out).1
      have HLX := Aside0.mk (Kd.R_alloc (Kd.R_mono (Kd.R_bound HL.out) (ok' := fun q => q ≠ r ∧ q ≠ wr.heap.size) (fun q hq => ⟨hq.1, by have := hq.2.2.1; omega⟩)) (.cells #[.int .i64 k, .int .u8 1, .int .u64 0] 32 (0, 0)))
      have hszb := HB.out.size
      replace HB := Aside0.mk (below_step HB.out hb0)
      replace HR := Aside0.mk (heap_keep HR.out hb0)
      clear hb0 HL
      generalize wr.alloc _ = w5 at HB HR HBX HLX ⊢
      generalize wr.heap.size = b at HBX HLX hrl hszb ⊢
      have hbr : b ≠ r := by omega
      go_upto_if 42 with (fail)
      go_cut [] (fun wc => Aside0 (Below w.heap.size w wc) ∧ Aside0 (wc.heap[r]? = some (.cells #[.int .i64 s, v] 59 (0, 0))) ∧ Aside0 (Kd.R KU 32 wc w.heap.size (fun q => q ≠ r ∧ q ≠ b) v (lst f k)) ∧ Aside0 (Box wc b (f k)))
      case first =>
        by_cases hks : k = s
        · have hk1 : ((k : Int) == s) = true := by simp; omega
          have hk2 : (k == s) = true := by simpa using hks
          have n2 := HBX.out.cu.2.2
          have z2 : w5.frozen? ⟨b, 2, none⟩ = false := HBX.out.fz 2
          have HFK := Aside0.mk (show f k = ((k : Int), 1, inc) by rw [HF.out k hlt, if_pos hks])
          clear hks
          go_wp2
          go_meet
          case rel => exact ⟨⟨HB.out.setCell hszb _⟩, ⟨blk_far HR.out (p := ⟨b, 2, none⟩) (fun e => hbr e.symm) _⟩, ⟨Kd.R_far HLX.out (p := ⟨b, 2, none⟩) (fun q hq => hq.2) _⟩, ⟨by rw [HFK.out]; exact HBX.out.inc inc⟩⟩
        · have hk1 : ((k : Int) == s) = false := by simp; omega
          have hk2 : (k == s) = false := by simpa using hks
          have HFK := Aside0.mk (show f k = ((k : Int), 1, 0) by rw [HF.out k hlt, if_neg hks])
          clear hks
          go_wp2
          go_meet
          case rel => exact ⟨HB, HR, HLX, ⟨by rw [HFK.out]; exact HBX.out⟩⟩
      case rest =>
        obtain ⟨HB, HR, HLX, HBX⟩ := hcut
        go_wp2_with fail
        have hD := below_drew1 (Below.refl wc.heap.size wc)
        have hS0 : _ ∧ _ := And.intro (heap_keep HR.out hD) (HBX.out.below hD)
        have HRE := Aside0.mk (Kd.R_below HLX.out hD)
        have HBE := Aside0.mk (below_step HB.out hD)
        have hrE := (Array.getElem?_eq_some_iff.1 (heap_keep HR.out hD)).1
        have hbE := (Array.getElem?_eq_some_iff.1 (HBX.out.below hD)).1
        clear hD
        refine start_ (n := 11) (S := fun w' => RH w' r s v ∧ Box w' b (f k)) (ds := [10]) #[false, false, false, false, false, false, false, false, false, false, false] (by kernel_rfl) rfl rfl (by exact hS0) (fun hHeld => ?_)
        refine with_tabW rnew_tab10 rnew_bits10 (fun HT_ HW_ => ?_)
        generalize wc.drew = wE at hHeld HRE HBE hrE hbE ⊢
        refine pure_ (i := 0) (N := some 45) (v := ?_) (a' := ?_) #[true, false, false, false, false, false, false, false, false, false, false] rfl rfl (any_of HT_.out (by kernel_rfl)) (fun _ _ _ h => h) (Or.inl ⟨by rfl, ?_⟩) ?_ ?_
        rotate_left
        · intro w'
          go_simp
          with_reducible rfl
        rotate_left
        · simp only [Act.put, List.setIfInBounds_toArray, List.set_cons_zero, List.set_cons_succ, i64_w, i32_w]
          rfl
        refine pure_ (i := 1) (N := some 46) (v := ?_) (a' := ?_) #[true, true, false, false, false, false, false, false, false, false, false] rfl rfl (any_of HT_.out (by kernel_rfl)) (fun _ _ _ h => h) (Or.inl ⟨by rfl, ?_⟩) ?_ ?_
        rotate_left
        · intro w'
          go_simp
          with_reducible rfl
        rotate_left
        · simp only [Act.put, List.setIfInBounds_toArray, List.set_cons_zero, List.set_cons_succ, i64_w, i32_w]
          rfl
        refine pure_ (i := 2) (N := some 47) (v := ?_) (a' := ?_) #[true, true, true, false, false, false, false, false, false, false, false] rfl rfl (any_of HT_.out (by kernel_rfl)) (fun _ _ _ h => h) (Or.inl ⟨by rfl, ?_⟩) ?_ ?_
        rotate_left
        · intro w'
          go_simp
          with_reducible rfl
        rotate_left
        · simp only [Act.put, List.setIfInBounds_toArray, List.set_cons_zero, List.set_cons_succ, i64_w, i32_w]
          rfl
        refine pure_ (i := 3) (N := some 48) (v := ?_) (a' := ?_) #[true, true, true, true, false, false, false, false, false, false, false] rfl rfl (any_of HT_.out (by kernel_rfl)) (fun _ _ _ h => h) (Or.inl ⟨by rfl, ?_⟩) ?_ ?_
        rotate_left
        · intro w'
          go_simp
          with_reducible rfl
        rotate_left
        · simp only [Act.put, List.setIfInBounds_toArray, List.set_cons_zero, List.set_cons_succ, i64_w, i32_w]
          rfl
        refine take_ (i := 4) (N := some 49) (v := ?_) (a' := ?_) #[true, true, true, true, true, false, false, false, false, false, false] rfl rfl (take_ofW HT_.out HW_.out (by kernel_rfl)) (fun _ _ _ h => h) (Or.inl ⟨by rfl, ?_⟩) hHeld ?_ ?_
        rotate_left
        · intro w' hSt
          obtain ⟨h1, h2⟩ := hSt
          have c1 := (cell_of h1 (j := 1)).2 rfl
          obtain ⟨b0, b1, b2⟩ := h2.cu
          go_simp
          with_reducible rfl
        rotate_left
        · simp only [Act.put, List.setIfInBounds_toArray, List.set_cons_zero, List.set_cons_succ, i64_w, i32_w]
          rfl
        refine take_ (i := 5) (N := some 50) (v := ?_) (a' := ?_) #[true, true, true, true, true, true, false, false, false, false, false] rfl rfl (take_ofW HT_.out HW_.out (by kernel_rfl)) (fun _ _ _ h => h) (Or.inl ⟨by rfl, ?_⟩) hHeld ?_ ?_
        rotate_left
        · intro w' hSt
          obtain ⟨h1, h2⟩ := hSt
          have c1 := (cell_of h1 (j := 1)).2 rfl
          obtain ⟨b0, b1, b2⟩ := h2.cu
          go_simp
          with_reducible rfl
        rotate_left
        · simp only [Act.put, List.setIfInBounds_toArray, List.set_cons_zero, List.set_cons_succ, i64_w, i32_w]
          rfl
        refine one_ (i := 6) (N := some 51) #[true, true, true, true, true, true, true, false, false, false, false] rfl rfl (one_of HT_.out (by kernel_rfl)) (by decide) (fun K hK => ?_)
        have hSB := hHeld
        refine value_ (w1 := ?_) (v := ?_) (by rfl) rfl ?_ ?_
        rotate_left 2
        · go_simp
          constructor
          · rfl
          · rfl
        have hbl := (Below.refl wE.heap.size wE).alloc (Nat.le_refl _) (.cells #[.int .i64 (f k).1, .int .u8 (f k).2.1, .int .u64 (f k).2.2] 32 (0, 0))
        have hS1 : _ ∧ _ := And.intro (heap_keep hHeld.1 hbl) (hHeld.2.below hbl)
        refine hK.out _ _ (by exact hS1) (fun hHeld => ?_)
        clear hK K
        refine norm_ (a' := ?_) ?_ ?_
        rotate_left
        · first
          | (show Act.put _ (some 51) _ = _; simp only [Act.put, List.setIfInBounds_toArray, List.set_cons_zero, List.set_cons_succ, i64_w, i32_w]; rfl)
          | rfl
        refine one_ (i := 7) (N := some 52) #[true, true, true, true, true, true, true, true, false, false, false] rfl rfl (one_of HT_.out (by kernel_rfl)) (by decide) (fun K hK => ?_)
        refine Kd.R_append_rows_step KU (w0 := w) w.heap.size (by rfl) (.tmp 49) (.tmp 51) 23 32 (.agg #[.int .i64 0, .int .u8 0, .int .u64 0]) 24 rfl Try.underlying23 info32 rfl (by decide) (by omega) v (lst f k) [f k] _ _ _ (fun q => q ≠ r ∧ q ≠ b) (fun _ => False) rfl rfl (Kd.R_alloc HRE.out _) (C_oneU wE (f k)) (fun _ _ h => h) (fun _ h => h.elim) (fun q hq => ⟨by have := hbl.size; omega, by have := hbl.size; omega⟩) (HBE.out.alloc HBE.out.size _) (HBE.out.alloc HBE.out.size _).size ?aL ?_
        case aL => rw [lst_len]; omega
        intro v2 w7 ho hb7 hg7 _
        rw [← lst_succ] at ho
        obtain ⟨A2, c2, hv2, _, _⟩ := Kd.R_reads ho
        subst hv2
        have HO := Aside0.mk ho
        have HB7 := Aside0.mk hb7
        have hS1 : _ ∧ _ := And.intro ((hg7.block r (Nat.lt_of_lt_of_le hrE hbl.size) (fun e => (HRE.out.1 r e.symm).1 rfl)).trans hHeld.1) ((hg7.block b (Nat.lt_of_lt_of_le hbE hbl.size) (fun e => (HRE.out.1 b e.symm).2 rfl)).trans hHeld.2)
        clear ho hb7 hg7
        refine hK.out _ _ (by exact hS1) (fun hHeld => ?_)
        clear hK K
        refine norm_ (a' := ?_) ?_ ?_
        rotate_left
        · first
          | (show Act.put _ (some 52) _ = _; simp only [Act.put, List.setIfInBounds_toArray, List.set_cons_zero, List.set_cons_succ, i64_w, i32_w]; rfl)
          | rfl
        refine pure_ (i := 8) (N := some 53) (v := ?_) (a' := ?_) #[true, true, true, true, true, true, true, true, true, false, false] rfl rfl (any_of HT_.out (by kernel_rfl)) (fun _ _ _ h => h) (Or.inl ⟨by rfl, ?_⟩) ?_ ?_
        rotate_left
        · intro w'
          go_simp
          with_reducible rfl
        rotate_left
        · simp only [Act.put, List.setIfInBounds_toArray, List.set_cons_zero, List.set_cons_succ, i64_w, i32_w]
          rfl
        refine pure_ (i := 9) (N := some 54) (v := ?_) (a' := ?_) #[true, true, true, true, true, true, true, true, true, true, false] rfl rfl (any_of HT_.out (by kernel_rfl)) (fun _ _ _ h => h) (Or.inl ⟨by rfl, ?_⟩) ?_ ?_
        rotate_left
        · intro w'
          go_simp
          with_reducible rfl
        rotate_left
        · simp only [Act.put, List.setIfInBounds_toArray, List.set_cons_zero, List.set_cons_succ, i64_w, i32_w]
          rfl
        refine last_ (i := 10) (N := none) #[true, true, true, true, true, true, true, true, true, true, true] rfl rfl (one_of HT_.out (by kernel_rfl)) (by decide) (fun K hK => ?_)
        have c1 := (cell_of hHeld.1 (j := 1)).2 rfl
        have z1 : w7.frozen? ⟨r, 1, none⟩ = false := by simp only [World.frozen?, hHeld.1]; rfl
        have HH := Aside0.mk (blk_set hHeld.1 1 (.slice A2 (lst f (k + 1)).length c2))
        refine skip_ (w1 := ?_) (by rfl) rfl ?_ ?_
        rotate_left
        · go_simp
          rfl
        clear c1 z1
        refine hK.out _ _ ?_
        clear hK K
        refine norm_ (a' := ?_) ?_ ?_
        rotate_left
        · first
          | (show Act.put _ none _ = _; simp only [Act.put, List.setIfInBounds_toArray, List.set_cons_zero, List.set_cons_succ, i64_w, i32_w]; rfl)
          | rfl
        refine done_ (done_of HT_.out (by kernel_rfl)) ?_
        clear hHeld HT_ HW_ hS0
        go_wp2
        go_roundw
        case rel => exact ⟨k + 1, .slice A2 (lst f (k + 1)).length c2, by omega, by go_num, ⟨HB7.out.setCell hrw _⟩, ⟨HH.out⟩, ⟨Kd.R_far (Kd.R_mono HO.out (fun q hq => hq.1)) (p := ⟨r, 1, none⟩) (fun q hq => hq) _⟩⟩
        case measure => simp [intOf]; omega
    · obtain rfl : k = n := by omega
      clear hlt hk
      go_wp2
      go_ret2
      obtain ⟨g, cap, hg, hM⟩ := RM.make HR.out HL.out hn0
      obtain rfl := HGR.out
      exact ⟨rfl, HB.out, g, cap, hg, hM⟩
theorem rnew_nil (s n inc : Int) (w : World) (hmay : ¬ mayNew s n inc) :
    Calls Try.prog 16 #[.int .i64 s, .int .i64 n, .int .u64 inc] w fun e w' => e = .returned (.tuple #[.pointer none, .bool false]) ∧ w' = w := by
  unfold mayNew at hmay
  by_cases h1 : n < 1
  · have e1 : decide (n < 1) = true := decide_eq_true h1
    clear hmay h1
    go_enter Try.func16, Try.ntmps16
    go_wp2
    go_ret2
    exact ⟨rfl, rfl⟩
  have e1 : decide (n < 1) = false := decide_eq_false h1
  by_cases h2 : n > 16
  · have e2 : decide (n > 16) = true := decide_eq_true h2
    clear hmay h1 h2
    go_enter Try.func16, Try.ntmps16
    go_wp2
    go_ret2
    exact ⟨rfl, rfl⟩
  have e2 : decide (n > 16) = false := decide_eq_false h2
  by_cases h3 : s < 0
  · have e3 : decide (s < 0) = true := decide_eq_true h3
    clear hmay h1 h2 h3
    go_enter Try.func16, Try.ntmps16
    go_wp2
    go_ret2
    exact ⟨rfl, rfl⟩
  have e3 : decide (s < 0) = false := decide_eq_false h3
  by_cases h4 : s ≥ n
  · have e4 : decide (s ≥ n) = true := decide_eq_true h4
    clear hmay h1 h2 h3 h4
    go_enter Try.func16, Try.ntmps16
    go_wp2
    go_ret2
    exact ⟨rfl, rfl⟩
  have e4 : decide (s ≥ n) = false := decide_eq_false h4
  have e5 : decide (inc > 1099511627776) = true := decide_eq_true (by omega)
  clear hmay h1 h2 h3 h4
  go_enter Try.func16, Try.ntmps16
  go_wp2
  go_ret2
  exact ⟨rfl, rfl⟩
theorem memC_one {cs : Array Value} {s n : Nat} {f : Nat → U} (h : MemC cs s n f) : cs.all (·.oneCell') = true := by
  obtain ⟨hsz, h0, h1, h2⟩ := h
  rw [Array.all_eq_true]
  intro j hj
  have key : ∀ v, cs[j]? = some v → v.oneCell' = true → cs[j].oneCell' = true := fun v hv h1 => by
    rw [Array.getElem?_eq_getElem hj] at hv
    injection hv with hv
    rw [hv]
    exact h1
  rcases j with _ | _ | j
  · exact key _ h0 rfl
  · exact key _ h1 rfl
  · obtain ⟨a, b, c⟩ := h2 (j / 3) (by omega)
    have hd : j = j / 3 * 3 + j % 3 := by omega
    have hm : j % 3 = 0 ∨ j % 3 = 1 ∨ j % 3 = 2 := by omega
    rcases hm with hm | hm | hm
    · exact key _ (by rw [show j + 1 + 1 = 2 + j / 3 * 3 by omega]; exact a) rfl
    · exact key _ (by rw [show j + 1 + 1 = 2 + j / 3 * 3 + 1 by omega]; exact b) rfl
    · exact key _ (by rw [show j + 1 + 1 = 2 + j / 3 * 3 + 2 by omega]; exact c) rfl
theorem infoM : (Try.prog.info? 51).map (·.size) = some 50 := by kernel_rfl
set_option maxHeartbeats 3200000 in
set_option maxRecDepth 100000 in
theorem copy_calls (m s n : Nat) (f : Nat → U) (w : World) (h : Mem w m s n f) (hn : 0 < n) :
    Calls Try.prog 18 #[.pointer (some ⟨m, 0, none⟩)] w fun e w' => ∃ m', w.heap.size ≤ m' ∧ e = .returned (.pointer (some ⟨m', 0, none⟩)) ∧ Below w.heap.size w w' ∧ Mem w' m' s n f := by
  have hc1 := h.c1
  have hb0 : ((n : Int) == 0) = false := by simp; omega
  obtain ⟨cs, hcs, hmc⟩ := h
  have HCS := Aside0.mk hcs
  have HMC := Aside0.mk hmc
  have HI := Aside0.mk (show (Try.prog.info? 51).map (·.size) = some cs.size by rw [hmc.1]; exact infoM)
  have H1 := Aside0.mk (memC_one hmc)
  have HSZ := Aside0.mk hmc.1
  clear hcs hmc
  go_enter Try.func18, Try.ntmps18
  go_wp2_with (first | ((with_reducible refine gate_dst (N := 15) rfl ?_); refine wpList_load_row rfl _ (.tmp 14) rfl m rfl 51 cs (0, 0) _ HCS.out Try.underlying51 rfl HI.out ?_) | (refine wpList_store_row rfl _ (.tmp 3) (.tmp 15) rfl w.heap.size cs rfl rfl 51 (zeros 0 0) (heap_new _ _) HI.out HSZ.out.symm H1.out ?_))
  go_ret
  exact ⟨w.heap.size, Nat.le_refl _, rfl, below_setRow ((Below.refl w.heap.size w).alloc (Nat.le_refl _) _) (Nat.le_refl _) _, cs, setRow_heap _ _ _ _ _ _ (heap_new _ _), HMC.out⟩
end Go.Proofs.Yticpifhnfpnibaa.Mem
