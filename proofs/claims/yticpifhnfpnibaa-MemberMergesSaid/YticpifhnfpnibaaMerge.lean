/- What calls of Go functions of this seat come to, as the rows need it: under the conditions that each theorem names. -/
import Derived.Test.YticpifhnfpnibaaMergePure
import Derived.Test.YticpifhnfpnibaaWTab
namespace Go.Proofs.Yticpifhnfpnibaa.Mem
open Go.RowKit Go.Proofs.YticpifhnfpnibaaW.PrintWords Go.Proofs.YticpifhnfpnibaaW.PrintLast Go.Proofs.YticpifhnfpnibaaW.PrintMore
set_option linter.unusedVariables false
set_option linter.unusedSimpArgs false
def mrg_T34 : Bool × List (List Nat × List Nat) := (true, [([], []), ([], []), ([0, 1], [0, 1]), ([2], [2]), ([], []), ([], []), ([4, 5], [4, 5]), ([6], [6]), ([3, 7], [3, 7]), ([8, 8], [8]), ([9], [9]), ([9], [9]), ([10, 11, 9], [9, 10, 11]), ([12, 9], [9, 12]), ([9], [9]), ([9], [9]), ([14, 15, 9], [9, 14, 15]), ([16, 9], [9, 16]), ([13, 17, 9, 9], [9, 13, 17]), ([9, 18], [9, 18])])
def mrg_B34 : List Nat := [0, 0, 3, 7, 0, 0, 48, 112, 255, 511, 1023, 1023, 4095, 8191, 1023, 1023, 50175, 115711, 262143, 524287]
theorem mrg_tab34 : rtab .any (opsOf Try.f4 34) = mrg_T34 := by kernel_rfl
theorem mrg_bits34 : waitsOk mrg_T34.2 mrg_B34 = true := by kernel_rfl
def mrg_T38 : Bool × List (List Nat × List Nat) := (true, [([], []), ([], []), ([0, 1], [0, 1]), ([2], [2]), ([], []), ([], []), ([4, 5], [4, 5]), ([6], [6]), ([3, 7], [3, 7])])
def mrg_B38 : List Nat := [0, 0, 3, 7, 0, 0, 48, 112, 255]
theorem mrg_tab38 : rtab .any (opsOf Try.f4 38) = mrg_T38 := by kernel_rfl
theorem mrg_bits38 : waitsOk mrg_T38.2 mrg_B38 = true := by kernel_rfl
def mrg_T40 : Bool × List (List Nat × List Nat) := (true, [([], []), ([], []), ([0, 1], [0, 1]), ([2], [2]), ([], []), ([3, 4], [3, 4]), ([5], [5]), ([6], [6]), ([6], [6]), ([7, 8, 6], [6, 7, 8]), ([9, 6], [6, 9]), ([6], [6]), ([10, 11, 6], [6, 10, 11]), ([6, 12], [6, 12])])
def mrg_B40 : List Nat := [0, 0, 3, 7, 0, 31, 63, 127, 127, 511, 1023, 127, 4095, 8191]
theorem mrg_tab40 : rtab .any (opsOf Try.f4 40) = mrg_T40 := by kernel_rfl
theorem mrg_bits40 : waitsOk mrg_T40.2 mrg_B40 = true := by kernel_rfl
def mrg_T46 : Bool × List (List Nat × List Nat) := (true, [([], []), ([], []), ([0, 1], [0, 1]), ([2], [2]), ([3], [3]), ([4], [4]), ([5], [5]), ([6], [6]), ([6], [6]), ([7, 8, 6], [6, 7, 8]), ([9, 6], [6, 9]), ([6], [6]), ([6], [6]), ([11, 12, 6], [6, 11, 12]), ([13, 6], [6, 13]), ([10, 14, 6], [6, 10, 14]), ([15, 6, 6], [6, 15]), ([16], [16]), ([16], [16]), ([17, 18, 16], [16, 17, 18]), ([19, 16], [16, 19]), ([20, 16], [16, 20]), ([21, 16], [16, 21]), ([16, 22, 6], [6, 16, 22]), ([6, 23], [6, 23])])
def mrg_B46 : List Nat := [0, 0, 3, 7, 15, 31, 63, 127, 127, 511, 1023, 127, 127, 6271, 14463, 32767, 65535, 131071, 131071, 524287, 1048575, 2097151, 4194303, 8388607, 16777215]
theorem mrg_tab46 : rtab .any (opsOf Try.f4 46) = mrg_T46 := by kernel_rfl
theorem mrg_bits46 : waitsOk mrg_T46.2 mrg_B46 = true := by kernel_rfl
theorem pos_first (s n : Nat) (inc : Int) (h : 0 ≤ inc) : ∀ j, j < n → 0 ≤ (first s n inc j).2.2 := fun j hj => by
  unfold first
  rw [if_pos hj]
  show 0 ≤ (if j = s then inc else 0)
  split <;> omega
theorem pos_next {s : Nat} {x u : U} (hx : 0 ≤ x.2.2) (hu : 0 ≤ u.2.2) : 0 ≤ (next s x u).2.2 := by
  unfold next
  split
  · split
    · exact hu
    · exact hx
  · split
    · show 0 ≤ max _ _; omega
    · split
      · show 0 ≤ min _ _; omega
      · exact hx
theorem pos_hears {s n : Nat} (l : List U) (hl : ∀ u ∈ l, 0 ≤ u.2.2) : ∀ {f : Nat → U}, (∀ j, j < n → 0 ≤ (f j).2.2) → ∀ j, j < n → 0 ≤ (hears s n f l j).2.2 := by
  induction l with
  | nil => intro f h; exact h
  | cons u l ih =>
    intro f h
    refine ih (fun v hv => hl v (by simp [hv])) (f := hearF s n f u) (fun j hj => ?_)
    by_cases hm : may n u
    · rw [hearF_yes hm]
      unfold upd
      split
      · rename_i e
        subst e
        exact pos_next (h _ hj) (hl u (by simp))
      · exact h j hj
    · rw [hearF_no hm]
      exact h j hj
theorem pos_it {n : Nat} {fa fb : Nat → U} (ha : ∀ j, j < n → 0 ≤ (fa j).2.2) (hb : ∀ j, j < n → 0 ≤ (fb j).2.2) : ∀ k, (∀ j, j < n → 0 ≤ ((it n fa fb k).1 j).2.2) ∧ (∀ j, j < n → 0 ≤ ((it n fa fb k).2 j).2.2)
  | 0 => ⟨ha, hb⟩
  | k + 1 => by
    obtain ⟨h1, h2⟩ := pos_it ha hb k
    have h3 : ∀ j, j < n → 0 ≤ ((it n fa fb (k + 1)).2 j).2.2 := fun j hj => by
      rw [(it_at k j hj).1]
      exact pos_next (h2 j hj) (h1 j hj)
    refine ⟨fun j hj => ?_, h3⟩
    rw [(it_at k j hj).2]
    exact pos_next (h1 j hj) (h3 j hj)
set_option maxHeartbeats 6400000 in
set_option maxRecDepth 100000 in
theorem merges_calls (n : Int) (A1 : Option Addr) (c1 : Nat) (xs : List U) (A2 : Option Addr) (c2 : Nat) (ys : List U) (w : World) (hr1 : KU.C w A1 xs.length xs) (hc1 : xs.length ≤ c1) (hr2 : KU.C w A2 ys.length ys) (hc2 : ys.length ≤ c2) (hxs : ∀ u ∈ xs, 0 ≤ u.2.2) (hys : ∀ u ∈ ys, 0 ≤ u.2.2) :
    Calls Try.prog 4 #[.int .i64 n, .slice A1 xs.length c1, .slice A2 ys.length c2] w fun e w' => e = .returned (.bool true) ∧ Below w.heap.size w w' := by
  have HR1 := Aside0.mk hr1
  have HR2 := Aside0.mk hr2
  have hl1 : xs.length ≤ 9223372036854775807 := hr1.2.1
  have hl2 : ys.length ≤ 9223372036854775807 := hr2.2.1
  have HXS0 := Aside0.mk hxs
  have HXS1 := Aside0.mk hys
  clear hr1 hr2 hxs hys
  by_cases hmay : mayNew 0 n 0
  rotate_left
  · have H := Aside0.mk (new_nil 0 n 0 w hmay)
    have H2 := Aside0.mk (new_nil 1 n 0 w (fun h => hmay (by unfold mayNew at h ⊢; omega)))
    clear hmay
    go_enter Try.func4, Try.ntmps4
    go_wp2_with fail
    refine H.out.mono ?_
    rintro e w1 ⟨rfl, rfl⟩
    go_wp2_with fail
    refine H2.out.mono ?_
    rintro e w2 ⟨rfl, rfl⟩
    go_wp2_with fail
    refine (known_calls _).mono ?_
    rintro e w3 ⟨rfl, hb⟩
    go_wp2
    go_ret
    exact ⟨rfl, hb⟩
  have H1 := fun w => new_calls 0 n 0 w hmay (by omega)
  obtain ⟨h1, h2, h3, h4, h5⟩ := hmay
  obtain ⟨n, rfl⟩ := Int.eq_ofNat_of_zero_le (a := n) (by omega)
  have HNEW0 : Aside0 (∀ w : World, Calls Try.prog 8 #[.int .i64 0, .int .i64 n, .int .u64 0] w fun e w' => e = .returned (.pointer (some ⟨w.heap.size, 0, none⟩)) ∧ Below w.heap.size w w' ∧ Mem w' w.heap.size 0 n (first 0 n 0)) := ⟨H1⟩
  have hn0 : 0 < n := by omega
  have hn16 : n ≤ 16 := by omega
  clear H1 h1 h2 h3 h4 h5
  by_cases hn2 : 2 ≤ n
  rotate_left
  · have H2 := Aside0.mk (fun w => new_nil 1 n 0 w (fun h => by unfold mayNew at h; omega))
    clear hn2
    go_enter Try.func4, Try.ntmps4
    go_wp2_with fail
    refine (HNEW0.out _).mono ?_
    rintro e w1 ⟨rfl, hb, hm⟩
    have HB := Aside0.mk hb
    clear hb hm
    go_wp2_with fail
    refine (H2.out _).mono ?_
    rintro e w2 ⟨rfl, rfl⟩
    go_wp2_with fail
    refine (known_calls _).mono ?_
    rintro e w3 ⟨rfl, hb⟩
    go_wp2
    go_ret
    exact ⟨rfl, below_step HB.out hb⟩
  have HNEW1 : Aside0 (∀ w : World, Calls Try.prog 8 #[.int .i64 1, .int .i64 n, .int .u64 0] w fun e w' => e = .returned (.pointer (some ⟨w.heap.size, 0, none⟩)) ∧ Below w.heap.size w w' ∧ Mem w' w.heap.size 1 n (first 1 n 0)) := ⟨fun w => new_calls 1 n 0 w (by unfold mayNew; omega) (by omega)⟩
  have HG0 := Aside0.mk (good3_first 0 n 0 (by omega))
  have HG1 := Aside0.mk (good3_first 1 n 0 (by omega))
  have HA0 := Aside0.mk (first_alive 0 n 0 (by omega))
  have HA1 := Aside0.mk (first_alive 1 n 0 (by omega))
  have HP0 := Aside0.mk (pos_first 0 n 0 (by omega))
  have HP1 := Aside0.mk (pos_first 1 n 0 (by omega))
  generalize first 0 n 0 = f0 at HNEW0 HG0 HA0 HP0
  generalize first 1 n 0 = g0 at HNEW1 HG1 HA1 HP1
  by_cases hbig : 60 < xs.length ∨ 60 < ys.length
  · go_enter Try.func4, Try.ntmps4
    go_wp2_with fail
    refine (HNEW0.out _).mono ?_
    rintro e w1 ⟨rfl, hb, hm⟩
    have HB := Aside0.mk hb
    clear hb hm
    go_wp2_with fail
    refine (HNEW1.out _).mono ?_
    rintro e w2 ⟨rfl, hb, hm⟩
    replace HB := Aside0.mk (below_step HB.out hb)
    clear hb hm
    by_cases hx60 : 60 < xs.length
    · have hb1 : decide ((xs.length : Int) > 60) = true := decide_eq_true (by omega)
      clear hbig
      go_wp2_with fail
      refine (known_calls _).mono ?_
      rintro e w3 ⟨rfl, hb⟩
      go_wp2
      go_ret
      exact ⟨rfl, below_step HB.out hb⟩
    · have hb1 : decide ((xs.length : Int) > 60) = false := decide_eq_false (by omega)
      have hb2 : decide ((ys.length : Int) > 60) = true := decide_eq_true (by omega)
      clear hbig
      go_wp2_with fail
      refine (known_calls _).mono ?_
      rintro e w3 ⟨rfl, hb⟩
      go_wp2
      go_ret
      exact ⟨rfl, below_step HB.out hb⟩
  have hb1 : decide ((xs.length : Int) > 60) = false := decide_eq_false (by omega)
  have hb2 : decide ((ys.length : Int) > 60) = false := decide_eq_false (by omega)
  clear hbig
  go_enter Try.func4, Try.ntmps4
  go_wp2_with fail
  refine (HNEW0.out _).mono ?_
  rintro e w1 ⟨rfl, hb, hm⟩
  have HB := Aside0.mk hb
  have HM0 := Aside0.mk hm
  clear hb hm
  generalize hg1 : w.heap.size = m1 at HM0 ⊢
  have hle0 : w.heap.size ≤ m1 := Nat.le_of_eq hg1
  clear hg1
  go_wp2_with fail
  refine (HNEW1.out _).mono ?_
  rintro e w2 ⟨rfl, hb, hm⟩
  replace HB := Aside0.mk (below_step HB.out hb)
  have hlt1 := HM0.out.lt
  replace HM0 := Aside0.mk (HM0.out.below hb)
  have HM1 := Aside0.mk hm
  clear hb hm
  generalize w1.heap.size = m2 at HM1 hlt1 ⊢
  have hle1 : w.heap.size ≤ m2 := by omega
  clear HNEW0 HNEW1
  go_wp2
  go_loopw [45] (fun i wr => ∃ k : Nat, k ≤ xs.length ∧ i = .int .i64 k ∧ Aside0 (Below w.heap.size w wr) ∧ Aside0 (Mem wr m1 0 n (hears 0 n f0 (xs.take k))) ∧ Aside0 (Mem wr m2 1 n g0)) (fun i _ => xs.length - (intOf i).toNat)
  case atStart => exact ⟨0, Nat.zero_le _, rfl, HB, HM0, HM1⟩
  case round =>
    clear HB HM0 HM1
    obtain ⟨k, hk, rfl, HB, HM0, HM1⟩ := hrel
    by_cases hlt : k < xs.length
    · obtain ⟨ad, rfl, x0, x1, x2⟩ := row_cu (Kd.C_below HR1.out HB.out) k hlt xs[k] (List.getElem?_eq_getElem hlt)
      have HS := Aside0.mk (List.take_succ_eq_append_getElem hlt)
      have HU := Aside0.mk (HXS0.out xs[k] (List.getElem_mem hlt))
      generalize xs[k] = u at x0 x1 x2 HS HU
      go_wp2_with fail
      refine (hear_calls m1 0 n _ u.1 u.2.1 u.2.2 _ HM0.out hn0 hn16 HU.out).mono ?_
      rintro e w3 ⟨rfl, hc, hm⟩
      replace HB := Aside0.mk (below_chg HB.out hc hle0 HM0.out.lt)
      replace HM1 := Aside0.mk (HM1.out.ch hc (by omega))
      replace HM0 := Aside0.mk (show Mem w3 m1 0 n (hears 0 n f0 (xs.take (k + 1))) by rw [HS.out, hears_snoc]; exact hm)
      clear hc hm x0 x1 x2
      go_wp2
      go_roundw
      case rel => exact ⟨k + 1, by omega, by go_num, HB, HM0, HM1⟩
      case measure => simp [intOf]; omega
    · obtain rfl : k = xs.length := by omega
      clear hlt hk
      replace HM0 := Aside0.mk (show Mem wr m1 0 n (hears 0 n f0 xs) by have h := HM0.out; rwa [List.take_length] at h)
      go_wp2
      go_loopw [57] (fun i wr => ∃ k : Nat, k ≤ ys.length ∧ i = .int .i64 k ∧ Aside0 (Below w.heap.size w wr) ∧ Aside0 (Mem wr m2 1 n (hears 1 n g0 (ys.take k))) ∧ Aside0 (Mem wr m1 0 n (hears 0 n f0 xs))) (fun i _ => ys.length - (intOf i).toNat)
      case atStart => exact ⟨0, Nat.zero_le _, rfl, HB, HM1, HM0⟩
      case round =>
        clear HB HM0 HM1
        obtain ⟨k, hk, rfl, HB, HM1, HM0⟩ := hrel
        by_cases hlt : k < ys.length
        · obtain ⟨ad, rfl, x0, x1, x2⟩ := row_cu (Kd.C_below HR2.out HB.out) k hlt ys[k] (List.getElem?_eq_getElem hlt)
          have HS := Aside0.mk (List.take_succ_eq_append_getElem hlt)
          have HU := Aside0.mk (HXS1.out ys[k] (List.getElem_mem hlt))
          generalize ys[k] = u at x0 x1 x2 HS HU
          go_wp2_with fail
          refine (hear_calls m2 1 n _ u.1 u.2.1 u.2.2 _ HM1.out hn0 hn16 HU.out).mono ?_
          rintro e w3 ⟨rfl, hc, hm⟩
          replace HB := Aside0.mk (below_chg HB.out hc hle1 HM1.out.lt)
          replace HM0 := Aside0.mk (HM0.out.ch hc (by omega))
          replace HM1 := Aside0.mk (show Mem w3 m2 1 n (hears 1 n g0 (ys.take (k + 1))) by rw [HS.out, hears_snoc]; exact hm)
          clear hc hm x0 x1 x2
          go_wp2
          go_roundw
          case rel => exact ⟨k + 1, by omega, by go_num, HB, HM1, HM0⟩
          case measure => simp [intOf]; omega
        · obtain rfl : k = ys.length := by omega
          clear hlt hk
          replace HM1 := Aside0.mk (show Mem wr m2 1 n (hears 1 n g0 ys) by have h := HM1.out; rwa [List.take_length] at h)
          have HGA := Aside0.mk (good3_hears (s := 0) xs HG0.out)
          have HGB := Aside0.mk (good3_hears (s := 1) ys HG1.out)
          have HAA := Aside0.mk (alive_hears (s := 0) xs (good3_good HG0.out) HA0.out)
          have HAB := Aside0.mk (alive_hears (s := 1) ys (good3_good HG1.out) HA1.out)
          have HPA0 := Aside0.mk (pos_hears (s := 0) xs HXS0.out HP0.out)
          have HPB0 := Aside0.mk (pos_hears (s := 1) ys HXS1.out HP1.out)
          clear HG0 HG1 HA0 HA1 HP0 HP1 HXS0 HXS1 HR1 HR2
          generalize hears 0 n f0 xs = fa at HM0 HGA HAA HPA0
          generalize hears 1 n g0 ys = fb at HM1 HGB HAB HPB0
          go_wp2_with fail
          have hbx0 := HM0.out.lt
          have hbx1 := HM1.out.lt
          refine (all_calls m1 0 n fa _ HM0.out hn16).mono ?_
          rintro e w3 ⟨v, rfl, ho, hb⟩
          obtain ⟨Ax, cx, rfl, hcx, hr⟩ := Kd.R_reads ho
          rw [lst_len] at hcx hr ⊢
          have HX : Aside0 (Kd.R KU 32 w3 wr.heap.size (fun _ => True) (.slice Ax n cx) (lst fa n)) := ⟨by have h := ho; rwa [lst_len] at h⟩
          replace HB := Aside0.mk (below_step HB.out hb)
          replace HM0 := Aside0.mk (HM0.out.below hb)
          replace HM1 := Aside0.mk (HM1.out.below hb)
          have hszb := hb.size
          clear ho hb hr
          generalize wr.heap.size = bx at HX hbx0 hbx1 hszb
          go_wp2_with fail
          refine (all_calls m2 1 n fb _ HM1.out hn16).mono ?_
          rintro e w4 ⟨v, rfl, ho, hb⟩
          obtain ⟨Ay, cy, rfl, hcy, hr⟩ := Kd.R_reads ho
          rw [lst_len] at hcy hr ⊢
          have HY : Aside0 (Kd.R KU 32 w4 bx (fun _ => True) (.slice Ay n cy) (lst fb n)) := ⟨by have h := Kd.R_lower ho hszb; rwa [lst_len] at h⟩
          replace HB := Aside0.mk (below_step HB.out hb)
          replace HM0 := Aside0.mk (HM0.out.below hb)
          replace HM1 := Aside0.mk (HM1.out.below hb)
          replace HX := Aside0.mk (Kd.R_below HX.out hb)
          clear ho hb hr hszb
          go_wp2
          go_loopw [71] (fun i wr => ∃ t : Nat, t ≤ 3 ∧ i = .int .i64 t ∧ Aside0 (Below w.heap.size w wr) ∧ Aside0 (Mem wr m1 0 n (it n fa fb t).1) ∧ Aside0 (Mem wr m2 1 n (it n fa fb t).2) ∧ Aside0 (Kd.R KU 32 wr bx (fun _ => True) (.slice Ax n cx) (lst fa n)) ∧ Aside0 (Kd.R KU 32 wr bx (fun _ => True) (.slice Ay n cy) (lst fb n))) (fun i _ => 3 - (intOf i).toNat)
          case atStart => exact ⟨0, Nat.zero_le _, rfl, HB, HM0, HM1, HX, HY⟩
          case round =>
            clear HB HM0 HM1 HX HY
            obtain ⟨t, ht, rfl, HB, HM0, HM1, HX, HY⟩ := hrel
            by_cases ht3 : t < 3
            · have HGT := Aside0.mk (good3_it HGA.out HGB.out t)
              have HPA := Aside0.mk (pos_it HPA0.out HPB0.out t).1
              have HPB' := Aside0.mk (pos_it HPA0.out HPB0.out (t + 1)).2
              have HGT' := Aside0.mk (good3_it HGA.out HGB.out (t + 1)).2
              have hb' : merge 1 n (it n fa fb t).2 (it n fa fb t).1 = (it n fa fb (t + 1)).2 := rfl
              have ha' : merge 0 n (it n fa fb t).1 (it n fa fb (t + 1)).2 = (it n fa fb (t + 1)).1 := rfl
              have HBE := Aside0.mk hb'
              have HAE := Aside0.mk ha'
              clear hb' ha'
              generalize hpa : (it n fa fb t).1 = pa at HM0 HGT HPA HBE HAE
              generalize hpb : (it n fa fb t).2 = pb at HM1 HGT HBE
              generalize hpc : (it n fa fb (t + 1)).1 = pc at HAE
              generalize hpd : (it n fa fb (t + 1)).2 = pd at HPB' HGT' HBE HAE
              have HC := Aside0.mk (And.intro hpc hpd)
              clear hpa hpb hpc hpd
              go_wp2_with fail
              have hmw0 := HM0.out.lt
              have hmv1 := HM1.out.lt
              refine (all_calls m1 0 n pa _ HM0.out hn16).mono ?_
              rintro e w4 ⟨v, rfl, ho, hb⟩
              obtain ⟨A77, c77, rfl, hc77, hr⟩ := Kd.R_reads ho
              rw [lst_len] at hc77 hr ⊢
              have HW : Aside0 (Kd.R KU 32 w4 wr.heap.size (fun _ => True) (.slice A77 n c77) (lst pa n)) := ⟨by have h := ho; rwa [lst_len] at h⟩
              replace HB := Aside0.mk (below_step HB.out hb)
              replace HM0 := Aside0.mk (HM0.out.below hb)
              replace HM1 := Aside0.mk (HM1.out.below hb)
              replace HX := Aside0.mk (Kd.R_below HX.out hb)
              replace HY := Aside0.mk (Kd.R_below HY.out hb)
              clear ho hb hr
              generalize wr.heap.size = bw at HW hmw0 hmv1
              go_wp2
              go_loopw [76] (fun i wr => ∃ j : Nat, j ≤ n ∧ i = .int .i64 j ∧ Aside0 (Below w.heap.size w wr) ∧ Aside0 (Mem wr m2 1 n (hears 1 n pb (lst pa j))) ∧ Aside0 (Mem wr m1 0 n pa) ∧ Aside0 (Kd.R KU 32 wr bw (fun _ => True) (.slice A77 n c77) (lst pa n)) ∧ Aside0 (Kd.R KU 32 wr bx (fun _ => True) (.slice Ax n cx) (lst fa n)) ∧ Aside0 (Kd.R KU 32 wr bx (fun _ => True) (.slice Ay n cy) (lst fb n))) (fun i _ => n - (intOf i).toNat)
              case atStart => exact ⟨0, Nat.zero_le _, rfl, HB, HM1, HM0, HW, HX, HY⟩
              case round =>
                clear HB HM0 HM1 HX HY HW
                obtain ⟨j, hj, rfl, HB, HM1, HM0, HW, HX, HY⟩ := hrel
                by_cases hj1 : j < n
                · have hrw : KU.C wr A77 n (lst pa n) := by have h := (Kd.R_reads' HW.out).2.2; rwa [lst_len] at h
                  obtain ⟨ad, rfl, x0, x1, x2⟩ := row_cu hrw j hj1 (pa j) (by simp [lst, hj1])
                  clear hrw
                  go_upto_region 20 with (fail)
                  have hb := (Below.refl wr.heap.size wr).alloc (Nat.le_refl _) (.cells #[.int .i64 (pa j).1, .int .u8 (pa j).2.1, .int .u64 (pa j).2.2] 32 (0, 0))
                  have HQ := Aside0.mk (show Box (wr.alloc (.cells #[.int .i64 (pa j).1, .int .u8 (pa j).2.1, .int .u64 (pa j).2.2] 32 (0, 0))) wr.heap.size (pa j) from heap_new _ _)
                  replace HB := Aside0.mk (below_step HB.out hb)
                  replace HM0 := Aside0.mk (HM0.out.below hb)
                  replace HM1 := Aside0.mk (HM1.out.below hb)
                  replace HW := Aside0.mk (Kd.R_below HW.out hb)
                  replace HX := Aside0.mk (Kd.R_below HX.out hb)
                  replace HY := Aside0.mk (Kd.R_below HY.out hb)
                  clear hb x0 x1 x2
                  generalize wr.alloc _ = w5 at HB HM0 HM1 HW HX HY HQ ⊢
                  generalize wr.heap.size = bq at HQ ⊢
                  obtain ⟨q0, q1, q2⟩ := HQ.out.cu
                  have HU := Aside0.mk (HPA.out j hj1)
                  go_wp2_with fail
                  refine (hear_calls m2 1 n _ (pa j).1 (pa j).2.1 (pa j).2.2 _ HM1.out hn0 hn16 HU.out).mono ?_
                  rintro e w6 ⟨rfl, hc, hm⟩
                  replace HB := Aside0.mk (below_chg HB.out hc hle1 HM1.out.lt)
                  replace HW := Aside0.mk (R_ch' HW.out hc hmv1)
                  replace HX := Aside0.mk (R_ch' HX.out hc hbx1)
                  replace HY := Aside0.mk (R_ch' HY.out hc hbx1)
                  replace HM0 := Aside0.mk (HM0.out.ch hc (by omega))
                  replace HM1 := Aside0.mk (show Mem w6 m2 1 n (hears 1 n pb (lst pa (j + 1))) by rw [lst_succ, hears_snoc]; exact hm)
                  clear hc hm q0 q1 q2
                  go_wp2
                  go_roundw
                  case rel => exact ⟨j + 1, by omega, by go_num, HB, HM1, HM0, HW, HX, HY⟩
                  case measure => simp [intOf]; omega
                · obtain rfl : n = j := by omega
                  clear hj1 hj HW
                  replace HM1 := Aside0.mk (show Mem wr m2 1 n pd by rw [← HBE.out, ← hears_lst HGT.out.1]; exact HM1.out)
                  have HPB := HPB'
                  go_wp2_with fail
                  have hmw1 := HM1.out.lt
                  have hmv0 := HM0.out.lt
                  refine (all_calls m2 1 n pd _ HM1.out hn16).mono ?_
                  rintro e w4 ⟨v, rfl, ho, hb⟩
                  obtain ⟨A87, c87, rfl, hc87, hr⟩ := Kd.R_reads ho
                  rw [lst_len] at hc87 hr ⊢
                  have HW : Aside0 (Kd.R KU 32 w4 wr.heap.size (fun _ => True) (.slice A87 n c87) (lst pd n)) := ⟨by have h := ho; rwa [lst_len] at h⟩
                  replace HB := Aside0.mk (below_step HB.out hb)
                  replace HM0 := Aside0.mk (HM0.out.below hb)
                  replace HM1 := Aside0.mk (HM1.out.below hb)
                  replace HX := Aside0.mk (Kd.R_below HX.out hb)
                  replace HY := Aside0.mk (Kd.R_below HY.out hb)
                  clear ho hb hr
                  generalize wr.heap.size = bw at HW hmw1 hmv0
                  go_wp2
                  go_loopw [87] (fun i wr => ∃ j : Nat, j ≤ n ∧ i = .int .i64 j ∧ Aside0 (Below w.heap.size w wr) ∧ Aside0 (Mem wr m1 0 n (hears 0 n pa (lst pd j))) ∧ Aside0 (Mem wr m2 1 n pd) ∧ Aside0 (Kd.R KU 32 wr bw (fun _ => True) (.slice A87 n c87) (lst pd n)) ∧ Aside0 (Kd.R KU 32 wr bx (fun _ => True) (.slice Ax n cx) (lst fa n)) ∧ Aside0 (Kd.R KU 32 wr bx (fun _ => True) (.slice Ay n cy) (lst fb n))) (fun i _ => n - (intOf i).toNat)
                  case atStart => exact ⟨0, Nat.zero_le _, rfl, HB, HM0, HM1, HW, HX, HY⟩
                  case round =>
                    clear HB HM0 HM1 HX HY HW
                    obtain ⟨j, hj, rfl, HB, HM0, HM1, HW, HX, HY⟩ := hrel
                    by_cases hj1 : j < n
                    · have hrw : KU.C wr A87 n (lst pd n) := by have h := (Kd.R_reads' HW.out).2.2; rwa [lst_len] at h
                      obtain ⟨ad, rfl, x0, x1, x2⟩ := row_cu hrw j hj1 (pd j) (by simp [lst, hj1])
                      clear hrw
                      go_upto_region 25 with (fail)
                      have hb := (Below.refl wr.heap.size wr).alloc (Nat.le_refl _) (.cells #[.int .i64 (pd j).1, .int .u8 (pd j).2.1, .int .u64 (pd j).2.2] 32 (0, 0))
                      have HQ := Aside0.mk (show Box (wr.alloc (.cells #[.int .i64 (pd j).1, .int .u8 (pd j).2.1, .int .u64 (pd j).2.2] 32 (0, 0))) wr.heap.size (pd j) from heap_new _ _)
                      replace HB := Aside0.mk (below_step HB.out hb)
                      replace HM0 := Aside0.mk (HM0.out.below hb)
                      replace HM1 := Aside0.mk (HM1.out.below hb)
                      replace HW := Aside0.mk (Kd.R_below HW.out hb)
                      replace HX := Aside0.mk (Kd.R_below HX.out hb)
                      replace HY := Aside0.mk (Kd.R_below HY.out hb)
                      clear hb x0 x1 x2
                      generalize wr.alloc _ = w5 at HB HM0 HM1 HW HX HY HQ ⊢
                      generalize wr.heap.size = bq at HQ ⊢
                      obtain ⟨q0, q1, q2⟩ := HQ.out.cu
                      have HU := Aside0.mk (HPB.out j hj1)
                      go_wp2_with fail
                      refine (hear_calls m1 0 n _ (pd j).1 (pd j).2.1 (pd j).2.2 _ HM0.out hn0 hn16 HU.out).mono ?_
                      rintro e w6 ⟨rfl, hc, hm⟩
                      replace HB := Aside0.mk (below_chg HB.out hc hle0 HM0.out.lt)
                      replace HW := Aside0.mk (R_ch' HW.out hc hmv0)
                      replace HX := Aside0.mk (R_ch' HX.out hc hbx0)
                      replace HY := Aside0.mk (R_ch' HY.out hc hbx0)
                      replace HM1 := Aside0.mk (HM1.out.ch hc (by omega))
                      replace HM0 := Aside0.mk (show Mem w6 m1 0 n (hears 0 n pa (lst pd (j + 1))) by rw [lst_succ, hears_snoc]; exact hm)
                      clear hc hm q0 q1 q2
                      go_wp2
                      go_roundw
                      case rel => exact ⟨j + 1, by omega, by go_num, HB, HM0, HM1, HW, HX, HY⟩
                      case measure => simp [intOf]; omega
                    · obtain rfl : n = j := by omega
                      clear hj1 hj HW
                      replace HM0 := Aside0.mk (show Mem wr m1 0 n pc by rw [← HAE.out, ← hears_lst HGT'.out]; exact HM0.out)
                      go_wp2
                      go_roundw
                      case rel => exact ⟨t + 1, by omega, by go_num, HB, by rw [HC.out.1]; exact HM0, by rw [HC.out.2]; exact HM1, HX, HY⟩
                      case measure => simp [intOf]; omega
            · obtain rfl : t = 3 := by omega
              clear ht3 ht
              have HGR := Aside0.mk (fun j (hj : j < n) => it_grows HGA.out HGB.out j hj 3)
              have HTH := Aside0.mk (fun j (hj : j < n) (h2 : 2 ≤ j) => third_all HGA.out HGB.out j hj h2 2)
              have HOW := Aside0.mk (fun j (hj : j < 2) => own_all hn2 HGA.out HGB.out HAA.out HAB.out j hj)
              clear HPA0 HPB0 HGA HGB HAA HAB
              generalize (it n fa fb 3).1 = p at HM0 HGR HTH HOW
              generalize (it n fa fb 3).2 = q at HM1 HGR HTH HOW
              go_wp2_with fail
              refine (all_calls m1 0 n p _ HM0.out hn16).mono ?_
              rintro e w8 ⟨v, rfl, ho, hb⟩
              obtain ⟨Ap, cp, rfl, hcp, hr⟩ := Kd.R_reads ho
              rw [lst_len] at hcp hr ⊢
              have HPC := Aside0.mk hr
              replace HB := Aside0.mk (below_step HB.out hb)
              replace HM1 := Aside0.mk (HM1.out.below hb)
              replace HX := Aside0.mk (Kd.R_below HX.out hb)
              replace HY := Aside0.mk (Kd.R_below HY.out hb)
              clear ho hb hr HM0
              go_wp2_with fail
              refine (all_calls m2 1 n q _ HM1.out hn16).mono ?_
              rintro e w9 ⟨v, rfl, ho, hb⟩
              obtain ⟨Aq, cq, rfl, hcq, hr⟩ := Kd.R_reads ho
              rw [lst_len] at hcq hr ⊢
              have HQC := Aside0.mk hr
              replace HB := Aside0.mk (below_step HB.out hb)
              replace HPC := Aside0.mk (Kd.C_below HPC.out hb)
              have HXC := Aside0.mk (show KU.C w9 Ax n (lst fa n) by have h := (Kd.R_reads' (Kd.R_below HX.out hb)).2.2; rwa [lst_len] at h)
              have HYC := Aside0.mk (show KU.C w9 Ay n (lst fb n) by have h := (Kd.R_reads' (Kd.R_below HY.out hb)).2.2; rwa [lst_len] at h)
              clear ho hb hr HM1 HX HY
              obtain ⟨ap, rfl, _, _, _⟩ := row_cu HPC.out 0 hn0 (p 0) (by simp [lst, hn0])
              obtain ⟨aq, rfl, _, _, _⟩ := row_cu HQC.out 0 hn0 (q 0) (by simp [lst, hn0])
              obtain ⟨ax, rfl, _, _, _⟩ := row_cu HXC.out 0 hn0 (fa 0) (by simp [lst, hn0])
              obtain ⟨ay, rfl, _, _, _⟩ := row_cu HYC.out 0 hn0 (fb 0) (by simp [lst, hn0])
              go_wp2
              go_loopw [111] (fun i wr => ∃ j : Nat, j ≤ n ∧ i = .int .i64 j ∧ Aside0 (Below w9.heap.size w9 wr)) (fun i _ => n - (intOf i).toNat)
              case atStart => exact ⟨0, Nat.zero_le _, rfl, ⟨Below.refl _ _⟩⟩
              case round =>
                obtain ⟨j, hj, rfl, HN⟩ := hrel
                by_cases hj1 : j < n
                · have HG1 := Aside0.mk (HGR.out j hj1).1
                  have HG2 := Aside0.mk (HGR.out j hj1).2
                  go_wp2_with fail
                  have hS0 := below_drew1 (Below.refl wr.heap.size wr)
                  refine start_ (n := 20) (S := fun w' => Below wr.heap.size wr w') (ds := []) #[false, false, false, false, false, false, false, false, false, false, false, false, false, false, false, false, false, false, false, false] (by kernel_rfl) rfl rfl (by exact hS0) (fun hHeld => ?_)
                  refine with_tabW mrg_tab34 mrg_bits34 (fun HT_ HW_ => ?_)
                  refine pure_ (i := 0) (N := some 114) (v := ?_) (a' := ?_) #[true, false, false, false, false, false, false, false, false, false, false, false, false, false, false, false, false, false, false, false] rfl rfl (any_of HT_.out (by kernel_rfl)) (fun _ _ _ h => h) (Or.inl ⟨by rfl, ?_⟩) ?_ ?_
                  rotate_left
                  · intro w'
                    go_simp
                    with_reducible rfl
                  rotate_left
                  · simp only [Act.put, List.setIfInBounds_toArray, List.set_cons_zero, List.set_cons_succ, i64_w, i32_w]
                    rfl
                  refine pure_ (i := 1) (N := some 115) (v := ?_) (a' := ?_) #[true, true, false, false, false, false, false, false, false, false, false, false, false, false, false, false, false, false, false, false] rfl rfl (any_of HT_.out (by kernel_rfl)) (fun _ _ _ h => h) (Or.inl ⟨by rfl, ?_⟩) ?_ ?_
                  rotate_left
                  · intro w'
                    go_simp
                    with_reducible rfl
                  rotate_left
                  · simp only [Act.put, List.setIfInBounds_toArray, List.set_cons_zero, List.set_cons_succ, i64_w, i32_w]
                    rfl
                  refine pure_ (i := 2) (N := some 116) (v := ?_) (a' := ?_) #[true, true, true, false, false, false, false, false, false, false, false, false, false, false, false, false, false, false, false, false] rfl rfl (any_of HT_.out (by kernel_rfl)) (fun _ _ _ h => h) (Or.inl ⟨by rfl, ?_⟩) ?_ ?_
                  rotate_left
                  · intro w'
                    go_simp
                    with_reducible rfl
                  rotate_left
                  · simp only [Act.put, List.setIfInBounds_toArray, List.set_cons_zero, List.set_cons_succ, i64_w, i32_w]
                    rfl
                  refine take_ (i := 3) (N := some 117) (v := ?_) (a' := ?_) #[true, true, true, true, false, false, false, false, false, false, false, false, false, false, false, false, false, false, false, false] rfl rfl (take_ofW HT_.out HW_.out (by kernel_rfl)) (fun _ _ _ h => h) (Or.inl ⟨by rfl, ?_⟩) hHeld ?_ ?_
                  rotate_left
                  · intro w' hSt
                    obtain ⟨ad1, e1, x1, y1, z1⟩ := row_cu (Kd.C_below HXC.out (below_step HN.out hSt)) j hj1 (fa j) (by simp [lst, hj1])
                    cases e1
                    obtain ⟨ad2, e2, x2, y2, z2⟩ := row_cu (Kd.C_below HPC.out (below_step HN.out hSt)) j hj1 (p j) (by simp [lst, hj1])
                    cases e2
                    go_simp
                    with_reducible rfl
                  rotate_left
                  · simp only [Act.put, List.setIfInBounds_toArray, List.set_cons_zero, List.set_cons_succ, i64_w, i32_w]
                    rfl
                  refine pure_ (i := 4) (N := some 118) (v := ?_) (a' := ?_) #[true, true, true, true, true, false, false, false, false, false, false, false, false, false, false, false, false, false, false, false] rfl rfl (any_of HT_.out (by kernel_rfl)) (fun _ _ _ h => h) (Or.inl ⟨by rfl, ?_⟩) ?_ ?_
                  rotate_left
                  · intro w'
                    go_simp
                    with_reducible rfl
                  rotate_left
                  · simp only [Act.put, List.setIfInBounds_toArray, List.set_cons_zero, List.set_cons_succ, i64_w, i32_w]
                    rfl
                  refine pure_ (i := 5) (N := some 119) (v := ?_) (a' := ?_) #[true, true, true, true, true, true, false, false, false, false, false, false, false, false, false, false, false, false, false, false] rfl rfl (any_of HT_.out (by kernel_rfl)) (fun _ _ _ h => h) (Or.inl ⟨by rfl, ?_⟩) ?_ ?_
                  rotate_left
                  · intro w'
                    go_simp
                    with_reducible rfl
                  rotate_left
                  · simp only [Act.put, List.setIfInBounds_toArray, List.set_cons_zero, List.set_cons_succ, i64_w, i32_w]
                    rfl
                  refine pure_ (i := 6) (N := some 120) (v := ?_) (a' := ?_) #[true, true, true, true, true, true, true, false, false, false, false, false, false, false, false, false, false, false, false, false] rfl rfl (any_of HT_.out (by kernel_rfl)) (fun _ _ _ h => h) (Or.inl ⟨by rfl, ?_⟩) ?_ ?_
                  rotate_left
                  · intro w'
                    go_simp
                    with_reducible rfl
                  rotate_left
                  · simp only [Act.put, List.setIfInBounds_toArray, List.set_cons_zero, List.set_cons_succ, i64_w, i32_w]
                    rfl
                  refine take_ (i := 7) (N := some 121) (v := ?_) (a' := ?_) #[true, true, true, true, true, true, true, true, false, false, false, false, false, false, false, false, false, false, false, false] rfl rfl (take_ofW HT_.out HW_.out (by kernel_rfl)) (fun _ _ _ h => h) (Or.inl ⟨by rfl, ?_⟩) hHeld ?_ ?_
                  rotate_left
                  · intro w' hSt
                    obtain ⟨ad1, e1, x1, y1, z1⟩ := row_cu (Kd.C_below HXC.out (below_step HN.out hSt)) j hj1 (fa j) (by simp [lst, hj1])
                    cases e1
                    obtain ⟨ad2, e2, x2, y2, z2⟩ := row_cu (Kd.C_below HPC.out (below_step HN.out hSt)) j hj1 (p j) (by simp [lst, hj1])
                    cases e2
                    go_simp
                    with_reducible rfl
                  rotate_left
                  · simp only [Act.put, List.setIfInBounds_toArray, List.set_cons_zero, List.set_cons_succ, i64_w, i32_w]
                    rfl
                  refine one_ (i := 8) (N := some 122) #[true, true, true, true, true, true, true, true, true, false, false, false, false, false, false, false, false, false, false, false] rfl rfl (one_of HT_.out (by kernel_rfl)) (by decide) (fun K hK => ?_)
                  refine goes_ Try.func12 (by kernel_rfl) rfl #[.agg #[.int .i64 (fa j).1, .int .u8 (fa j).2.1, .int .u64 (fa j).2.2], .agg #[.int .i64 (p j).1, .int .u8 (p j).2.1, .int .u64 (p j).2.2]] (by rfl) rfl rfl (by simp only [List.map_toArray, List.map_cons, List.map_nil]; rfl) ?_
                  refine (greater_calls (fa j) (p j) _).mono ?_
                  rintro e w7 ⟨rfl, hb⟩
                  rw [HG1.out]
                  refine ⟨_, rfl, ?_⟩
                  have hb2 := below_step hHeld hb
                  clear hb
                  refine hK.out _ _ (by exact hb2) (fun hHeld => ?_)
                  clear hK K
                  refine norm_ (a' := ?_) ?_ ?_
                  rotate_left
                  · first
                    | (show Act.put _ (some 122) _ = _; simp only [Act.put, List.setIfInBounds_toArray, List.set_cons_zero, List.set_cons_succ, i64_w, i32_w]; rfl)
                    | rfl
                  refine pure_ (i := 9) (N := some 123) (v := ?_) (a' := ?_) #[true, true, true, true, true, true, true, true, true, true, false, false, false, false, false, false, false, false, false, false] rfl rfl (any_of HT_.out (by kernel_rfl)) (fun _ _ _ h => h) (Or.inl ⟨by rfl, ?_⟩) ?_ ?_
                  rotate_left
                  · intro w'
                    go_simp
                    with_reducible rfl
                  rotate_left
                  · simp only [Act.put, List.setIfInBounds_toArray, List.set_cons_zero, List.set_cons_succ, i64_w, i32_w]
                    rfl
                  refine pure_ (i := 10) (N := some 124) (v := ?_) (a' := ?_) #[true, true, true, true, true, true, true, true, true, true, true, false, false, false, false, false, false, false, false, false] rfl rfl (any_of HT_.out (by kernel_rfl)) (fun _ _ _ h => h) (Or.inl ⟨by rfl, ?_⟩) ?_ ?_
                  rotate_left
                  · intro w'
                    go_simp
                    with_reducible rfl
                  rotate_left
                  · simp only [Act.put, List.setIfInBounds_toArray, List.set_cons_zero, List.set_cons_succ, i64_w, i32_w]
                    rfl
                  refine pure_ (i := 11) (N := some 125) (v := ?_) (a' := ?_) #[true, true, true, true, true, true, true, true, true, true, true, true, false, false, false, false, false, false, false, false] rfl rfl (any_of HT_.out (by kernel_rfl)) (fun _ _ _ h => h) (Or.inl ⟨by rfl, ?_⟩) ?_ ?_
                  rotate_left
                  · intro w'
                    go_simp
                    with_reducible rfl
                  rotate_left
                  · simp only [Act.put, List.setIfInBounds_toArray, List.set_cons_zero, List.set_cons_succ, i64_w, i32_w]
                    rfl
                  refine pure_ (i := 12) (N := some 126) (v := ?_) (a' := ?_) #[true, true, true, true, true, true, true, true, true, true, true, true, true, false, false, false, false, false, false, false] rfl rfl (any_of HT_.out (by kernel_rfl)) (fun _ _ _ h => h) (Or.inl ⟨by rfl, ?_⟩) ?_ ?_
                  rotate_left
                  · intro w'
                    go_simp
                    with_reducible rfl
                  rotate_left
                  · simp only [Act.put, List.setIfInBounds_toArray, List.set_cons_zero, List.set_cons_succ, i64_w, i32_w]
                    rfl
                  refine take_ (i := 13) (N := some 127) (v := ?_) (a' := ?_) #[true, true, true, true, true, true, true, true, true, true, true, true, true, true, false, false, false, false, false, false] rfl rfl (take_ofW HT_.out HW_.out (by kernel_rfl)) (fun _ _ _ h => h) (Or.inl ⟨by rfl, ?_⟩) hHeld ?_ ?_
                  rotate_left
                  · intro w' hSt
                    obtain ⟨ad1, e1, x1, y1, z1⟩ := row_cu (Kd.C_below HYC.out (below_step HN.out hSt)) j hj1 (fb j) (by simp [lst, hj1])
                    cases e1
                    obtain ⟨ad2, e2, x2, y2, z2⟩ := row_cu (Kd.C_below HQC.out (below_step HN.out hSt)) j hj1 (q j) (by simp [lst, hj1])
                    cases e2
                    go_simp
                    with_reducible rfl
                  rotate_left
                  · simp only [Act.put, List.setIfInBounds_toArray, List.set_cons_zero, List.set_cons_succ, i64_w, i32_w]
                    rfl
                  refine pure_ (i := 14) (N := some 128) (v := ?_) (a' := ?_) #[true, true, true, true, true, true, true, true, true, true, true, true, true, true, true, false, false, false, false, false] rfl rfl (any_of HT_.out (by kernel_rfl)) (fun _ _ _ h => h) (Or.inl ⟨by rfl, ?_⟩) ?_ ?_
                  rotate_left
                  · intro w'
                    go_simp
                    with_reducible rfl
                  rotate_left
                  · simp only [Act.put, List.setIfInBounds_toArray, List.set_cons_zero, List.set_cons_succ, i64_w, i32_w]
                    rfl
                  refine pure_ (i := 15) (N := some 129) (v := ?_) (a' := ?_) #[true, true, true, true, true, true, true, true, true, true, true, true, true, true, true, true, false, false, false, false] rfl rfl (any_of HT_.out (by kernel_rfl)) (fun _ _ _ h => h) (Or.inl ⟨by rfl, ?_⟩) ?_ ?_
                  rotate_left
                  · intro w'
                    go_simp
                    with_reducible rfl
                  rotate_left
                  · simp only [Act.put, List.setIfInBounds_toArray, List.set_cons_zero, List.set_cons_succ, i64_w, i32_w]
                    rfl
                  refine pure_ (i := 16) (N := some 130) (v := ?_) (a' := ?_) #[true, true, true, true, true, true, true, true, true, true, true, true, true, true, true, true, true, false, false, false] rfl rfl (any_of HT_.out (by kernel_rfl)) (fun _ _ _ h => h) (Or.inl ⟨by rfl, ?_⟩) ?_ ?_
                  rotate_left
                  · intro w'
                    go_simp
                    with_reducible rfl
                  rotate_left
                  · simp only [Act.put, List.setIfInBounds_toArray, List.set_cons_zero, List.set_cons_succ, i64_w, i32_w]
                    rfl
                  refine take_ (i := 17) (N := some 131) (v := ?_) (a' := ?_) #[true, true, true, true, true, true, true, true, true, true, true, true, true, true, true, true, true, true, false, false] rfl rfl (take_ofW HT_.out HW_.out (by kernel_rfl)) (fun _ _ _ h => h) (Or.inl ⟨by rfl, ?_⟩) hHeld ?_ ?_
                  rotate_left
                  · intro w' hSt
                    obtain ⟨ad1, e1, x1, y1, z1⟩ := row_cu (Kd.C_below HYC.out (below_step HN.out hSt)) j hj1 (fb j) (by simp [lst, hj1])
                    cases e1
                    obtain ⟨ad2, e2, x2, y2, z2⟩ := row_cu (Kd.C_below HQC.out (below_step HN.out hSt)) j hj1 (q j) (by simp [lst, hj1])
                    cases e2
                    go_simp
                    with_reducible rfl
                  rotate_left
                  · simp only [Act.put, List.setIfInBounds_toArray, List.set_cons_zero, List.set_cons_succ, i64_w, i32_w]
                    rfl
                  refine one_ (i := 18) (N := some 132) #[true, true, true, true, true, true, true, true, true, true, true, true, true, true, true, true, true, true, true, false] rfl rfl (one_of HT_.out (by kernel_rfl)) (by decide) (fun K hK => ?_)
                  refine goes_ Try.func12 (by kernel_rfl) rfl #[.agg #[.int .i64 (fb j).1, .int .u8 (fb j).2.1, .int .u64 (fb j).2.2], .agg #[.int .i64 (q j).1, .int .u8 (q j).2.1, .int .u64 (q j).2.2]] (by rfl) rfl rfl (by simp only [List.map_toArray, List.map_cons, List.map_nil]; rfl) ?_
                  refine (greater_calls (fb j) (q j) _).mono ?_
                  rintro e w7 ⟨rfl, hb⟩
                  rw [HG2.out]
                  refine ⟨_, rfl, ?_⟩
                  have hb2 := below_step hHeld hb
                  clear hb
                  refine hK.out _ _ (by exact hb2) (fun hHeld => ?_)
                  clear hK K
                  refine norm_ (a' := ?_) ?_ ?_
                  rotate_left
                  · first
                    | (show Act.put _ (some 132) _ = _; simp only [Act.put, List.setIfInBounds_toArray, List.set_cons_zero, List.set_cons_succ, i64_w, i32_w]; rfl)
                    | rfl
                  refine pure_ (i := 19) (N := some 133) (v := ?_) (a' := ?_) #[true, true, true, true, true, true, true, true, true, true, true, true, true, true, true, true, true, true, true, true] rfl rfl (any_of HT_.out (by kernel_rfl)) (fun _ _ _ h => h) (Or.inl ⟨by rfl, ?_⟩) ?_ ?_
                  rotate_left
                  · intro w'
                    go_simp
                    with_reducible rfl
                  rotate_left
                  · simp only [Act.put, List.setIfInBounds_toArray, List.set_cons_zero, List.set_cons_succ, i64_w, i32_w]
                    rfl
                  refine done_ (done_of HT_.out (by kernel_rfl)) ?_
                  replace HN := Aside0.mk (below_step HN.out hHeld)
                  clear hS0 hHeld HT_ HW_
                  by_cases hj2 : j < 2
                  · have hj2' : decide ((j : Int) < 2) = true := decide_eq_true (by omega)
                    go_wp2
                    go_roundw
                    case rel => exact ⟨j + 1, by omega, by go_num, HN⟩
                    case measure => simp [intOf]; omega
                  · have hj2' : decide ((j : Int) < 2) = false := decide_eq_false (by omega)
                    obtain ⟨HPW0, HQW0⟩ := HTH.out j hj1 (by omega)
                    have HPW1 := Aside0.mk HPW0
                    have HQW1 := Aside0.mk HQW0
                    clear HPW0 HQW0
                    rename_i w7 _
                    obtain ⟨a1, e1, x0, x1, x2⟩ := row_cu (Kd.C_below HXC.out HN.out) j hj1 (fa j) (by simp [lst, hj1])
                    cases e1
                    go_upto_region 38 with (fail)
                    have hnb := HN.out.size
                    have HN2 := Aside0.mk (HN.out.alloc HN.out.size (.cells #[.int .i64 (fa j).1, .int .u8 (fa j).2.1, .int .u64 (fa j).2.2] 32 (0, 0)))
                    have HBX := Aside0.mk (show Box (w7.alloc (.cells #[.int .i64 (fa j).1, .int .u8 (fa j).2.1, .int .u64 (fa j).2.2] 32 (0, 0))) w7.heap.size (fa j) from heap_new _ _)
                    clear x0 x1 x2 HN
                    generalize w7.alloc _ = wx at HN2 HBX ⊢
                    generalize w7.heap.size = bq at HBX hnb ⊢
                    have HN := HN2
                    clear HN2
                    by_cases hgt : gt (fb j) (fa j) = true
                    · have HG3 := Aside0.mk hgt
                      have hS0 := below_drew1 (Below.refl wx.heap.size wx)
                      refine start_ (n := 9) (S := fun w' => Below wx.heap.size wx w') (ds := []) #[false, false, false, false, false, false, false, false, false] (by kernel_rfl) rfl rfl (by exact hS0) (fun hHeld => ?_)
                      refine with_tabW mrg_tab38 mrg_bits38 (fun HT_ HW_ => ?_)
                      refine pure_ (i := 0) (N := some 140) (v := ?_) (a' := ?_) #[true, false, false, false, false, false, false, false, false] rfl rfl (any_of HT_.out (by kernel_rfl)) (fun _ _ _ h => h) (Or.inl ⟨by rfl, ?_⟩) ?_ ?_
                      rotate_left
                      · intro w'
                        go_simp
                        with_reducible rfl
                      rotate_left
                      · simp only [Act.put, List.setIfInBounds_toArray, List.set_cons_zero, List.set_cons_succ, i64_w, i32_w]
                        rfl
                      refine pure_ (i := 1) (N := some 141) (v := ?_) (a' := ?_) #[true, true, false, false, false, false, false, false, false] rfl rfl (any_of HT_.out (by kernel_rfl)) (fun _ _ _ h => h) (Or.inl ⟨by rfl, ?_⟩) ?_ ?_
                      rotate_left
                      · intro w'
                        go_simp
                        with_reducible rfl
                      rotate_left
                      · simp only [Act.put, List.setIfInBounds_toArray, List.set_cons_zero, List.set_cons_succ, i64_w, i32_w]
                        rfl
                      refine pure_ (i := 2) (N := some 142) (v := ?_) (a' := ?_) #[true, true, true, false, false, false, false, false, false] rfl rfl (any_of HT_.out (by kernel_rfl)) (fun _ _ _ h => h) (Or.inl ⟨by rfl, ?_⟩) ?_ ?_
                      rotate_left
                      · intro w'
                        go_simp
                        with_reducible rfl
                      rotate_left
                      · simp only [Act.put, List.setIfInBounds_toArray, List.set_cons_zero, List.set_cons_succ, i64_w, i32_w]
                        rfl
                      refine take_ (i := 3) (N := some 143) (v := ?_) (a' := ?_) #[true, true, true, true, false, false, false, false, false] rfl rfl (take_ofW HT_.out HW_.out (by kernel_rfl)) (fun _ _ _ h => h) (Or.inl ⟨by rfl, ?_⟩) hHeld ?_ ?_
                      rotate_left
                      · intro w' hSt
                        obtain ⟨ad1, e1, x1, y1, z1⟩ := row_cu (Kd.C_below HYC.out (below_step HN.out hSt)) j hj1 (fb j) (by simp [lst, hj1])
                        cases e1
                        obtain ⟨ad2, e2, x2, y2, z2⟩ := row_cu (Kd.C_below HXC.out (below_step HN.out hSt)) j hj1 (fa j) (by simp [lst, hj1])
                        cases e2
                        go_simp
                        with_reducible rfl
                      rotate_left
                      · simp only [Act.put, List.setIfInBounds_toArray, List.set_cons_zero, List.set_cons_succ, i64_w, i32_w]
                        rfl
                      refine pure_ (i := 4) (N := some 144) (v := ?_) (a' := ?_) #[true, true, true, true, true, false, false, false, false] rfl rfl (any_of HT_.out (by kernel_rfl)) (fun _ _ _ h => h) (Or.inl ⟨by rfl, ?_⟩) ?_ ?_
                      rotate_left
                      · intro w'
                        go_simp
                        with_reducible rfl
                      rotate_left
                      · simp only [Act.put, List.setIfInBounds_toArray, List.set_cons_zero, List.set_cons_succ, i64_w, i32_w]
                        rfl
                      refine pure_ (i := 5) (N := some 145) (v := ?_) (a' := ?_) #[true, true, true, true, true, true, false, false, false] rfl rfl (any_of HT_.out (by kernel_rfl)) (fun _ _ _ h => h) (Or.inl ⟨by rfl, ?_⟩) ?_ ?_
                      rotate_left
                      · intro w'
                        go_simp
                        with_reducible rfl
                      rotate_left
                      · simp only [Act.put, List.setIfInBounds_toArray, List.set_cons_zero, List.set_cons_succ, i64_w, i32_w]
                        rfl
                      refine pure_ (i := 6) (N := some 146) (v := ?_) (a' := ?_) #[true, true, true, true, true, true, true, false, false] rfl rfl (any_of HT_.out (by kernel_rfl)) (fun _ _ _ h => h) (Or.inl ⟨by rfl, ?_⟩) ?_ ?_
                      rotate_left
                      · intro w'
                        go_simp
                        with_reducible rfl
                      rotate_left
                      · simp only [Act.put, List.setIfInBounds_toArray, List.set_cons_zero, List.set_cons_succ, i64_w, i32_w]
                        rfl
                      refine take_ (i := 7) (N := some 147) (v := ?_) (a' := ?_) #[true, true, true, true, true, true, true, true, false] rfl rfl (take_ofW HT_.out HW_.out (by kernel_rfl)) (fun _ _ _ h => h) (Or.inl ⟨by rfl, ?_⟩) hHeld ?_ ?_
                      rotate_left
                      · intro w' hSt
                        obtain ⟨ad1, e1, x1, y1, z1⟩ := row_cu (Kd.C_below HYC.out (below_step HN.out hSt)) j hj1 (fb j) (by simp [lst, hj1])
                        cases e1
                        obtain ⟨ad2, e2, x2, y2, z2⟩ := row_cu (Kd.C_below HXC.out (below_step HN.out hSt)) j hj1 (fa j) (by simp [lst, hj1])
                        cases e2
                        go_simp
                        with_reducible rfl
                      rotate_left
                      · simp only [Act.put, List.setIfInBounds_toArray, List.set_cons_zero, List.set_cons_succ, i64_w, i32_w]
                        rfl
                      refine one_ (i := 8) (N := some 148) #[true, true, true, true, true, true, true, true, true] rfl rfl (one_of HT_.out (by kernel_rfl)) (by decide) (fun K hK => ?_)
                      refine goes_ Try.func12 (by kernel_rfl) rfl #[.agg #[.int .i64 (fb j).1, .int .u8 (fb j).2.1, .int .u64 (fb j).2.2], .agg #[.int .i64 (fa j).1, .int .u8 (fa j).2.1, .int .u64 (fa j).2.2]] (by rfl) rfl rfl (by simp only [List.map_toArray, List.map_cons, List.map_nil]; rfl) ?_
                      refine (greater_calls (fb j) (fa j) _).mono ?_
                      rintro e w7 ⟨rfl, hb⟩
                      rw [HG3.out]
                      refine ⟨_, rfl, ?_⟩
                      have hb2 := below_step hHeld hb
                      clear hb
                      refine hK.out _ _ (by exact hb2) (fun hHeld => ?_)
                      clear hK K
                      refine norm_ (a' := ?_) ?_ ?_
                      rotate_left
                      · first
                        | (show Act.put _ (some 148) _ = _; simp only [Act.put, List.setIfInBounds_toArray, List.set_cons_zero, List.set_cons_succ, i64_w, i32_w]; rfl)
                        | rfl
                      refine done_ (done_of HT_.out (by kernel_rfl)) ?_
                      replace HN := Aside0.mk (below_step HN.out hHeld)
                      replace HBX := Aside0.mk (HBX.out.below hHeld)
                      clear hS0 hHeld HT_ HW_
                      have HPW := Aside0.mk (show p j = fb j by rw [HPW1.out]; unfold want; rw [if_pos hgt])
                      have HQW := Aside0.mk (show q j = fb j by rw [HQW1.out]; unfold want; rw [if_pos hgt])
                      clear hgt HPW1 HQW1
                      obtain ⟨a2, e2, y0, y1, y2⟩ := row_cu (Kd.C_below HYC.out HN.out) j hj1 (fb j) (by simp [lst, hj1])
                      cases e2
                      obtain ⟨b0, b1, b2⟩ := HBX.out.cu
                      have z0 : w7.frozen? ⟨bq, 0, none⟩ = false := HBX.out.fz 0
                      have z1 : w7.frozen? ⟨bq, 1, none⟩ = false := HBX.out.fz 1
                      have z2 : w7.frozen? ⟨bq, 2, none⟩ = false := HBX.out.fz 2
                      go_wp2_with fail
                      have HBX3 := Aside0.mk (Box.set3 (u := fb j) HBX.out)
                      have HN3 := Aside0.mk (((HN.out.setCell (p := ⟨bq, 0, none⟩) hnb (.int .i64 (fb j).1)).setCell (p := ⟨bq, 1, none⟩) hnb (.int .u8 (fb j).2.1)).setCell (p := ⟨bq, 2, none⟩) hnb (.int .u64 (fb j).2.2))
                      clear HBX HN y0 y1 y2 b0 b1 b2 z0 z1 z2
                      generalize ((w7.setCell ⟨bq, 0, none⟩ (.int .i64 (fb j).1)).setCell ⟨bq, 1, none⟩ (.int .u8 (fb j).2.1)).setCell ⟨bq, 2, none⟩ (.int .u64 (fb j).2.2) = wy at HBX3 HN3 ⊢
                      have HN := HN3
                      have HBX := HBX3
                      clear HN3 HBX3
                      obtain ⟨wn, hwn⟩ : ∃ wn, wn = fb j := ⟨_, rfl⟩
                      rw [← hwn] at HPW HQW HBX
                      clear hwn
                      have hS0 := below_drew1 (Below.refl wy.heap.size wy)
                      refine start_ (n := 14) (S := fun w' => Below wy.heap.size wy w') (ds := []) #[false, false, false, false, false, false, false, false, false, false, false, false, false, false] (by kernel_rfl) rfl rfl (by exact hS0) (fun hHeld => ?_)
                      refine with_tabW mrg_tab40 mrg_bits40 (fun HT_ HW_ => ?_)
                      refine pure_ (i := 0) (N := some 153) (v := ?_) (a' := ?_) #[true, false, false, false, false, false, false, false, false, false, false, false, false, false] rfl rfl (any_of HT_.out (by kernel_rfl)) (fun _ _ _ h => h) (Or.inl ⟨by rfl, ?_⟩) ?_ ?_
                      rotate_left
                      · intro w'
                        go_simp
                        with_reducible rfl
                      rotate_left
                      · simp only [Act.put, List.setIfInBounds_toArray, List.set_cons_zero, List.set_cons_succ, i64_w, i32_w]
                        rfl
                      refine pure_ (i := 1) (N := some 154) (v := ?_) (a' := ?_) #[true, true, false, false, false, false, false, false, false, false, false, false, false, false] rfl rfl (any_of HT_.out (by kernel_rfl)) (fun _ _ _ h => h) (Or.inl ⟨by rfl, ?_⟩) ?_ ?_
                      rotate_left
                      · intro w'
                        go_simp
                        with_reducible rfl
                      rotate_left
                      · simp only [Act.put, List.setIfInBounds_toArray, List.set_cons_zero, List.set_cons_succ, i64_w, i32_w]
                        rfl
                      refine pure_ (i := 2) (N := some 155) (v := ?_) (a' := ?_) #[true, true, true, false, false, false, false, false, false, false, false, false, false, false] rfl rfl (any_of HT_.out (by kernel_rfl)) (fun _ _ _ h => h) (Or.inl ⟨by rfl, ?_⟩) ?_ ?_
                      rotate_left
                      · intro w'
                        go_simp
                        with_reducible rfl
                      rotate_left
                      · simp only [Act.put, List.setIfInBounds_toArray, List.set_cons_zero, List.set_cons_succ, i64_w, i32_w]
                        rfl
                      refine take_ (i := 3) (N := some 156) (v := ?_) (a' := ?_) #[true, true, true, true, false, false, false, false, false, false, false, false, false, false] rfl rfl (take_ofW HT_.out HW_.out (by kernel_rfl)) (fun _ _ _ h => h) (Or.inl ⟨by rfl, ?_⟩) hHeld ?_ ?_
                      rotate_left
                      · intro w' hSt
                        obtain ⟨ad1, e1, x1, y1, z1⟩ := row_cu (Kd.C_below HPC.out (below_step HN.out hSt)) j hj1 (wn) (by simp [lst, hj1, HPW.out])
                        cases e1
                        obtain ⟨ad2, e2, x2, y2, z2⟩ := row_cu (Kd.C_below HQC.out (below_step HN.out hSt)) j hj1 (wn) (by simp [lst, hj1, HQW.out])
                        cases e2
                        obtain ⟨b0, b1, b2⟩ := (HBX.out.below hSt).cu
                        go_simp
                        with_reducible rfl
                      rotate_left
                      · simp only [Act.put, List.setIfInBounds_toArray, List.set_cons_zero, List.set_cons_succ, i64_w, i32_w]
                        rfl
                      refine take_ (i := 4) (N := some 157) (v := ?_) (a' := ?_) #[true, true, true, true, true, false, false, false, false, false, false, false, false, false] rfl rfl (take_ofW HT_.out HW_.out (by kernel_rfl)) (fun _ _ _ h => h) (Or.inl ⟨by rfl, ?_⟩) hHeld ?_ ?_
                      rotate_left
                      · intro w' hSt
                        obtain ⟨ad1, e1, x1, y1, z1⟩ := row_cu (Kd.C_below HPC.out (below_step HN.out hSt)) j hj1 (wn) (by simp [lst, hj1, HPW.out])
                        cases e1
                        obtain ⟨ad2, e2, x2, y2, z2⟩ := row_cu (Kd.C_below HQC.out (below_step HN.out hSt)) j hj1 (wn) (by simp [lst, hj1, HQW.out])
                        cases e2
                        obtain ⟨b0, b1, b2⟩ := (HBX.out.below hSt).cu
                        go_simp
                        with_reducible rfl
                      rotate_left
                      · simp only [Act.put, List.setIfInBounds_toArray, List.set_cons_zero, List.set_cons_succ, i64_w, i32_w]
                        rfl
                      refine pure_ (i := 5) (N := some 158) (v := ?_) (a' := ?_) #[true, true, true, true, true, true, false, false, false, false, false, false, false, false] rfl rfl (any_of HT_.out (by kernel_rfl)) (fun _ _ _ h => h) (Or.inl ⟨by rfl, ?_⟩) ?_ ?_
                      rotate_left
                      · intro w'
                        go_simp
                        with_reducible rfl
                      rotate_left
                      · simp only [Act.put, List.setIfInBounds_toArray, List.set_cons_zero, List.set_cons_succ, i64_w, i32_w]
                        rfl
                      refine pure_ (i := 6) (N := some 159) (v := ?_) (a' := ?_) #[true, true, true, true, true, true, true, false, false, false, false, false, false, false] rfl rfl (any_of HT_.out (by kernel_rfl)) (fun _ _ _ h => h) (Or.inl ⟨by rfl, ?_⟩) ?_ ?_
                      rotate_left
                      · intro w'
                        go_simp
                        with_reducible rfl
                      rotate_left
                      · simp only [Act.put, List.setIfInBounds_toArray, List.set_cons_zero, List.set_cons_succ, i64_w, i32_w]
                        rfl
                      refine pure_ (i := 7) (N := some 160) (v := ?_) (a' := ?_) #[true, true, true, true, true, true, true, true, false, false, false, false, false, false] rfl rfl (any_of HT_.out (by kernel_rfl)) (fun _ _ _ h => h) (Or.inl ⟨by rfl, ?_⟩) ?_ ?_
                      rotate_left
                      · intro w'
                        go_simp
                        with_reducible rfl
                      rotate_left
                      · simp only [Act.put, List.setIfInBounds_toArray, List.set_cons_zero, List.set_cons_succ, i64_w, i32_w]
                        rfl
                      refine pure_ (i := 8) (N := some 161) (v := ?_) (a' := ?_) #[true, true, true, true, true, true, true, true, true, false, false, false, false, false] rfl rfl (any_of HT_.out (by kernel_rfl)) (fun _ _ _ h => h) (Or.inl ⟨by rfl, ?_⟩) ?_ ?_
                      rotate_left
                      · intro w'
                        go_simp
                        with_reducible rfl
                      rotate_left
                      · simp only [Act.put, List.setIfInBounds_toArray, List.set_cons_zero, List.set_cons_succ, i64_w, i32_w]
                        rfl
                      refine pure_ (i := 9) (N := some 162) (v := ?_) (a' := ?_) #[true, true, true, true, true, true, true, true, true, true, false, false, false, false] rfl rfl (any_of HT_.out (by kernel_rfl)) (fun _ _ _ h => h) (Or.inl ⟨by rfl, ?_⟩) ?_ ?_
                      rotate_left
                      · intro w'
                        go_simp
                        with_reducible rfl
                      rotate_left
                      · simp only [Act.put, List.setIfInBounds_toArray, List.set_cons_zero, List.set_cons_succ, i64_w, i32_w]
                        rfl
                      refine take_ (i := 10) (N := some 163) (v := ?_) (a' := ?_) #[true, true, true, true, true, true, true, true, true, true, true, false, false, false] rfl rfl (take_ofW HT_.out HW_.out (by kernel_rfl)) (fun _ _ _ h => h) (Or.inl ⟨by rfl, ?_⟩) hHeld ?_ ?_
                      rotate_left
                      · intro w' hSt
                        obtain ⟨ad1, e1, x1, y1, z1⟩ := row_cu (Kd.C_below HPC.out (below_step HN.out hSt)) j hj1 (wn) (by simp [lst, hj1, HPW.out])
                        cases e1
                        obtain ⟨ad2, e2, x2, y2, z2⟩ := row_cu (Kd.C_below HQC.out (below_step HN.out hSt)) j hj1 (wn) (by simp [lst, hj1, HQW.out])
                        cases e2
                        obtain ⟨b0, b1, b2⟩ := (HBX.out.below hSt).cu
                        go_simp
                        with_reducible rfl
                      rotate_left
                      · simp only [Act.put, List.setIfInBounds_toArray, List.set_cons_zero, List.set_cons_succ, i64_w, i32_w]
                        rfl
                      refine take_ (i := 11) (N := some 164) (v := ?_) (a' := ?_) #[true, true, true, true, true, true, true, true, true, true, true, true, false, false] rfl rfl (take_ofW HT_.out HW_.out (by kernel_rfl)) (fun _ _ _ h => h) (Or.inl ⟨by rfl, ?_⟩) hHeld ?_ ?_
                      rotate_left
                      · intro w' hSt
                        obtain ⟨ad1, e1, x1, y1, z1⟩ := row_cu (Kd.C_below HPC.out (below_step HN.out hSt)) j hj1 (wn) (by simp [lst, hj1, HPW.out])
                        cases e1
                        obtain ⟨ad2, e2, x2, y2, z2⟩ := row_cu (Kd.C_below HQC.out (below_step HN.out hSt)) j hj1 (wn) (by simp [lst, hj1, HQW.out])
                        cases e2
                        obtain ⟨b0, b1, b2⟩ := (HBX.out.below hSt).cu
                        go_simp
                        with_reducible rfl
                      rotate_left
                      · simp only [Act.put, List.setIfInBounds_toArray, List.set_cons_zero, List.set_cons_succ, i64_w, i32_w]
                        rfl
                      refine pure_ (i := 12) (N := some 165) (v := ?_) (a' := ?_) #[true, true, true, true, true, true, true, true, true, true, true, true, true, false] rfl rfl (any_of HT_.out (by kernel_rfl)) (fun _ _ _ h => h) (Or.inl ⟨by rfl, ?_⟩) ?_ ?_
                      rotate_left
                      · intro w'
                        go_simp
                        with_reducible rfl
                      rotate_left
                      · simp only [Act.put, List.setIfInBounds_toArray, List.set_cons_zero, List.set_cons_succ, i64_w, i32_w]
                        rfl
                      refine pure_ (i := 13) (N := some 166) (v := ?_) (a' := ?_) #[true, true, true, true, true, true, true, true, true, true, true, true, true, true] rfl rfl (any_of HT_.out (by kernel_rfl)) (fun _ _ _ h => h) (Or.inl ⟨by rfl, ?_⟩) ?_ ?_
                      rotate_left
                      · intro w'
                        go_simp
                        with_reducible rfl
                      rotate_left
                      · simp only [Act.put, List.setIfInBounds_toArray, List.set_cons_zero, List.set_cons_succ, i64_w, i32_w]
                        rfl
                      refine done_ (done_of HT_.out (by kernel_rfl)) ?_
                      replace HN := Aside0.mk (below_step HN.out (below_drew1 (Below.refl _ _)))
                      clear hS0 hHeld HT_ HW_ HBX
                      go_wp2
                      go_roundw
                      case rel => exact ⟨j + 1, by omega, by go_num, HN⟩
                      case measure => simp [intOf]; omega
                    · have hgt' : gt (fb j) (fa j) = false := by simpa using hgt
                      have HG3 := Aside0.mk hgt'
                      have hS0 := below_drew1 (Below.refl wx.heap.size wx)
                      refine start_ (n := 9) (S := fun w' => Below wx.heap.size wx w') (ds := []) #[false, false, false, false, false, false, false, false, false] (by kernel_rfl) rfl rfl (by exact hS0) (fun hHeld => ?_)
                      refine with_tabW mrg_tab38 mrg_bits38 (fun HT_ HW_ => ?_)
                      refine pure_ (i := 0) (N := some 140) (v := ?_) (a' := ?_) #[true, false, false, false, false, false, false, false, false] rfl rfl (any_of HT_.out (by kernel_rfl)) (fun _ _ _ h => h) (Or.inl ⟨by rfl, ?_⟩) ?_ ?_
                      rotate_left
                      · intro w'
                        go_simp
                        with_reducible rfl
                      rotate_left
                      · simp only [Act.put, List.setIfInBounds_toArray, List.set_cons_zero, List.set_cons_succ, i64_w, i32_w]
                        rfl
                      refine pure_ (i := 1) (N := some 141) (v := ?_) (a' := ?_) #[true, true, false, false, false, false, false, false, false] rfl rfl (any_of HT_.out (by kernel_rfl)) (fun _ _ _ h => h) (Or.inl ⟨by rfl, ?_⟩) ?_ ?_
                      rotate_left
                      · intro w'
                        go_simp
                        with_reducible rfl
                      rotate_left
                      · simp only [Act.put, List.setIfInBounds_toArray, List.set_cons_zero, List.set_cons_succ, i64_w, i32_w]
                        rfl
                      refine pure_ (i := 2) (N := some 142) (v := ?_) (a' := ?_) #[true, true, true, false, false, false, false, false, false] rfl rfl (any_of HT_.out (by kernel_rfl)) (fun _ _ _ h => h) (Or.inl ⟨by rfl, ?_⟩) ?_ ?_
                      rotate_left
                      · intro w'
                        go_simp
                        with_reducible rfl
                      rotate_left
                      · simp only [Act.put, List.setIfInBounds_toArray, List.set_cons_zero, List.set_cons_succ, i64_w, i32_w]
                        rfl
                      refine take_ (i := 3) (N := some 143) (v := ?_) (a' := ?_) #[true, true, true, true, false, false, false, false, false] rfl rfl (take_ofW HT_.out HW_.out (by kernel_rfl)) (fun _ _ _ h => h) (Or.inl ⟨by rfl, ?_⟩) hHeld ?_ ?_
                      rotate_left
                      · intro w' hSt
                        obtain ⟨ad1, e1, x1, y1, z1⟩ := row_cu (Kd.C_below HYC.out (below_step HN.out hSt)) j hj1 (fb j) (by simp [lst, hj1])
                        cases e1
                        obtain ⟨ad2, e2, x2, y2, z2⟩ := row_cu (Kd.C_below HXC.out (below_step HN.out hSt)) j hj1 (fa j) (by simp [lst, hj1])
                        cases e2
                        go_simp
                        with_reducible rfl
                      rotate_left
                      · simp only [Act.put, List.setIfInBounds_toArray, List.set_cons_zero, List.set_cons_succ, i64_w, i32_w]
                        rfl
                      refine pure_ (i := 4) (N := some 144) (v := ?_) (a' := ?_) #[true, true, true, true, true, false, false, false, false] rfl rfl (any_of HT_.out (by kernel_rfl)) (fun _ _ _ h => h) (Or.inl ⟨by rfl, ?_⟩) ?_ ?_
                      rotate_left
                      · intro w'
                        go_simp
                        with_reducible rfl
                      rotate_left
                      · simp only [Act.put, List.setIfInBounds_toArray, List.set_cons_zero, List.set_cons_succ, i64_w, i32_w]
                        rfl
                      refine pure_ (i := 5) (N := some 145) (v := ?_) (a' := ?_) #[true, true, true, true, true, true, false, false, false] rfl rfl (any_of HT_.out (by kernel_rfl)) (fun _ _ _ h => h) (Or.inl ⟨by rfl, ?_⟩) ?_ ?_
                      rotate_left
                      · intro w'
                        go_simp
                        with_reducible rfl
                      rotate_left
                      · simp only [Act.put, List.setIfInBounds_toArray, List.set_cons_zero, List.set_cons_succ, i64_w, i32_w]
                        rfl
                      refine pure_ (i := 6) (N := some 146) (v := ?_) (a' := ?_) #[true, true, true, true, true, true, true, false, false] rfl rfl (any_of HT_.out (by kernel_rfl)) (fun _ _ _ h => h) (Or.inl ⟨by rfl, ?_⟩) ?_ ?_
                      rotate_left
                      · intro w'
                        go_simp
                        with_reducible rfl
                      rotate_left
                      · simp only [Act.put, List.setIfInBounds_toArray, List.set_cons_zero, List.set_cons_succ, i64_w, i32_w]
                        rfl
                      refine take_ (i := 7) (N := some 147) (v := ?_) (a' := ?_) #[true, true, true, true, true, true, true, true, false] rfl rfl (take_ofW HT_.out HW_.out (by kernel_rfl)) (fun _ _ _ h => h) (Or.inl ⟨by rfl, ?_⟩) hHeld ?_ ?_
                      rotate_left
                      · intro w' hSt
                        obtain ⟨ad1, e1, x1, y1, z1⟩ := row_cu (Kd.C_below HYC.out (below_step HN.out hSt)) j hj1 (fb j) (by simp [lst, hj1])
                        cases e1
                        obtain ⟨ad2, e2, x2, y2, z2⟩ := row_cu (Kd.C_below HXC.out (below_step HN.out hSt)) j hj1 (fa j) (by simp [lst, hj1])
                        cases e2
                        go_simp
                        with_reducible rfl
                      rotate_left
                      · simp only [Act.put, List.setIfInBounds_toArray, List.set_cons_zero, List.set_cons_succ, i64_w, i32_w]
                        rfl
                      refine one_ (i := 8) (N := some 148) #[true, true, true, true, true, true, true, true, true] rfl rfl (one_of HT_.out (by kernel_rfl)) (by decide) (fun K hK => ?_)
                      refine goes_ Try.func12 (by kernel_rfl) rfl #[.agg #[.int .i64 (fb j).1, .int .u8 (fb j).2.1, .int .u64 (fb j).2.2], .agg #[.int .i64 (fa j).1, .int .u8 (fa j).2.1, .int .u64 (fa j).2.2]] (by rfl) rfl rfl (by simp only [List.map_toArray, List.map_cons, List.map_nil]; rfl) ?_
                      refine (greater_calls (fb j) (fa j) _).mono ?_
                      rintro e w7 ⟨rfl, hb⟩
                      rw [HG3.out]
                      refine ⟨_, rfl, ?_⟩
                      have hb2 := below_step hHeld hb
                      clear hb
                      refine hK.out _ _ (by exact hb2) (fun hHeld => ?_)
                      clear hK K
                      refine norm_ (a' := ?_) ?_ ?_
                      rotate_left
                      · first
                        | (show Act.put _ (some 148) _ = _; simp only [Act.put, List.setIfInBounds_toArray, List.set_cons_zero, List.set_cons_succ, i64_w, i32_w]; rfl)
                        | rfl
                      refine done_ (done_of HT_.out (by kernel_rfl)) ?_
                      replace HN := Aside0.mk (below_step HN.out hHeld)
                      replace HBX := Aside0.mk (HBX.out.below hHeld)
                      clear hS0 hHeld HT_ HW_
                      have HPW := Aside0.mk (show p j = fa j by rw [HPW1.out]; unfold want; rw [if_neg hgt])
                      have HQW := Aside0.mk (show q j = fa j by rw [HQW1.out]; unfold want; rw [if_neg hgt])
                      clear hgt hgt' HPW1 HQW1
                      go_wp2_with fail
                      obtain ⟨wn, hwn⟩ : ∃ wn, wn = fa j := ⟨_, rfl⟩
                      rw [← hwn] at HPW HQW HBX
                      clear hwn
                      have hS0 := below_drew1 (Below.refl w7.heap.size w7)
                      refine start_ (n := 14) (S := fun w' => Below w7.heap.size w7 w') (ds := []) #[false, false, false, false, false, false, false, false, false, false, false, false, false, false] (by kernel_rfl) rfl rfl (by exact hS0) (fun hHeld => ?_)
                      refine with_tabW mrg_tab40 mrg_bits40 (fun HT_ HW_ => ?_)
                      refine pure_ (i := 0) (N := some 153) (v := ?_) (a' := ?_) #[true, false, false, false, false, false, false, false, false, false, false, false, false, false] rfl rfl (any_of HT_.out (by kernel_rfl)) (fun _ _ _ h => h) (Or.inl ⟨by rfl, ?_⟩) ?_ ?_
                      rotate_left
                      · intro w'
                        go_simp
                        with_reducible rfl
                      rotate_left
                      · simp only [Act.put, List.setIfInBounds_toArray, List.set_cons_zero, List.set_cons_succ, i64_w, i32_w]
                        rfl
                      refine pure_ (i := 1) (N := some 154) (v := ?_) (a' := ?_) #[true, true, false, false, false, false, false, false, false, false, false, false, false, false] rfl rfl (any_of HT_.out (by kernel_rfl)) (fun _ _ _ h => h) (Or.inl ⟨by rfl, ?_⟩) ?_ ?_
                      rotate_left
                      · intro w'
                        go_simp
                        with_reducible rfl
                      rotate_left
                      · simp only [Act.put, List.setIfInBounds_toArray, List.set_cons_zero, List.set_cons_succ, i64_w, i32_w]
                        rfl
                      refine pure_ (i := 2) (N := some 155) (v := ?_) (a' := ?_) #[true, true, true, false, false, false, false, false, false, false, false, false, false, false] rfl rfl (any_of HT_.out (by kernel_rfl)) (fun _ _ _ h => h) (Or.inl ⟨by rfl, ?_⟩) ?_ ?_
                      rotate_left
                      · intro w'
                        go_simp
                        with_reducible rfl
                      rotate_left
                      · simp only [Act.put, List.setIfInBounds_toArray, List.set_cons_zero, List.set_cons_succ, i64_w, i32_w]
                        rfl
                      refine take_ (i := 3) (N := some 156) (v := ?_) (a' := ?_) #[true, true, true, true, false, false, false, false, false, false, false, false, false, false] rfl rfl (take_ofW HT_.out HW_.out (by kernel_rfl)) (fun _ _ _ h => h) (Or.inl ⟨by rfl, ?_⟩) hHeld ?_ ?_
                      rotate_left
                      · intro w' hSt
                        obtain ⟨ad1, e1, x1, y1, z1⟩ := row_cu (Kd.C_below HPC.out (below_step HN.out hSt)) j hj1 (wn) (by simp [lst, hj1, HPW.out])
                        cases e1
                        obtain ⟨ad2, e2, x2, y2, z2⟩ := row_cu (Kd.C_below HQC.out (below_step HN.out hSt)) j hj1 (wn) (by simp [lst, hj1, HQW.out])
                        cases e2
                        obtain ⟨b0, b1, b2⟩ := (HBX.out.below hSt).cu
                        go_simp
                        with_reducible rfl
                      rotate_left
                      · simp only [Act.put, List.setIfInBounds_toArray, List.set_cons_zero, List.set_cons_succ, i64_w, i32_w]
                        rfl
                      refine take_ (i := 4) (N := some 157) (v := ?_) (a' := ?_) #[true, true, true, true, true, false, false, false, false, false, false, false, false, false] rfl rfl (take_ofW HT_.out HW_.out (by kernel_rfl)) (fun _ _ _ h => h) (Or.inl ⟨by rfl, ?_⟩) hHeld ?_ ?_
                      rotate_left
                      · intro w' hSt
                        obtain ⟨ad1, e1, x1, y1, z1⟩ := row_cu (Kd.C_below HPC.out (below_step HN.out hSt)) j hj1 (wn) (by simp [lst, hj1, HPW.out])
                        cases e1
                        obtain ⟨ad2, e2, x2, y2, z2⟩ := row_cu (Kd.C_below HQC.out (below_step HN.out hSt)) j hj1 (wn) (by simp [lst, hj1, HQW.out])
                        cases e2
                        obtain ⟨b0, b1, b2⟩ := (HBX.out.below hSt).cu
                        go_simp
                        with_reducible rfl
                      rotate_left
                      · simp only [Act.put, List.setIfInBounds_toArray, List.set_cons_zero, List.set_cons_succ, i64_w, i32_w]
                        rfl
                      refine pure_ (i := 5) (N := some 158) (v := ?_) (a' := ?_) #[true, true, true, true, true, true, false, false, false, false, false, false, false, false] rfl rfl (any_of HT_.out (by kernel_rfl)) (fun _ _ _ h => h) (Or.inl ⟨by rfl, ?_⟩) ?_ ?_
                      rotate_left
                      · intro w'
                        go_simp
                        with_reducible rfl
                      rotate_left
                      · simp only [Act.put, List.setIfInBounds_toArray, List.set_cons_zero, List.set_cons_succ, i64_w, i32_w]
                        rfl
                      refine pure_ (i := 6) (N := some 159) (v := ?_) (a' := ?_) #[true, true, true, true, true, true, true, false, false, false, false, false, false, false] rfl rfl (any_of HT_.out (by kernel_rfl)) (fun _ _ _ h => h) (Or.inl ⟨by rfl, ?_⟩) ?_ ?_
                      rotate_left
                      · intro w'
                        go_simp
                        with_reducible rfl
                      rotate_left
                      · simp only [Act.put, List.setIfInBounds_toArray, List.set_cons_zero, List.set_cons_succ, i64_w, i32_w]
                        rfl
                      refine pure_ (i := 7) (N := some 160) (v := ?_) (a' := ?_) #[true, true, true, true, true, true, true, true, false, false, false, false, false, false] rfl rfl (any_of HT_.out (by kernel_rfl)) (fun _ _ _ h => h) (Or.inl ⟨by rfl, ?_⟩) ?_ ?_
                      rotate_left
                      · intro w'
                        go_simp
                        with_reducible rfl
                      rotate_left
                      · simp only [Act.put, List.setIfInBounds_toArray, List.set_cons_zero, List.set_cons_succ, i64_w, i32_w]
                        rfl
                      refine pure_ (i := 8) (N := some 161) (v := ?_) (a' := ?_) #[true, true, true, true, true, true, true, true, true, false, false, false, false, false] rfl rfl (any_of HT_.out (by kernel_rfl)) (fun _ _ _ h => h) (Or.inl ⟨by rfl, ?_⟩) ?_ ?_
                      rotate_left
                      · intro w'
                        go_simp
                        with_reducible rfl
                      rotate_left
                      · simp only [Act.put, List.setIfInBounds_toArray, List.set_cons_zero, List.set_cons_succ, i64_w, i32_w]
                        rfl
                      refine pure_ (i := 9) (N := some 162) (v := ?_) (a' := ?_) #[true, true, true, true, true, true, true, true, true, true, false, false, false, false] rfl rfl (any_of HT_.out (by kernel_rfl)) (fun _ _ _ h => h) (Or.inl ⟨by rfl, ?_⟩) ?_ ?_
                      rotate_left
                      · intro w'
                        go_simp
                        with_reducible rfl
                      rotate_left
                      · simp only [Act.put, List.setIfInBounds_toArray, List.set_cons_zero, List.set_cons_succ, i64_w, i32_w]
                        rfl
                      refine take_ (i := 10) (N := some 163) (v := ?_) (a' := ?_) #[true, true, true, true, true, true, true, true, true, true, true, false, false, false] rfl rfl (take_ofW HT_.out HW_.out (by kernel_rfl)) (fun _ _ _ h => h) (Or.inl ⟨by rfl, ?_⟩) hHeld ?_ ?_
                      rotate_left
                      · intro w' hSt
                        obtain ⟨ad1, e1, x1, y1, z1⟩ := row_cu (Kd.C_below HPC.out (below_step HN.out hSt)) j hj1 (wn) (by simp [lst, hj1, HPW.out])
                        cases e1
                        obtain ⟨ad2, e2, x2, y2, z2⟩ := row_cu (Kd.C_below HQC.out (below_step HN.out hSt)) j hj1 (wn) (by simp [lst, hj1, HQW.out])
                        cases e2
                        obtain ⟨b0, b1, b2⟩ := (HBX.out.below hSt).cu
                        go_simp
                        with_reducible rfl
                      rotate_left
                      · simp only [Act.put, List.setIfInBounds_toArray, List.set_cons_zero, List.set_cons_succ, i64_w, i32_w]
                        rfl
                      refine take_ (i := 11) (N := some 164) (v := ?_) (a' := ?_) #[true, true, true, true, true, true, true, true, true, true, true, true, false, false] rfl rfl (take_ofW HT_.out HW_.out (by kernel_rfl)) (fun _ _ _ h => h) (Or.inl ⟨by rfl, ?_⟩) hHeld ?_ ?_
                      rotate_left
                      · intro w' hSt
                        obtain ⟨ad1, e1, x1, y1, z1⟩ := row_cu (Kd.C_below HPC.out (below_step HN.out hSt)) j hj1 (wn) (by simp [lst, hj1, HPW.out])
                        cases e1
                        obtain ⟨ad2, e2, x2, y2, z2⟩ := row_cu (Kd.C_below HQC.out (below_step HN.out hSt)) j hj1 (wn) (by simp [lst, hj1, HQW.out])
                        cases e2
                        obtain ⟨b0, b1, b2⟩ := (HBX.out.below hSt).cu
                        go_simp
                        with_reducible rfl
                      rotate_left
                      · simp only [Act.put, List.setIfInBounds_toArray, List.set_cons_zero, List.set_cons_succ, i64_w, i32_w]
                        rfl
                      refine pure_ (i := 12) (N := some 165) (v := ?_) (a' := ?_) #[true, true, true, true, true, true, true, true, true, true, true, true, true, false] rfl rfl (any_of HT_.out (by kernel_rfl)) (fun _ _ _ h => h) (Or.inl ⟨by rfl, ?_⟩) ?_ ?_
                      rotate_left
                      · intro w'
                        go_simp
                        with_reducible rfl
                      rotate_left
                      · simp only [Act.put, List.setIfInBounds_toArray, List.set_cons_zero, List.set_cons_succ, i64_w, i32_w]
                        rfl
                      refine pure_ (i := 13) (N := some 166) (v := ?_) (a' := ?_) #[true, true, true, true, true, true, true, true, true, true, true, true, true, true] rfl rfl (any_of HT_.out (by kernel_rfl)) (fun _ _ _ h => h) (Or.inl ⟨by rfl, ?_⟩) ?_ ?_
                      rotate_left
                      · intro w'
                        go_simp
                        with_reducible rfl
                      rotate_left
                      · simp only [Act.put, List.setIfInBounds_toArray, List.set_cons_zero, List.set_cons_succ, i64_w, i32_w]
                        rfl
                      refine done_ (done_of HT_.out (by kernel_rfl)) ?_
                      replace HN := Aside0.mk (below_step HN.out (below_drew1 (Below.refl _ _)))
                      clear hS0 hHeld HT_ HW_ HBX
                      go_wp2
                      go_roundw
                      case rel => exact ⟨j + 1, by omega, by go_num, HN⟩
                      case measure => simp [intOf]; omega
                · obtain rfl : n = j := by omega
                  clear hj1 hj
                  go_wp2
                  go_loopw [168] (fun i wr => ∃ j : Nat, j ≤ 2 ∧ i = .int .i64 j ∧ Aside0 (Below w9.heap.size w9 wr)) (fun i _ => 2 - (intOf i).toNat)
                  case atStart => exact ⟨0, Nat.zero_le _, rfl, HN⟩
                  case round =>
                    clear HN
                    obtain ⟨j, hj, rfl, HN⟩ := hrel
                    by_cases hj2 : j < 2
                    · have hj1 : j < n := by omega
                      by_cases hi : (p j).2.2 < 1099511627776
                      · have hi1 : decide ((p j).2.2 < 1099511627776) = true := decide_eq_true hi
                        have HQP := Aside0.mk (HOW.out j hj2 hi).1
                        have hst : ((p j).2.1 != 1) = false := by simp [(HOW.out j hj2 hi).2]
                        clear hi
                        go_wp2_with fail
                        have hS0 := below_drew1 (Below.refl wr.heap.size wr)
                        refine start_ (n := 25) (S := fun w' => Below wr.heap.size wr w') (ds := []) #[false, false, false, false, false, false, false, false, false, false, false, false, false, false, false, false, false, false, false, false, false, false, false, false, false] (by kernel_rfl) rfl rfl (by exact hS0) (fun hHeld => ?_)
                        refine with_tabW mrg_tab46 mrg_bits46 (fun HT_ HW_ => ?_)
                        refine pure_ (i := 0) (N := some 171) (v := ?_) (a' := ?_) #[true, false, false, false, false, false, false, false, false, false, false, false, false, false, false, false, false, false, false, false, false, false, false, false, false] rfl rfl (any_of HT_.out (by kernel_rfl)) (fun _ _ _ h => h) (Or.inl ⟨by rfl, ?_⟩) ?_ ?_
                        rotate_left
                        · intro w'
                          go_simp
                          with_reducible rfl
                        rotate_left
                        · simp only [Act.put, List.setIfInBounds_toArray, List.set_cons_zero, List.set_cons_succ, i64_w, i32_w]
                          rfl
                        refine pure_ (i := 1) (N := some 172) (v := ?_) (a' := ?_) #[true, true, false, false, false, false, false, false, false, false, false, false, false, false, false, false, false, false, false, false, false, false, false, false, false] rfl rfl (any_of HT_.out (by kernel_rfl)) (fun _ _ _ h => h) (Or.inl ⟨by rfl, ?_⟩) ?_ ?_
                        rotate_left
                        · intro w'
                          go_simp
                          with_reducible rfl
                        rotate_left
                        · simp only [Act.put, List.setIfInBounds_toArray, List.set_cons_zero, List.set_cons_succ, i64_w, i32_w]
                          rfl
                        refine pure_ (i := 2) (N := some 173) (v := ?_) (a' := ?_) #[true, true, true, false, false, false, false, false, false, false, false, false, false, false, false, false, false, false, false, false, false, false, false, false, false] rfl rfl (any_of HT_.out (by kernel_rfl)) (fun _ _ _ h => h) (Or.inl ⟨by rfl, ?_⟩) ?_ ?_
                        rotate_left
                        · intro w'
                          go_simp
                          with_reducible rfl
                        rotate_left
                        · simp only [Act.put, List.setIfInBounds_toArray, List.set_cons_zero, List.set_cons_succ, i64_w, i32_w]
                          rfl
                        refine pure_ (i := 3) (N := some 174) (v := ?_) (a' := ?_) #[true, true, true, true, false, false, false, false, false, false, false, false, false, false, false, false, false, false, false, false, false, false, false, false, false] rfl rfl (any_of HT_.out (by kernel_rfl)) (fun _ _ _ h => h) (Or.inl ⟨by rfl, ?_⟩) ?_ ?_
                        rotate_left
                        · intro w'
                          go_simp
                          with_reducible rfl
                        rotate_left
                        · simp only [Act.put, List.setIfInBounds_toArray, List.set_cons_zero, List.set_cons_succ, i64_w, i32_w]
                          rfl
                        refine take_ (i := 4) (N := some 175) (v := ?_) (a' := ?_) #[true, true, true, true, true, false, false, false, false, false, false, false, false, false, false, false, false, false, false, false, false, false, false, false, false] rfl rfl (take_ofW HT_.out HW_.out (by kernel_rfl)) (fun _ _ _ h => h) (Or.inl ⟨by rfl, ?_⟩) hHeld ?_ ?_
                        rotate_left
                        · intro w' hSt
                          obtain ⟨ad1, e1, x1, y1, z1⟩ := row_cu (Kd.C_below HPC.out (below_step HN.out hSt)) j hj1 (p j) (by simp [lst, hj1])
                          cases e1
                          go_simp
                          with_reducible rfl
                        rotate_left
                        · simp only [Act.put, List.setIfInBounds_toArray, List.set_cons_zero, List.set_cons_succ, i64_w, i32_w]
                          rfl
                        refine pure_ (i := 5) (N := some 176) (v := ?_) (a' := ?_) #[true, true, true, true, true, true, false, false, false, false, false, false, false, false, false, false, false, false, false, false, false, false, false, false, false] rfl rfl (any_of HT_.out (by kernel_rfl)) (fun _ _ _ h => h) (Or.inl ⟨by rfl, ?_⟩) ?_ ?_
                        rotate_left
                        · intro w'
                          go_simp
                          with_reducible rfl
                        rotate_left
                        · simp only [Act.put, List.setIfInBounds_toArray, List.set_cons_zero, List.set_cons_succ, i64_w, i32_w]
                          rfl
                        refine pure_ (i := 6) (N := some 177) (v := ?_) (a' := ?_) #[true, true, true, true, true, true, true, false, false, false, false, false, false, false, false, false, false, false, false, false, false, false, false, false, false] rfl rfl (any_of HT_.out (by kernel_rfl)) (fun _ _ _ h => h) (Or.inl ⟨by rfl, ?_⟩) ?_ ?_
                        rotate_left
                        · intro w'
                          go_simp
                          with_reducible rfl
                        rotate_left
                        · simp only [Act.put, List.setIfInBounds_toArray, List.set_cons_zero, List.set_cons_succ, i64_w, i32_w]
                          rfl
                        refine pure_ (i := 7) (N := some 178) (v := ?_) (a' := ?_) #[true, true, true, true, true, true, true, true, false, false, false, false, false, false, false, false, false, false, false, false, false, false, false, false, false] rfl rfl (any_of HT_.out (by kernel_rfl)) (fun _ _ _ h => h) (Or.inl ⟨by rfl, ?_⟩) ?_ ?_
                        rotate_left
                        · intro w'
                          go_simp
                          with_reducible rfl
                        rotate_left
                        · simp only [Act.put, List.setIfInBounds_toArray, List.set_cons_zero, List.set_cons_succ, i64_w, i32_w]
                          rfl
                        refine pure_ (i := 8) (N := some 179) (v := ?_) (a' := ?_) #[true, true, true, true, true, true, true, true, true, false, false, false, false, false, false, false, false, false, false, false, false, false, false, false, false] rfl rfl (any_of HT_.out (by kernel_rfl)) (fun _ _ _ h => h) (Or.inl ⟨by rfl, ?_⟩) ?_ ?_
                        rotate_left
                        · intro w'
                          go_simp
                          with_reducible rfl
                        rotate_left
                        · simp only [Act.put, List.setIfInBounds_toArray, List.set_cons_zero, List.set_cons_succ, i64_w, i32_w]
                          rfl
                        refine pure_ (i := 9) (N := some 180) (v := ?_) (a' := ?_) #[true, true, true, true, true, true, true, true, true, true, false, false, false, false, false, false, false, false, false, false, false, false, false, false, false] rfl rfl (any_of HT_.out (by kernel_rfl)) (fun _ _ _ h => h) (Or.inl ⟨by rfl, ?_⟩) ?_ ?_
                        rotate_left
                        · intro w'
                          go_simp
                          with_reducible rfl
                        rotate_left
                        · simp only [Act.put, List.setIfInBounds_toArray, List.set_cons_zero, List.set_cons_succ, i64_w, i32_w]
                          rfl
                        refine take_ (i := 10) (N := some 181) (v := ?_) (a' := ?_) #[true, true, true, true, true, true, true, true, true, true, true, false, false, false, false, false, false, false, false, false, false, false, false, false, false] rfl rfl (take_ofW HT_.out HW_.out (by kernel_rfl)) (fun _ _ _ h => h) (Or.inl ⟨by rfl, ?_⟩) hHeld ?_ ?_
                        rotate_left
                        · intro w' hSt
                          obtain ⟨ad1, e1, x1, y1, z1⟩ := row_cu (Kd.C_below HPC.out (below_step HN.out hSt)) j hj1 (p j) (by simp [lst, hj1])
                          cases e1
                          go_simp
                          with_reducible rfl
                        rotate_left
                        · simp only [Act.put, List.setIfInBounds_toArray, List.set_cons_zero, List.set_cons_succ, i64_w, i32_w]
                          rfl
                        refine pure_ (i := 11) (N := some 182) (v := ?_) (a' := ?_) #[true, true, true, true, true, true, true, true, true, true, true, true, false, false, false, false, false, false, false, false, false, false, false, false, false] rfl rfl (any_of HT_.out (by kernel_rfl)) (fun _ _ _ h => h) (Or.inl ⟨by rfl, ?_⟩) ?_ ?_
                        rotate_left
                        · intro w'
                          go_simp
                          with_reducible rfl
                        rotate_left
                        · simp only [Act.put, List.setIfInBounds_toArray, List.set_cons_zero, List.set_cons_succ, i64_w, i32_w]
                          rfl
                        refine pure_ (i := 12) (N := some 183) (v := ?_) (a' := ?_) #[true, true, true, true, true, true, true, true, true, true, true, true, true, false, false, false, false, false, false, false, false, false, false, false, false] rfl rfl (any_of HT_.out (by kernel_rfl)) (fun _ _ _ h => h) (Or.inl ⟨by rfl, ?_⟩) ?_ ?_
                        rotate_left
                        · intro w'
                          go_simp
                          with_reducible rfl
                        rotate_left
                        · simp only [Act.put, List.setIfInBounds_toArray, List.set_cons_zero, List.set_cons_succ, i64_w, i32_w]
                          rfl
                        refine pure_ (i := 13) (N := some 184) (v := ?_) (a' := ?_) #[true, true, true, true, true, true, true, true, true, true, true, true, true, true, false, false, false, false, false, false, false, false, false, false, false] rfl rfl (any_of HT_.out (by kernel_rfl)) (fun _ _ _ h => h) (Or.inl ⟨by rfl, ?_⟩) ?_ ?_
                        rotate_left
                        · intro w'
                          go_simp
                          with_reducible rfl
                        rotate_left
                        · simp only [Act.put, List.setIfInBounds_toArray, List.set_cons_zero, List.set_cons_succ, i64_w, i32_w]
                          rfl
                        refine take_ (i := 14) (N := some 185) (v := ?_) (a' := ?_) #[true, true, true, true, true, true, true, true, true, true, true, true, true, true, true, false, false, false, false, false, false, false, false, false, false] rfl rfl (take_ofW HT_.out HW_.out (by kernel_rfl)) (fun _ _ _ h => h) (Or.inl ⟨by rfl, ?_⟩) hHeld ?_ ?_
                        rotate_left
                        · intro w' hSt
                          obtain ⟨ad1, e1, x1, y1, z1⟩ := row_cu (Kd.C_below HPC.out (below_step HN.out hSt)) j hj1 (p j) (by simp [lst, hj1])
                          cases e1
                          obtain ⟨ad2, e2, x2, y2, z2⟩ := row_cu (Kd.C_below HQC.out (below_step HN.out hSt)) j hj1 (p j) (by simp [lst, hj1, HQP.out])
                          cases e2
                          go_simp
                          with_reducible rfl
                        rotate_left
                        · simp only [Act.put, List.setIfInBounds_toArray, List.set_cons_zero, List.set_cons_succ, i64_w, i32_w]
                          rfl
                        refine pure_ (i := 15) (N := some 186) (v := ?_) (a' := ?_) #[true, true, true, true, true, true, true, true, true, true, true, true, true, true, true, true, false, false, false, false, false, false, false, false, false] rfl rfl (any_of HT_.out (by kernel_rfl)) (fun _ _ _ h => h) (Or.inl ⟨by rfl, ?_⟩) ?_ ?_
                        rotate_left
                        · intro w'
                          go_simp
                          with_reducible rfl
                        rotate_left
                        · simp only [Act.put, List.setIfInBounds_toArray, List.set_cons_zero, List.set_cons_succ, i64_w, i32_w]
                          rfl
                        refine pure_ (i := 16) (N := some 187) (v := ?_) (a' := ?_) #[true, true, true, true, true, true, true, true, true, true, true, true, true, true, true, true, true, false, false, false, false, false, false, false, false] rfl rfl (any_of HT_.out (by kernel_rfl)) (fun _ _ _ h => h) (Or.inl ⟨by rfl, ?_⟩) ?_ ?_
                        rotate_left
                        · intro w'
                          go_simp
                          with_reducible rfl
                        rotate_left
                        · simp only [Act.put, List.setIfInBounds_toArray, List.set_cons_zero, List.set_cons_succ, i64_w, i32_w]
                          rfl
                        refine pure_ (i := 17) (N := some 188) (v := ?_) (a' := ?_) #[true, true, true, true, true, true, true, true, true, true, true, true, true, true, true, true, true, true, false, false, false, false, false, false, false] rfl rfl (any_of HT_.out (by kernel_rfl)) (fun _ _ _ h => h) (Or.inl ⟨by rfl, ?_⟩) ?_ ?_
                        rotate_left
                        · intro w'
                          go_simp
                          with_reducible rfl
                        rotate_left
                        · simp only [Act.put, List.setIfInBounds_toArray, List.set_cons_zero, List.set_cons_succ, i64_w, i32_w]
                          rfl
                        refine pure_ (i := 18) (N := some 189) (v := ?_) (a' := ?_) #[true, true, true, true, true, true, true, true, true, true, true, true, true, true, true, true, true, true, true, false, false, false, false, false, false] rfl rfl (any_of HT_.out (by kernel_rfl)) (fun _ _ _ h => h) (Or.inl ⟨by rfl, ?_⟩) ?_ ?_
                        rotate_left
                        · intro w'
                          go_simp
                          with_reducible rfl
                        rotate_left
                        · simp only [Act.put, List.setIfInBounds_toArray, List.set_cons_zero, List.set_cons_succ, i64_w, i32_w]
                          rfl
                        refine pure_ (i := 19) (N := some 190) (v := ?_) (a' := ?_) #[true, true, true, true, true, true, true, true, true, true, true, true, true, true, true, true, true, true, true, true, false, false, false, false, false] rfl rfl (any_of HT_.out (by kernel_rfl)) (fun _ _ _ h => h) (Or.inl ⟨by rfl, ?_⟩) ?_ ?_
                        rotate_left
                        · intro w'
                          go_simp
                          with_reducible rfl
                        rotate_left
                        · simp only [Act.put, List.setIfInBounds_toArray, List.set_cons_zero, List.set_cons_succ, i64_w, i32_w]
                          rfl
                        refine pure_ (i := 20) (N := some 191) (v := ?_) (a' := ?_) #[true, true, true, true, true, true, true, true, true, true, true, true, true, true, true, true, true, true, true, true, true, false, false, false, false] rfl rfl (any_of HT_.out (by kernel_rfl)) (fun _ _ _ h => h) (Or.inl ⟨by rfl, ?_⟩) ?_ ?_
                        rotate_left
                        · intro w'
                          go_simp
                          with_reducible rfl
                        rotate_left
                        · simp only [Act.put, List.setIfInBounds_toArray, List.set_cons_zero, List.set_cons_succ, i64_w, i32_w]
                          rfl
                        refine take_ (i := 21) (N := some 192) (v := ?_) (a' := ?_) #[true, true, true, true, true, true, true, true, true, true, true, true, true, true, true, true, true, true, true, true, true, true, false, false, false] rfl rfl (take_ofW HT_.out HW_.out (by kernel_rfl)) (fun _ _ _ h => h) (Or.inl ⟨by rfl, ?_⟩) hHeld ?_ ?_
                        rotate_left
                        · intro w' hSt
                          obtain ⟨ad1, e1, x1, y1, z1⟩ := row_cu (Kd.C_below HPC.out (below_step HN.out hSt)) j hj1 (p j) (by simp [lst, hj1])
                          cases e1
                          go_simp
                          with_reducible rfl
                        rotate_left
                        · simp only [Act.put, List.setIfInBounds_toArray, List.set_cons_zero, List.set_cons_succ, i64_w, i32_w]
                          rfl
                        refine pure_ (i := 22) (N := some 193) (v := ?_) (a' := ?_) #[true, true, true, true, true, true, true, true, true, true, true, true, true, true, true, true, true, true, true, true, true, true, true, false, false] rfl rfl (any_of HT_.out (by kernel_rfl)) (fun _ _ _ h => h) (Or.inl ⟨by rfl, ?_⟩) ?_ ?_
                        rotate_left
                        · intro w'
                          go_simp
                          with_reducible rfl
                        rotate_left
                        · simp only [Act.put, List.setIfInBounds_toArray, List.set_cons_zero, List.set_cons_succ, i64_w, i32_w]
                          rfl
                        refine pure_ (i := 23) (N := some 194) (v := ?_) (a' := ?_) #[true, true, true, true, true, true, true, true, true, true, true, true, true, true, true, true, true, true, true, true, true, true, true, true, false] rfl rfl (any_of HT_.out (by kernel_rfl)) (fun _ _ _ h => h) (Or.inl ⟨by rfl, ?_⟩) ?_ ?_
                        rotate_left
                        · intro w'
                          go_simp
                          with_reducible rfl
                        rotate_left
                        · simp only [Act.put, List.setIfInBounds_toArray, List.set_cons_zero, List.set_cons_succ, i64_w, i32_w]
                          rfl
                        refine pure_ (i := 24) (N := some 195) (v := ?_) (a' := ?_) #[true, true, true, true, true, true, true, true, true, true, true, true, true, true, true, true, true, true, true, true, true, true, true, true, true] rfl rfl (any_of HT_.out (by kernel_rfl)) (fun _ _ _ h => h) (Or.inl ⟨by rfl, ?_⟩) ?_ ?_
                        rotate_left
                        · intro w'
                          go_simp
                          with_reducible rfl
                        rotate_left
                        · simp only [Act.put, List.setIfInBounds_toArray, List.set_cons_zero, List.set_cons_succ, i64_w, i32_w]
                          rfl
                        refine done_ (done_of HT_.out (by kernel_rfl)) ?_
                        replace HN := Aside0.mk (below_step HN.out (below_drew1 (Below.refl _ _)))
                        clear hS0 hHeld HT_ HW_
                        go_wp2
                        go_roundw
                        case rel => exact ⟨j + 1, by omega, by go_num, HN⟩
                        case measure => simp [intOf]; omega
                      · have hi1 : decide ((p j).2.2 < 1099511627776) = false := decide_eq_false hi
                        clear hi
                        go_wp2_with fail
                        have hS0 := below_drew1 (Below.refl wr.heap.size wr)
                        refine start_ (n := 25) (S := fun w' => Below wr.heap.size wr w') (ds := []) #[false, false, false, false, false, false, false, false, false, false, false, false, false, false, false, false, false, false, false, false, false, false, false, false, false] (by kernel_rfl) rfl rfl (by exact hS0) (fun hHeld => ?_)
                        refine with_tabW mrg_tab46 mrg_bits46 (fun HT_ HW_ => ?_)
                        refine pure_ (i := 0) (N := some 171) (v := ?_) (a' := ?_) #[true, false, false, false, false, false, false, false, false, false, false, false, false, false, false, false, false, false, false, false, false, false, false, false, false] rfl rfl (any_of HT_.out (by kernel_rfl)) (fun _ _ _ h => h) (Or.inl ⟨by rfl, ?_⟩) ?_ ?_
                        rotate_left
                        · intro w'
                          go_simp
                          with_reducible rfl
                        rotate_left
                        · simp only [Act.put, List.setIfInBounds_toArray, List.set_cons_zero, List.set_cons_succ, i64_w, i32_w]
                          rfl
                        refine pure_ (i := 1) (N := some 172) (v := ?_) (a' := ?_) #[true, true, false, false, false, false, false, false, false, false, false, false, false, false, false, false, false, false, false, false, false, false, false, false, false] rfl rfl (any_of HT_.out (by kernel_rfl)) (fun _ _ _ h => h) (Or.inl ⟨by rfl, ?_⟩) ?_ ?_
                        rotate_left
                        · intro w'
                          go_simp
                          with_reducible rfl
                        rotate_left
                        · simp only [Act.put, List.setIfInBounds_toArray, List.set_cons_zero, List.set_cons_succ, i64_w, i32_w]
                          rfl
                        refine pure_ (i := 2) (N := some 173) (v := ?_) (a' := ?_) #[true, true, true, false, false, false, false, false, false, false, false, false, false, false, false, false, false, false, false, false, false, false, false, false, false] rfl rfl (any_of HT_.out (by kernel_rfl)) (fun _ _ _ h => h) (Or.inl ⟨by rfl, ?_⟩) ?_ ?_
                        rotate_left
                        · intro w'
                          go_simp
                          with_reducible rfl
                        rotate_left
                        · simp only [Act.put, List.setIfInBounds_toArray, List.set_cons_zero, List.set_cons_succ, i64_w, i32_w]
                          rfl
                        refine pure_ (i := 3) (N := some 174) (v := ?_) (a' := ?_) #[true, true, true, true, false, false, false, false, false, false, false, false, false, false, false, false, false, false, false, false, false, false, false, false, false] rfl rfl (any_of HT_.out (by kernel_rfl)) (fun _ _ _ h => h) (Or.inl ⟨by rfl, ?_⟩) ?_ ?_
                        rotate_left
                        · intro w'
                          go_simp
                          with_reducible rfl
                        rotate_left
                        · simp only [Act.put, List.setIfInBounds_toArray, List.set_cons_zero, List.set_cons_succ, i64_w, i32_w]
                          rfl
                        refine take_ (i := 4) (N := some 175) (v := ?_) (a' := ?_) #[true, true, true, true, true, false, false, false, false, false, false, false, false, false, false, false, false, false, false, false, false, false, false, false, false] rfl rfl (take_ofW HT_.out HW_.out (by kernel_rfl)) (fun _ _ _ h => h) (Or.inl ⟨by rfl, ?_⟩) hHeld ?_ ?_
                        rotate_left
                        · intro w' hSt
                          obtain ⟨ad1, e1, x1, y1, z1⟩ := row_cu (Kd.C_below HPC.out (below_step HN.out hSt)) j hj1 (p j) (by simp [lst, hj1])
                          cases e1
                          go_simp
                          with_reducible rfl
                        rotate_left
                        · simp only [Act.put, List.setIfInBounds_toArray, List.set_cons_zero, List.set_cons_succ, i64_w, i32_w]
                          rfl
                        refine pure_ (i := 5) (N := some 176) (v := ?_) (a' := ?_) #[true, true, true, true, true, true, false, false, false, false, false, false, false, false, false, false, false, false, false, false, false, false, false, false, false] rfl rfl (any_of HT_.out (by kernel_rfl)) (fun _ _ _ h => h) (Or.inl ⟨by rfl, ?_⟩) ?_ ?_
                        rotate_left
                        · intro w'
                          go_simp
                          with_reducible rfl
                        rotate_left
                        · simp only [Act.put, List.setIfInBounds_toArray, List.set_cons_zero, List.set_cons_succ, i64_w, i32_w]
                          rfl
                        refine pure_ (i := 6) (N := some 177) (v := ?_) (a' := ?_) #[true, true, true, true, true, true, true, false, false, false, false, false, false, false, false, false, false, false, false, false, false, false, false, false, false] rfl rfl (any_of HT_.out (by kernel_rfl)) (fun _ _ _ h => h) (Or.inl ⟨by rfl, ?_⟩) ?_ ?_
                        rotate_left
                        · intro w'
                          go_simp
                          with_reducible rfl
                        rotate_left
                        · simp only [Act.put, List.setIfInBounds_toArray, List.set_cons_zero, List.set_cons_succ, i64_w, i32_w]
                          rfl
                        refine pure_ (i := 7) (N := some 178) (v := undef) (a' := ?_) #[true, true, true, true, true, true, true, true, false, false, false, false, false, false, false, false, false, false, false, false, false, false, false, false, false] rfl rfl (any_of HT_.out (by kernel_rfl)) (fun _ _ _ h => h) (Or.inr ⟨by rfl, rfl⟩) ?_ ?_
                        rotate_left
                        · simp only [Act.put, List.setIfInBounds_toArray, List.set_cons_zero, List.set_cons_succ, i64_w, i32_w]
                          rfl
                        refine pure_ (i := 8) (N := some 179) (v := undef) (a' := ?_) #[true, true, true, true, true, true, true, true, true, false, false, false, false, false, false, false, false, false, false, false, false, false, false, false, false] rfl rfl (any_of HT_.out (by kernel_rfl)) (fun _ _ _ h => h) (Or.inr ⟨by rfl, rfl⟩) ?_ ?_
                        rotate_left
                        · simp only [Act.put, List.setIfInBounds_toArray, List.set_cons_zero, List.set_cons_succ, i64_w, i32_w]
                          rfl
                        refine pure_ (i := 9) (N := some 180) (v := undef) (a' := ?_) #[true, true, true, true, true, true, true, true, true, true, false, false, false, false, false, false, false, false, false, false, false, false, false, false, false] rfl rfl (any_of HT_.out (by kernel_rfl)) (fun _ _ _ h => h) (Or.inr ⟨by rfl, rfl⟩) ?_ ?_
                        rotate_left
                        · simp only [Act.put, List.setIfInBounds_toArray, List.set_cons_zero, List.set_cons_succ, i64_w, i32_w]
                          rfl
                        refine pure_ (i := 10) (N := some 181) (v := undef) (a' := ?_) #[true, true, true, true, true, true, true, true, true, true, true, false, false, false, false, false, false, false, false, false, false, false, false, false, false] rfl rfl (any_of HT_.out (by kernel_rfl)) (fun _ _ _ h => h) (Or.inr ⟨by rfl, rfl⟩) ?_ ?_
                        rotate_left
                        · simp only [Act.put, List.setIfInBounds_toArray, List.set_cons_zero, List.set_cons_succ, i64_w, i32_w]
                          rfl
                        refine pure_ (i := 11) (N := some 182) (v := undef) (a' := ?_) #[true, true, true, true, true, true, true, true, true, true, true, true, false, false, false, false, false, false, false, false, false, false, false, false, false] rfl rfl (any_of HT_.out (by kernel_rfl)) (fun _ _ _ h => h) (Or.inr ⟨by rfl, rfl⟩) ?_ ?_
                        rotate_left
                        · simp only [Act.put, List.setIfInBounds_toArray, List.set_cons_zero, List.set_cons_succ, i64_w, i32_w]
                          rfl
                        refine pure_ (i := 12) (N := some 183) (v := undef) (a' := ?_) #[true, true, true, true, true, true, true, true, true, true, true, true, true, false, false, false, false, false, false, false, false, false, false, false, false] rfl rfl (any_of HT_.out (by kernel_rfl)) (fun _ _ _ h => h) (Or.inr ⟨by rfl, rfl⟩) ?_ ?_
                        rotate_left
                        · simp only [Act.put, List.setIfInBounds_toArray, List.set_cons_zero, List.set_cons_succ, i64_w, i32_w]
                          rfl
                        refine pure_ (i := 13) (N := some 184) (v := undef) (a' := ?_) #[true, true, true, true, true, true, true, true, true, true, true, true, true, true, false, false, false, false, false, false, false, false, false, false, false] rfl rfl (any_of HT_.out (by kernel_rfl)) (fun _ _ _ h => h) (Or.inr ⟨by rfl, rfl⟩) ?_ ?_
                        rotate_left
                        · simp only [Act.put, List.setIfInBounds_toArray, List.set_cons_zero, List.set_cons_succ, i64_w, i32_w]
                          rfl
                        refine pure_ (i := 14) (N := some 185) (v := undef) (a' := ?_) #[true, true, true, true, true, true, true, true, true, true, true, true, true, true, true, false, false, false, false, false, false, false, false, false, false] rfl rfl (any_of HT_.out (by kernel_rfl)) (fun _ _ _ h => h) (Or.inr ⟨by rfl, rfl⟩) ?_ ?_
                        rotate_left
                        · simp only [Act.put, List.setIfInBounds_toArray, List.set_cons_zero, List.set_cons_succ, i64_w, i32_w]
                          rfl
                        refine pure_ (i := 15) (N := some 186) (v := undef) (a' := ?_) #[true, true, true, true, true, true, true, true, true, true, true, true, true, true, true, true, false, false, false, false, false, false, false, false, false] rfl rfl (any_of HT_.out (by kernel_rfl)) (fun _ _ _ h => h) (Or.inr ⟨by rfl, rfl⟩) ?_ ?_
                        rotate_left
                        · simp only [Act.put, List.setIfInBounds_toArray, List.set_cons_zero, List.set_cons_succ, i64_w, i32_w]
                          rfl
                        refine pure_ (i := 16) (N := some 187) (v := undef) (a' := ?_) #[true, true, true, true, true, true, true, true, true, true, true, true, true, true, true, true, true, false, false, false, false, false, false, false, false] rfl rfl (any_of HT_.out (by kernel_rfl)) (fun _ _ _ h => h) (Or.inr ⟨by rfl, rfl⟩) ?_ ?_
                        rotate_left
                        · simp only [Act.put, List.setIfInBounds_toArray, List.set_cons_zero, List.set_cons_succ, i64_w, i32_w]
                          rfl
                        refine pure_ (i := 17) (N := some 188) (v := undef) (a' := ?_) #[true, true, true, true, true, true, true, true, true, true, true, true, true, true, true, true, true, true, false, false, false, false, false, false, false] rfl rfl (any_of HT_.out (by kernel_rfl)) (fun _ _ _ h => h) (Or.inr ⟨by rfl, rfl⟩) ?_ ?_
                        rotate_left
                        · simp only [Act.put, List.setIfInBounds_toArray, List.set_cons_zero, List.set_cons_succ, i64_w, i32_w]
                          rfl
                        refine pure_ (i := 18) (N := some 189) (v := undef) (a' := ?_) #[true, true, true, true, true, true, true, true, true, true, true, true, true, true, true, true, true, true, true, false, false, false, false, false, false] rfl rfl (any_of HT_.out (by kernel_rfl)) (fun _ _ _ h => h) (Or.inr ⟨by rfl, rfl⟩) ?_ ?_
                        rotate_left
                        · simp only [Act.put, List.setIfInBounds_toArray, List.set_cons_zero, List.set_cons_succ, i64_w, i32_w]
                          rfl
                        refine pure_ (i := 19) (N := some 190) (v := undef) (a' := ?_) #[true, true, true, true, true, true, true, true, true, true, true, true, true, true, true, true, true, true, true, true, false, false, false, false, false] rfl rfl (any_of HT_.out (by kernel_rfl)) (fun _ _ _ h => h) (Or.inr ⟨by rfl, rfl⟩) ?_ ?_
                        rotate_left
                        · simp only [Act.put, List.setIfInBounds_toArray, List.set_cons_zero, List.set_cons_succ, i64_w, i32_w]
                          rfl
                        refine pure_ (i := 20) (N := some 191) (v := undef) (a' := ?_) #[true, true, true, true, true, true, true, true, true, true, true, true, true, true, true, true, true, true, true, true, true, false, false, false, false] rfl rfl (any_of HT_.out (by kernel_rfl)) (fun _ _ _ h => h) (Or.inr ⟨by rfl, rfl⟩) ?_ ?_
                        rotate_left
                        · simp only [Act.put, List.setIfInBounds_toArray, List.set_cons_zero, List.set_cons_succ, i64_w, i32_w]
                          rfl
                        refine pure_ (i := 21) (N := some 192) (v := undef) (a' := ?_) #[true, true, true, true, true, true, true, true, true, true, true, true, true, true, true, true, true, true, true, true, true, true, false, false, false] rfl rfl (any_of HT_.out (by kernel_rfl)) (fun _ _ _ h => h) (Or.inr ⟨by rfl, rfl⟩) ?_ ?_
                        rotate_left
                        · simp only [Act.put, List.setIfInBounds_toArray, List.set_cons_zero, List.set_cons_succ, i64_w, i32_w]
                          rfl
                        refine pure_ (i := 22) (N := some 193) (v := undef) (a' := ?_) #[true, true, true, true, true, true, true, true, true, true, true, true, true, true, true, true, true, true, true, true, true, true, true, false, false] rfl rfl (any_of HT_.out (by kernel_rfl)) (fun _ _ _ h => h) (Or.inr ⟨by rfl, rfl⟩) ?_ ?_
                        rotate_left
                        · simp only [Act.put, List.setIfInBounds_toArray, List.set_cons_zero, List.set_cons_succ, i64_w, i32_w]
                          rfl
                        refine pure_ (i := 23) (N := some 194) (v := undef) (a' := ?_) #[true, true, true, true, true, true, true, true, true, true, true, true, true, true, true, true, true, true, true, true, true, true, true, true, false] rfl rfl (any_of HT_.out (by kernel_rfl)) (fun _ _ _ h => h) (Or.inr ⟨by rfl, rfl⟩) ?_ ?_
                        rotate_left
                        · simp only [Act.put, List.setIfInBounds_toArray, List.set_cons_zero, List.set_cons_succ, i64_w, i32_w]
                          rfl
                        refine pure_ (i := 24) (N := some 195) (v := ?_) (a' := ?_) #[true, true, true, true, true, true, true, true, true, true, true, true, true, true, true, true, true, true, true, true, true, true, true, true, true] rfl rfl (any_of HT_.out (by kernel_rfl)) (fun _ _ _ h => h) (Or.inl ⟨by rfl, ?_⟩) ?_ ?_
                        rotate_left
                        · intro w'
                          go_simp
                          with_reducible rfl
                        rotate_left
                        · simp only [Act.put, List.setIfInBounds_toArray, List.set_cons_zero, List.set_cons_succ, i64_w, i32_w]
                          rfl
                        refine done_ (done_of HT_.out (by kernel_rfl)) ?_
                        replace HN := Aside0.mk (below_step HN.out (below_drew1 (Below.refl _ _)))
                        clear hS0 hHeld HT_ HW_
                        go_wp2
                        go_roundw
                        case rel => exact ⟨j + 1, by omega, by go_num, HN⟩
                        case measure => simp [intOf]; omega
                    · obtain rfl : j = 2 := by omega
                      go_wp2_with fail
                      refine (known_calls _).mono ?_
                      rintro e w10 ⟨rfl, hbk⟩
                      go_wp2
                      go_ret
                      exact ⟨rfl, below_step (below_step HB.out HN.out) hbk⟩
theorem merges_walk (a0 : Int) (a1 : Option Addr) (c1 : Nat) (x1 : List U) (a2 : Option Addr) (c2 : Nat) (x2 : List U) (w : World)
    (k0 : (Lit.int .i64 a0).wf = true) (C1 : KU.C w a1 x1.length x1) (l1 : x1.length ≤ c1) (k1 : ∀ x ∈ x1, Open.okU x) (C2 : KU.C w a2 x2.length x2) (l2 : x2.length ≤ c2) (k2 : ∀ x ∈ x2, Open.okU x) :
    Calls Try.prog 4 #[.int .i64 a0, .slice a1 x1.length c1, .slice a2 x2.length c2] w fun e w' => e = .returned (.bool true) ∧ Below w.heap.size w w' :=
  merges_calls a0 a1 c1 x1 a2 c2 x2 w C1 l1 C2 l2 (fun u hu => Open.bounds_u64' (k1 u hu).2.2) (fun u hu => Open.bounds_u64' (k2 u hu).2.2)
end Go.Proofs.Yticpifhnfpnibaa.Mem
