/- What calls of Go functions of this seat come to, as the rows need it: under the conditions that each theorem names. -/
import Derived.Test.YticpifhnfpnibaaHearPure
import Derived.Test.YticpifhnfpnibaaMOpen
namespace Go.Proofs.Yticpifhnfpnibaa.Mem
open Go.RowKit Go.Proofs.YticpifhnfpnibaaW.PrintWords Go.Proofs.YticpifhnfpnibaaW.PrintLast Go.Proofs.YticpifhnfpnibaaW.PrintMore
set_option linter.unusedVariables false
set_option linter.unusedSimpArgs false
theorem R_ch {α : Type} {d : Kd α} {e : Nat} {w w' : World} {base m : Nat} {v : Value} {xs : List α} (h : Kd.R d e w base (fun _ => True) v xs) (hc : Ch m w w') (hm : m < base) : Kd.R d e w' base (fun _ => True) v xs :=
  Kd.R_mono (Kd.R_step (Kd.R_bound h) (fun k hk hlt => hc.block k hlt (by have := hk.2.1; omega))) (fun _ _ => trivial)
theorem row_ci {w : World} {A : Option Addr} {n : Nat} {xs : List Int} (h : KI.C w A n xs) (k : Nat) (hk : k < n) : ∃ ad x, A = some ad ∧ w.cell? (ad.add k) = some (.int .i64 x) := by
  obtain ⟨ad, c, e, _, hK, hc0⟩ := Kd.C_get h (0 : Int) (k : Int) (by omega) (by omega)
  simp only [Int.toNat_natCast] at hK hc0
  have h1 : c = [.int .i64 (xs.getD k 0)] := hK
  subst h1
  have a0 := hc0 0 _ rfl
  refine ⟨ad, xs.getD k 0, e, ?_⟩
  have e1 : k * KI.sz + 0 = k := by show k * 1 + 0 = k; omega
  rw [e1] at a0
  exact a0
theorem take_snoc (xs : List U) (k : Nat) (hk : k < xs.length) : xs.take (k + 1) = xs.take k ++ [xs[k]] := List.take_succ_eq_append_getElem hk
theorem below_ch0 {m : Nat} {w w1 w2 : World} (h : Below w.heap.size w w1) (hc : Ch m w1 w2) (hw : w.heap.size ≤ m) (hm : m < w1.heap.size) : Below w.heap.size w w2 := h.trans (hc.below hw hm)
theorem mod_nat (x : Int) (L : Nat) (h0 : 0 < L) (h1 : L ≤ 60) : ∃ kk : Nat, kk < L ∧ wrap64 ((IntKind.u64.wrap x).tmod (L : Int)) = kk := by
  have hw : 0 ≤ IntKind.u64.wrap x := by
    simp only [IntKind.wrap, IntKind.bits, IntKind.signed]
    simp
    omega
  obtain ⟨y, hy⟩ := Int.eq_ofNat_of_zero_le hw
  rw [hy]
  have h2 : ((y : Int).tmod (L : Int)) = ((y % L : Nat) : Int) := by simp [Int.tmod]
  have h3 := Nat.mod_lt y h0
  rw [h2]
  exact ⟨y % L, h3, by unfold wrap64; omega⟩
theorem set_step {xs H left left' : List U} {u u' : U} (h : (∀ u ∈ H, u ∈ xs) ∧ (∀ u ∈ left, u ∈ xs) ∧ (∀ u ∈ xs, u ∈ H ∨ u ∈ left)) (hm : ∀ v, v ∈ left ↔ v = u ∨ v ∈ left') (hu : u ∈ xs) (hu' : u' ∈ xs) :
    (∀ v ∈ H ++ [u] ++ [u'], v ∈ xs) ∧ (∀ v ∈ left', v ∈ xs) ∧ (∀ v ∈ xs, v ∈ H ++ [u] ++ [u'] ∨ v ∈ left') := by
  obtain ⟨h1, h2, h3⟩ := h
  refine ⟨fun v hv => ?_, fun v hv => h2 v ((hm v).2 (Or.inr hv)), fun v hv => ?_⟩
  · simp only [List.mem_append, List.mem_singleton] at hv
    rcases hv with (hv | rfl) | rfl
    · exact h1 v hv
    · exact hu
    · exact hu'
  · rcases h3 v hv with h | h
    · exact Or.inl (by simp [h])
    · rcases (hm v).1 h with rfl | h
      · exact Or.inl (by simp)
      · exact Or.inr h
theorem C_take' {w : World} {A : Option Addr} {xs : List U} (h : KU.C w A xs.length xs) (m : Nat) (hm : m ≤ xs.length) : KU.C w A m (xs.take m) := by
  have h1 := Kd.C_take h hm
  have hl : (xs.take m).length = m := by rw [List.length_take]; omega
  rwa [hl] at h1
theorem C_drop' {w : World} {A : Option Addr} {xs : List U} {c : Nat} (h : KU.C w A xs.length xs) (m : Nat) (hm : m ≤ xs.length) (hc : xs.length ≤ c) : KU.C w (if c = m then A else A.map (·.add (m * 3))) (xs.length - m) (xs.drop m) := by
  have h1 := Kd.C_drop h hm hc
  have hl : (xs.drop m).length = xs.length - m := List.length_drop
  rwa [hl] at h1
theorem around (l : List U) (k : Nat) (hk : k < l.length) : l = l.take k ++ l[k] :: l.drop (k + 1) := by
  rw [← List.drop_eq_getElem_cons hk, List.take_append_drop]
theorem around_len (l : List U) (k : Nat) (hk : k < l.length) : (l.take k ++ l.drop (k + 1)).length + 1 = l.length := by
  rw [List.length_append, List.length_take, List.length_drop]
  omega
theorem around_mem (l : List U) (k : Nat) (hk : k < l.length) (u : U) : u ∈ l ↔ u = l[k] ∨ u ∈ l.take k ++ l.drop (k + 1) := by
  conv => lhs; rw [around l k hk]
  simp only [List.mem_append, List.mem_cons]
  constructor
  · rintro (h | h | h)
    · exact Or.inr (Or.inl h)
    · exact Or.inl h
    · exact Or.inr (Or.inr h)
  · rintro (h | h | h)
    · exact Or.inr (Or.inl h)
    · exact Or.inl h
    · exact Or.inr (Or.inr h)
def order_T18 : Bool × List (List Nat × List Nat) := (true, [([], []), ([], []), ([], []), ([1, 2], [1, 2]), ([0, 3], [0, 3]), ([], []), ([], []), ([6], [6]), ([5, 7], [5, 7]), ([4, 8, 4], [4, 8]), ([9, 9, 0, 1, 2, 3, 4, 5, 6, 7, 8, 9], [1, 5, 9])])
def order_B18 : List Nat := [0, 0, 0, 6, 15, 0, 0, 64, 224, 511, 1023]
theorem order_tab18 : rtab .any (opsOf Try.f3 18) = order_T18 := by kernel_rfl
theorem order_bits18 : waitsOk order_T18.2 order_B18 = true := by kernel_rfl
def order_T25 : Bool × List (List Nat × List Nat) := (true, [([], []), ([], []), ([0, 1], [0, 1]), ([2], [2]), ([], []), ([], []), ([4, 5], [4, 5]), ([6], [6]), ([3, 7], [3, 7])])
def order_B25 : List Nat := [0, 0, 3, 7, 0, 0, 48, 112, 255]
theorem order_tab25 : rtab .any (opsOf Try.f3 25) = order_T25 := by kernel_rfl
theorem order_bits25 : waitsOk order_T25.2 order_B25 = true := by kernel_rfl
set_option maxHeartbeats 3200000 in
set_option maxRecDepth 100000 in
theorem order_calls (s n inc : Int) (A3 : Option Addr) (c3 : Nat) (xs : List U) (A4 : Option Addr) (c4 : Nat) (nx : List Int) (w : World) (hr3 : KU.C w A3 xs.length xs) (hc3 : xs.length ≤ c3) (hr4 : KI.C w A4 nx.length nx) (hc4 : nx.length ≤ c4)
    (hinc : 0 ≤ inc) (hxs : ∀ u ∈ xs, 0 ≤ u.2.2) :
    Calls Try.prog 3 #[.int .i64 s, .int .i64 n, .int .u64 inc, .slice A3 xs.length c3, .slice A4 nx.length c4] w fun e w' => e = .returned (.bool true) ∧ Below w.heap.size w w' := by
  have HR3 := Aside0.mk hr3
  have HR4 := Aside0.mk hr4
  have hl3 : xs.length ≤ 9223372036854775807 := hr3.2.1
  have hl4 : nx.length ≤ 9223372036854775807 := hr4.2.1
  have HXS := Aside0.mk hxs
  clear hr3 hr4 hxs
  by_cases hmay : mayNew s n inc
  rotate_left
  · have H := Aside0.mk (new_nil s n inc w hmay)
    clear hmay
    go_enter Try.func3, Try.ntmps3
    go_wp2_with fail
    refine H.out.mono ?_
    rintro e w1 ⟨rfl, rfl⟩
    go_wp2_with fail
    refine H.out.mono ?_
    rintro e w2 ⟨rfl, rfl⟩
    go_wp2_with fail
    refine (known_calls _).mono ?_
    rintro e w3 ⟨rfl, hb⟩
    go_wp2
    go_ret
    exact ⟨rfl, hb⟩
  have H1 := fun w => new_calls s n inc w hmay hinc
  obtain ⟨h1, h2, h3, h4, h5⟩ := hmay
  obtain ⟨s, rfl⟩ := Int.eq_ofNat_of_zero_le h3
  obtain ⟨n, rfl⟩ := Int.eq_ofNat_of_zero_le (a := n) (by omega)
  simp only [Int.toNat_natCast] at H1
  have HN := Aside0.mk H1
  have hn0 : 0 < n := by omega
  have hn16 : n ≤ 16 := by omega
  have HG := Aside0.mk (good_first s n inc h5)
  generalize first s n inc = f0 at HN HG
  clear H1 h1 h2 h3 h4 h5
  by_cases hbig : 60 < xs.length
  · have hb1 : decide ((xs.length : Int) > 60) = true := decide_eq_true (by omega)
    go_enter Try.func3, Try.ntmps3
    go_wp2_with fail
    refine (HN.out _).mono ?_
    rintro e w1 ⟨rfl, hb, hm⟩
    have HB := Aside0.mk hb
    clear hb hm
    go_wp2_with fail
    refine (HN.out _).mono ?_
    rintro e w2 ⟨rfl, hb, hm⟩
    replace HB := Aside0.mk (below_step HB.out hb)
    clear hb hm
    go_wp2_with fail
    refine (known_calls _).mono ?_
    rintro e w3 ⟨rfl, hb⟩
    go_wp2
    go_ret
    exact ⟨rfl, below_step HB.out hb⟩
  have hb1 : decide ((xs.length : Int) > 60) = false := decide_eq_false (by omega)
  have hl60 : xs.length ≤ 60 := by omega
  clear hbig
  go_enter Try.func3, Try.ntmps3
  go_wp2_with fail
  refine (HN.out _).mono ?_
  rintro e w1 ⟨rfl, hb, hm⟩
  have HB := Aside0.mk hb
  have HM1 := Aside0.mk hm
  clear hb hm
  generalize hg1 : w.heap.size = m1 at HM1 ⊢
  have hle1 : w.heap.size ≤ m1 := Nat.le_of_eq hg1
  clear hg1
  go_wp2_with fail
  refine (HN.out _).mono ?_
  rintro e w2 ⟨rfl, hb, hm⟩
  replace HB := Aside0.mk (below_step HB.out hb)
  have hlt1 := HM1.out.lt
  replace HM1 := Aside0.mk (HM1.out.below hb)
  have HM2 := Aside0.mk hm
  clear hb hm
  generalize w1.heap.size = m2 at HM2 hlt1 ⊢
  have hle2 : w.heap.size ≤ m2 := by omega
  go_wp2
  go_loopw [42] (fun i wr => ∃ k : Nat, k ≤ xs.length ∧ i = .int .i64 k ∧ Aside0 (Below w.heap.size w wr) ∧ Aside0 (Mem wr m1 s n (hears s n f0 (xs.take k))) ∧ Aside0 (Mem wr m2 s n f0)) (fun i _ => xs.length - (intOf i).toNat)
  case atStart => exact ⟨0, Nat.zero_le _, rfl, HB, HM1, HM2⟩
  case round =>
    clear HB HM1 HM2
    obtain ⟨k, hk, rfl, HB, HM1, HM2⟩ := hrel
    by_cases hlt : k < xs.length
    · obtain ⟨ad, rfl, x0, x1, x2⟩ := row_cu (Kd.C_below HR3.out HB.out) k hlt xs[k] (List.getElem?_eq_getElem hlt)
      have HS := Aside0.mk (take_snoc xs k hlt)
      have HU := Aside0.mk (HXS.out xs[k] (List.getElem_mem hlt))
      generalize xs[k] = u at x0 x1 x2 HS HU
      go_wp2_with fail
      refine (hear_calls m1 s n _ u.1 u.2.1 u.2.2 _ HM1.out hn0 hn16 HU.out).mono ?_
      rintro e w3 ⟨rfl, hc, hm⟩
      replace HB := Aside0.mk (below_ch0 HB.out hc hle1 HM1.out.lt)
      replace HM2 := Aside0.mk (HM2.out.ch hc (by omega))
      replace HM1 := Aside0.mk (show Mem w3 m1 s n (hears s n f0 (xs.take (k + 1))) by rw [HS.out, hears_snoc]; exact hm)
      clear hc hm x0 x1 x2
      go_wp2
      go_roundw
      case rel => exact ⟨k + 1, by omega, by go_num, HB, HM1, HM2⟩
      case measure => simp [intOf]; omega
    · obtain rfl : k = xs.length := by omega
      clear hlt hk
      replace HM1 := Aside0.mk (show Mem wr m1 s n (hears s n f0 xs) by have := HM1.out; rwa [List.take_length] at this)
      go_wp2_with (first | ((with_reducible refine gate_dst (N := 52) rfl ?_); refine Kd.R_lit KU (w0 := wr) wr.heap.size 32 ?hg (N := 52) ?hd (xs := ([] : List U)) (inner := []) (ok := fun _ => True) (okp := fun _ => True) ?hr ?hp (fun _ hk => hk) trivial (Below.refl _ _) (Nat.le_refl _) (by simp) ?_; (case hd => rfl); (case hg => rfl); (case hr => first | (go_simp; done) | (go_simp; rfl)); (case hp => exact Reps.none _ _); intro v1 w5 ho hb1 hg hnew; have HO := Aside0.mk ho; have HB1 := Aside0.mk hb1; clear ho hb1 hg hnew) | ((with_reducible refine gate_builtin (b := .append) (xs := #[.tmp 52, .tmp 53]) rfl ?_); at_builtin; refine Kd.R_append_rows KU (w0 := wr) wr.heap.size rfl (.tmp 52) (.tmp 53) 23 32 (.agg #[.int .i64 0, .int .u8 0, .int .u64 0]) 24 rfl Try.underlying23 info32 rfl (by decide) (by omega) _ [] xs _ _ _ (fun _ => True) (fun _ => False) rfl rfl HO.out (Kd.C_below HR3.out (below_step HB.out HB1.out)) (fun _ _ h => h) (fun _ h => h.elim) (fun _ _ => trivial) HB1.out HB1.out.size ?aL ?_; (case aL => simp; omega); intro v2 w6 ho hb2 _ _; rw [List.nil_append] at ho; have HO2 := Aside0.mk ho; have HB2 := Aside0.mk hb2; clear ho hb2))
      have hm1r := HM1.out.lt
      have hm2r := HM2.out.lt
      replace HM1 := Aside0.mk (HM1.out.below HB2.out)
      replace HM2 := Aside0.mk (HM2.out.below HB2.out)
      replace HB := Aside0.mk (below_step HB.out HB2.out)
      have hbs := HB2.out.size
      clear HB1 HB2 HO
      generalize wr.heap.size = b0 at HO2 hm1r hm2r hbs
      go_loopw [14, 15] (fun v i wr => ∃ (left H : List U) (k : Nat), k + left.length = xs.length ∧ i = .int .i64 k ∧ Aside0 (Below w.heap.size w wr) ∧ Aside0 (Mem wr m1 s n (hears s n f0 xs)) ∧ Aside0 (Mem wr m2 s n (hears s n f0 H)) ∧ Aside0 (Kd.R KU 32 wr b0 (fun _ => True) v left) ∧ Aside0 (b0 ≤ wr.heap.size) ∧ Aside0 ((∀ u ∈ H, u ∈ xs) ∧ (∀ u ∈ left, u ∈ xs) ∧ (∀ u ∈ xs, u ∈ H ∨ u ∈ left))) (fun _ i _ => xs.length - (intOf i).toNat)
      case atStart => exact ⟨xs, [], 0, by omega, rfl, HB, HM1, HM2, HO2, ⟨hbs⟩, ⟨⟨(fun u hu => by cases hu), (fun u hu => hu), (fun u hu => Or.inr hu)⟩⟩⟩
      case round =>
        clear HB HM1 HM2 HO2
        obtain ⟨left, H, k, hkl, rfl, HB, HM1, HM2, HL, HBS, HSET⟩ := hrel
        obtain ⟨A, c, rfl, hc, hr⟩ := Kd.R_reads HL.out
        have HRL := Aside0.mk hr
        have hll : left.length ≤ 60 := by omega
        clear hr
        by_cases h0 : 0 < left.length
        · go_upto_if 63 with (fail)
          go_cut [16] (fun v wc => ∃ kk, kk < left.length ∧ v = .int .i64 kk ∧ wc = wr)
          case first =>
            by_cases hkn : k < nx.length
            · have hkn1 : decide (k < nx.length) = true := decide_eq_true hkn
              obtain ⟨ad, x, rfl, hx⟩ := row_ci (Kd.C_below HR4.out HB.out) k hkn
              go_wp2
              obtain ⟨kk, hkk, e⟩ := mod_nat x left.length h0 hll
              rw [e]
              go_meet
              case rel => exact ⟨kk, hkk, rfl, rfl⟩
            · have hkn1 : decide (k < nx.length) = false := decide_eq_false hkn
              go_wp2
              go_meet
              case rel => exact ⟨0, h0, rfl, rfl⟩
          case rest =>
            obtain ⟨kk, hkk, rfl, rfl⟩ := hcut
            have hkx : k < xs.length := by omega
            obtain ⟨ad, rfl, x0, x1, x2⟩ := row_cu HRL.out kk hkk left[kk] (List.getElem?_eq_getElem hkk)
            have HU := Aside0.mk (HXS.out left[kk] (HSET.out.2.1 _ (List.getElem_mem hkk)))
            have HMEM := Aside0.mk (fun u => around_mem left kk hkk u)
            have hul : left[kk] ∈ xs := HSET.out.2.1 _ (List.getElem_mem hkk)
            have HUL := Aside0.mk hul
            clear hul
            generalize left[kk] = u at x0 x1 x2 HU HMEM HUL
            go_wp2_with fail
            refine (hear_calls m2 s n _ u.1 u.2.1 u.2.2 _ HM2.out hn0 hn16 HU.out).mono ?_
            rintro e w4 ⟨rfl, hch, hm⟩
            have hb0 : m1 < b0 ∧ m2 < b0 := ⟨hm1r, hm2r⟩
            replace HB := Aside0.mk (below_ch0 HB.out hch hle2 HM2.out.lt)
            replace HM1 := Aside0.mk (HM1.out.ch hch (by omega))
            replace HM2 := Aside0.mk (show Mem w4 m2 s n (hears s n f0 (H ++ [u])) by rw [hears_snoc]; exact hm)
            replace HL := Aside0.mk (R_ch HL.out hch hm2r)
            replace HBS := Aside0.mk (Nat.le_trans HBS.out hch.size)
            clear hch hm x0 x1 x2 HRL
            obtain ⟨bd, rfl, x0, x1, x2⟩ := row_cu (Kd.C_below HR3.out HB.out) k hkx xs[k] (List.getElem?_eq_getElem hkx)
            have HU2 := Aside0.mk (HXS.out xs[k] (List.getElem_mem hkx))
            have HUL2 := Aside0.mk (show xs[k] ∈ xs from List.getElem_mem hkx)
            generalize xs[k] = u' at x0 x1 x2 HU2 HUL2
            go_wp2_with fail
            refine (hear_calls m2 s n _ u'.1 u'.2.1 u'.2.2 _ HM2.out hn0 hn16 HU2.out).mono ?_
            rintro e w5 ⟨rfl, hch, hm⟩
            replace HB := Aside0.mk (below_ch0 HB.out hch hle2 HM2.out.lt)
            replace HM1 := Aside0.mk (HM1.out.ch hch (by omega))
            replace HM2 := Aside0.mk (show Mem w5 m2 s n (hears s n f0 (H ++ [u] ++ [u'])) by rw [hears_snoc]; exact hm)
            replace HL := Aside0.mk (R_ch HL.out hch hm2r)
            replace HBS := Aside0.mk (Nat.le_trans HBS.out hch.size)
            clear hch hm x0 x1 x2 hb0
            obtain ⟨_, _, hr⟩ := Kd.R_reads' HL.out
            have HRL := Aside0.mk hr
            clear hr
            have hkc : kk ≤ c := by omega
            have hkc2 : kk + 1 ≤ left.length := by omega
            go_wp2_with fail
            have hS0 := below_drew1 (Below.refl w5.heap.size w5)
            refine start_ (n := 11) (S := fun w' => Below w5.heap.size w5 w') (ds := []) #[false, false, false, false, false, false, false, false, false, false, false] (by kernel_rfl) rfl rfl (by exact hS0) (fun hHeld => ?_)
            refine with_tabW order_tab18 order_bits18 (fun HT_ HW_ => ?_)
            refine pure_ (i := 1) (N := some 87) (v := ?_) (a' := ?_) #[false, true, false, false, false, false, false, false, false, false, false] rfl rfl (any_of HT_.out (by kernel_rfl)) (fun _ _ _ h => h) (Or.inl ⟨by rfl, ?_⟩) ?_ ?_
            rotate_left
            · intro w'
              go_simp
              with_reducible rfl
            rotate_left
            · simp only [Act.put, List.setIfInBounds_toArray, List.set_cons_zero, List.set_cons_succ, i64_w, i32_w]
              rfl
            refine pure_ (i := 2) (N := some 88) (v := ?_) (a' := ?_) #[false, true, true, false, false, false, false, false, false, false, false] rfl rfl (any_of HT_.out (by kernel_rfl)) (fun _ _ _ h => h) (Or.inl ⟨by rfl, ?_⟩) ?_ ?_
            rotate_left
            · intro w'
              go_simp
              with_reducible rfl
            rotate_left
            · simp only [Act.put, List.setIfInBounds_toArray, List.set_cons_zero, List.set_cons_succ, i64_w, i32_w]
              rfl
            refine pure_ (i := 3) (N := some 89) (v := ?_) (a' := ?_) #[false, true, true, true, false, false, false, false, false, false, false] rfl rfl (any_of HT_.out (by kernel_rfl)) (fun _ _ _ h => h) (Or.inl ⟨by rfl, ?_⟩) ?_ ?_
            rotate_left
            · intro w'
              go_simp
              with_reducible rfl
            rotate_left
            · simp only [Act.put, List.setIfInBounds_toArray, List.set_cons_zero, List.set_cons_succ, i64_w, i32_w]
              rfl
            refine pure_ (i := 5) (N := some 91) (v := ?_) (a' := ?_) #[false, true, true, true, false, true, false, false, false, false, false] rfl rfl (any_of HT_.out (by kernel_rfl)) (fun _ _ _ h => h) (Or.inl ⟨by rfl, ?_⟩) ?_ ?_
            rotate_left
            · intro w'
              go_simp
              with_reducible rfl
            rotate_left
            · simp only [Act.put, List.setIfInBounds_toArray, List.set_cons_zero, List.set_cons_succ, i64_w, i32_w]
              rfl
            refine pure_ (i := 6) (N := some 92) (v := ?_) (a' := ?_) #[false, true, true, true, false, true, true, false, false, false, false] rfl rfl (any_of HT_.out (by kernel_rfl)) (fun _ _ _ h => h) (Or.inl ⟨by rfl, ?_⟩) ?_ ?_
            rotate_left
            · intro w'
              go_simp
              with_reducible rfl
            rotate_left
            · simp only [Act.put, List.setIfInBounds_toArray, List.set_cons_zero, List.set_cons_succ, i64_w, i32_w]
              rfl
            refine pure_ (i := 7) (N := some 93) (v := ?_) (a' := ?_) #[false, true, true, true, false, true, true, true, false, false, false] rfl rfl (any_of HT_.out (by kernel_rfl)) (fun _ _ _ h => h) (Or.inl ⟨by rfl, ?_⟩) ?_ ?_
            rotate_left
            · intro w'
              go_simp
              with_reducible rfl
            rotate_left
            · simp only [Act.put, List.setIfInBounds_toArray, List.set_cons_zero, List.set_cons_succ, i64_w, i32_w]
              rfl
            refine pure_ (i := 8) (N := some 94) (v := ?_) (a' := ?_) #[false, true, true, true, false, true, true, true, true, false, false] rfl rfl (any_of HT_.out (by kernel_rfl)) (fun _ _ _ h => h) (Or.inl ⟨by rfl, ?_⟩) ?_ ?_
            rotate_left
            · intro w'
              go_simp
              rw [show wrap64 ((kk : Int) + 1) = ((kk + 1 : Nat) : Int) by unfold wrap64; omega, if_pos (by omega)]
              try simp only [Int.toNat_natCast]
              try with_reducible rfl
            rotate_left
            · simp only [Act.put, List.setIfInBounds_toArray, List.set_cons_zero, List.set_cons_succ, i64_w, i32_w]
              rfl
            refine one_ (i := 0) (N := some 86) #[true, true, true, true, false, true, true, true, true, false, false] rfl rfl (one_of HT_.out (by kernel_rfl)) (by decide) (fun K hK => ?_)
            refine Kd.R_lit_step KU (w0 := w5) w5.heap.size 32 (by rfl) (N := 86) rfl (xs := ([] : List U)) (inner := []) (ok := fun _ => True) (okp := fun _ => True) ?hr (Reps.none _ _) (fun _ hk => hk) trivial hHeld hHeld.size (by simp) ?_
            case hr => first | (go_simp; done) | (go_simp; rfl)
            intro v1 w6 ho hb2 _ _
            have HO := Aside0.mk ho
            clear ho
            refine hK.out _ _ (by exact hb2) (fun hHeld => ?_)
            clear hK K
            refine norm_ (a' := ?_) ?_ ?_
            rotate_left
            · first
              | (show Act.put _ (some 86) _ = _; simp only [Act.put, List.setIfInBounds_toArray, List.set_cons_zero, List.set_cons_succ, i64_w, i32_w]; rfl)
              | rfl
            refine one_ (i := 4) (N := some 90) #[true, true, true, true, true, true, true, true, true, false, false] rfl rfl (one_of HT_.out (by kernel_rfl)) (by decide) (fun K hK => ?_)
            refine Kd.R_append_rows_step KU (w0 := w5) w5.heap.size (by rfl) (.tmp 86) (.tmp 89) 23 32 (.agg #[.int .i64 0, .int .u8 0, .int .u64 0]) 24 rfl Try.underlying23 info32 rfl (by decide) (by omega) _ [] (left.take kk) _ _ _ (fun _ => True) (fun _ => False) rfl rfl HO.out (C_take' (Kd.C_below HRL.out hHeld) kk (by omega)) (fun _ _ h => h) (fun _ h => h.elim) (fun _ _ => trivial) hHeld hHeld.size ?aL ?_
            case aL => simp; omega
            intro v2 w7 ho hb2 _ _
            rw [List.nil_append] at ho
            replace HO := Aside0.mk ho
            clear ho
            refine hK.out _ _ (by exact hb2) (fun hHeld => ?_)
            clear hK K
            refine norm_ (a' := ?_) ?_ ?_
            rotate_left
            · first
              | (show Act.put _ (some 90) _ = _; simp only [Act.put, List.setIfInBounds_toArray, List.set_cons_zero, List.set_cons_succ, i64_w, i32_w]; rfl)
              | rfl
            refine one_ (i := 9) (N := some 95) #[true, true, true, true, true, true, true, true, true, true, false] rfl rfl (one_of HT_.out (by kernel_rfl)) (by decide) (fun K hK => ?_)
            refine Kd.R_append_rows_step KU (w0 := w5) w5.heap.size (by rfl) (.tmp 90) (.tmp 94) 23 32 (.agg #[.int .i64 0, .int .u8 0, .int .u64 0]) 24 rfl Try.underlying23 info32 rfl (by decide) (by omega) _ (left.take kk) (left.drop (kk + 1)) _ _ _ (fun _ => True) (fun _ => False) rfl rfl HO.out (C_drop' (c := c) (Kd.C_below HRL.out hHeld) (kk + 1) (by omega) hc) (fun _ _ h => h) (fun _ h => h.elim) (fun _ _ => trivial) hHeld hHeld.size ?aL ?_
            case aL => have := List.length_take_le kk left; omega
            intro v3 w8 ho hb2 _ _
            replace HO := Aside0.mk ho
            clear ho
            refine hK.out _ _ (by exact hb2) (fun hHeld => ?_)
            clear hK K
            refine norm_ (a' := ?_) ?_ ?_
            rotate_left
            · first
              | (show Act.put _ (some 95) _ = _; simp only [Act.put, List.setIfInBounds_toArray, List.set_cons_zero, List.set_cons_succ, i64_w, i32_w]; rfl)
              | rfl
            refine pure_ (i := 10) (N := some 14) (v := ?_) (a' := ?_) #[true, true, true, true, true, true, true, true, true, true, true] rfl rfl (any_of HT_.out (by kernel_rfl)) (fun _ _ _ h => h) (Or.inl ⟨by rfl, ?_⟩) ?_ ?_
            rotate_left
            · intro w'
              go_simp
              with_reducible rfl
            rotate_left
            · simp only [Act.put, List.setIfInBounds_toArray, List.set_cons_zero, List.set_cons_succ, i64_w, i32_w]
              rfl
            refine done_ (done_of HT_.out (by kernel_rfl)) ?_
            have HO' := Aside0.mk (Kd.R_lower HO.out HBS.out)
            have hal := around_len left kk hkk
            replace HB := Aside0.mk (below_step HB.out hHeld)
            replace HM1 := Aside0.mk (HM1.out.below hHeld)
            replace HM2 := Aside0.mk (HM2.out.below hHeld)
            replace HBS := Aside0.mk (Nat.le_trans HBS.out hHeld.size)
            clear HO HL HRL hS0 HT_ HW_ hHeld
            generalize left.take kk ++ left.drop (kk + 1) = left' at HO' hal HMEM
            go_wp2
            go_roundw
            case rel => exact ⟨left', H ++ [u] ++ [u'], k + 1, by omega, by go_num, HB, HM1, HM2, HO', HBS, ⟨set_step HSET.out HMEM.out HUL.out HUL2.out⟩⟩
            case measure => simp [intOf]; omega
        · obtain rfl : left = [] := List.length_eq_zero_iff.1 (by omega)
          clear h0 hll HRL hkl HL
          have HEQ := Aside0.mk (hears_same (s := s) HG.out H xs (fun u hu => (HSET.out.2.2 u hu).resolve_right (by simp)) HSET.out.1)
          replace HM2 := Aside0.mk (show Mem wr m2 s n (hears s n f0 xs) by rw [← HEQ.out]; exact HM2.out)
          clear HEQ HSET HG
          generalize hears s n f0 xs = fb at HM1 HM2
          go_wp2_with fail
          refine (all_calls m1 s n fb _ HM1.out hn16).mono ?_
          rintro e w3 ⟨v, rfl, ho, hb⟩
          obtain ⟨A, c, rfl, hc, hr⟩ := Kd.R_reads ho
          rw [lst_len] at hc hr ⊢
          have HX := Aside0.mk hr
          replace HB := Aside0.mk (below_step HB.out hb)
          replace HM2 := Aside0.mk (HM2.out.below hb)
          clear ho hb hr
          go_wp2_with fail
          refine (all_calls m2 s n fb _ HM2.out hn16).mono ?_
          rintro e w4 ⟨v, rfl, ho, hb⟩
          obtain ⟨A', c', rfl, hc', hr⟩ := Kd.R_reads ho
          rw [lst_len] at hc' hr ⊢
          have HY := Aside0.mk hr
          replace HB := Aside0.mk (below_step HB.out hb)
          replace HX := Aside0.mk (Kd.C_below HX.out hb)
          clear ho hb hr HM1 HM2
          go_wp2
          go_loopw [107] (fun i wr => ∃ j : Nat, j ≤ n ∧ i = .int .i64 j ∧ Aside0 (Below w.heap.size w wr) ∧ Aside0 (KU.C wr A n (lst fb n)) ∧ Aside0 (KU.C wr A' n (lst fb n))) (fun i _ => n - (intOf i).toNat)
          case atStart => exact ⟨0, Nat.zero_le _, rfl, HB, HX, HY⟩
          case round =>
            clear HB HX HY
            obtain ⟨j, hj, rfl, HB, HX, HY⟩ := hrel
            by_cases hj1 : j < n
            · obtain ⟨ad, rfl, _, _, _⟩ := row_cu HX.out j hj1 (fb j) (by simp [lst, hj1])
              obtain ⟨bd, rfl, _, _, _⟩ := row_cu HY.out j hj1 (fb j) (by simp [lst, hj1])
              go_wp2_with fail
              have hS0 := below_drew1 (Below.refl wr.heap.size wr)
              refine start_ (n := 9) (S := fun w' => Below wr.heap.size wr w') (ds := []) #[false, false, false, false, false, false, false, false, false] (by kernel_rfl) rfl rfl (by exact hS0) (fun hHeld => ?_)
              refine with_tabW order_tab25 order_bits25 (fun HT_ HW_ => ?_)
              refine pure_ (i := 0) (N := some 110) (v := ?_) (a' := ?_) #[true, false, false, false, false, false, false, false, false] rfl rfl (any_of HT_.out (by kernel_rfl)) (fun _ _ _ h => h) (Or.inl ⟨by rfl, ?_⟩) ?_ ?_
              rotate_left
              · intro w'
                go_simp
                with_reducible rfl
              rotate_left
              · simp only [Act.put, List.setIfInBounds_toArray, List.set_cons_zero, List.set_cons_succ, i64_w, i32_w]
                rfl
              refine pure_ (i := 1) (N := some 111) (v := ?_) (a' := ?_) #[true, true, false, false, false, false, false, false, false] rfl rfl (any_of HT_.out (by kernel_rfl)) (fun _ _ _ h => h) (Or.inl ⟨by rfl, ?_⟩) ?_ ?_
              rotate_left
              · intro w'
                go_simp
                with_reducible rfl
              rotate_left
              · simp only [Act.put, List.setIfInBounds_toArray, List.set_cons_zero, List.set_cons_succ, i64_w, i32_w]
                rfl
              refine pure_ (i := 2) (N := some 112) (v := ?_) (a' := ?_) #[true, true, true, false, false, false, false, false, false] rfl rfl (any_of HT_.out (by kernel_rfl)) (fun _ _ _ h => h) (Or.inl ⟨by rfl, ?_⟩) ?_ ?_
              rotate_left
              · intro w'
                go_simp
                with_reducible rfl
              rotate_left
              · simp only [Act.put, List.setIfInBounds_toArray, List.set_cons_zero, List.set_cons_succ, i64_w, i32_w]
                rfl
              refine take_ (i := 3) (N := some 113) (v := ?_) (a' := ?_) #[true, true, true, true, false, false, false, false, false] rfl rfl (take_ofW HT_.out HW_.out (by kernel_rfl)) (fun _ _ _ h => h) (Or.inl ⟨by rfl, ?_⟩) hHeld ?_ ?_
              rotate_left
              · intro w' hSt
                obtain ⟨ad, e1, x0, x1, x2⟩ := row_cu (Kd.C_below HX.out hSt) j hj1 (fb j) (by simp [lst, hj1])
                obtain ⟨bd, e2, y0, y1, y2⟩ := row_cu (Kd.C_below HY.out hSt) j hj1 (fb j) (by simp [lst, hj1])
                cases e1
                cases e2
                go_simp
                with_reducible rfl
              rotate_left
              · simp only [Act.put, List.setIfInBounds_toArray, List.set_cons_zero, List.set_cons_succ, i64_w, i32_w]
                rfl
              refine pure_ (i := 4) (N := some 114) (v := ?_) (a' := ?_) #[true, true, true, true, true, false, false, false, false] rfl rfl (any_of HT_.out (by kernel_rfl)) (fun _ _ _ h => h) (Or.inl ⟨by rfl, ?_⟩) ?_ ?_
              rotate_left
              · intro w'
                go_simp
                with_reducible rfl
              rotate_left
              · simp only [Act.put, List.setIfInBounds_toArray, List.set_cons_zero, List.set_cons_succ, i64_w, i32_w]
                rfl
              refine pure_ (i := 5) (N := some 115) (v := ?_) (a' := ?_) #[true, true, true, true, true, true, false, false, false] rfl rfl (any_of HT_.out (by kernel_rfl)) (fun _ _ _ h => h) (Or.inl ⟨by rfl, ?_⟩) ?_ ?_
              rotate_left
              · intro w'
                go_simp
                with_reducible rfl
              rotate_left
              · simp only [Act.put, List.setIfInBounds_toArray, List.set_cons_zero, List.set_cons_succ, i64_w, i32_w]
                rfl
              refine pure_ (i := 6) (N := some 116) (v := ?_) (a' := ?_) #[true, true, true, true, true, true, true, false, false] rfl rfl (any_of HT_.out (by kernel_rfl)) (fun _ _ _ h => h) (Or.inl ⟨by rfl, ?_⟩) ?_ ?_
              rotate_left
              · intro w'
                go_simp
                with_reducible rfl
              rotate_left
              · simp only [Act.put, List.setIfInBounds_toArray, List.set_cons_zero, List.set_cons_succ, i64_w, i32_w]
                rfl
              refine take_ (i := 7) (N := some 117) (v := ?_) (a' := ?_) #[true, true, true, true, true, true, true, true, false] rfl rfl (take_ofW HT_.out HW_.out (by kernel_rfl)) (fun _ _ _ h => h) (Or.inl ⟨by rfl, ?_⟩) hHeld ?_ ?_
              rotate_left
              · intro w' hSt
                obtain ⟨ad, e1, x0, x1, x2⟩ := row_cu (Kd.C_below HX.out hSt) j hj1 (fb j) (by simp [lst, hj1])
                obtain ⟨bd, e2, y0, y1, y2⟩ := row_cu (Kd.C_below HY.out hSt) j hj1 (fb j) (by simp [lst, hj1])
                cases e1
                cases e2
                go_simp
                with_reducible rfl
              rotate_left
              · simp only [Act.put, List.setIfInBounds_toArray, List.set_cons_zero, List.set_cons_succ, i64_w, i32_w]
                rfl
              refine pure_ (i := 8) (N := some 118) (v := ?_) (a' := ?_) #[true, true, true, true, true, true, true, true, true] rfl rfl (any_of HT_.out (by kernel_rfl)) (fun _ _ _ h => h) (Or.inl ⟨by rfl, ?_⟩) ?_ ?_
              rotate_left
              · intro w'
                go_simp
                with_reducible rfl
              rotate_left
              · simp only [Act.put, List.setIfInBounds_toArray, List.set_cons_zero, List.set_cons_succ, i64_w, i32_w]
                rfl
              refine done_ (done_of HT_.out (by kernel_rfl)) ?_
              have hD := below_drew1 (Below.refl wr.heap.size wr)
              replace HB := Aside0.mk (below_step HB.out hD)
              replace HX := Aside0.mk (Kd.C_below HX.out hD)
              replace HY := Aside0.mk (Kd.C_below HY.out hD)
              clear hS0 hHeld HT_ HW_ hD
              go_wp2
              go_roundw
              case rel => exact ⟨j + 1, by omega, by go_num, HB, HX, HY⟩
              case measure => simp [intOf]; omega
            · obtain rfl : j = n := by omega
              clear hj1 hj
              go_wp2_with fail
              refine (known_calls _).mono ?_
              rintro e w9 ⟨rfl, hbk⟩
              go_wp2
              go_ret
              exact ⟨rfl, below_step HB.out hbk⟩
theorem order_walk (a0 a1 a2 : Int) (a3 : Option Addr) (c3 : Nat) (x3 : List U) (a4 : Option Addr) (c4 : Nat) (x4 : List Int) (w : World)
    (k0 : (Lit.int .i64 a0).wf = true) (k1 : (Lit.int .i64 a1).wf = true) (k2 : (Lit.int .u64 a2).wf = true) (C3 : KU.C w a3 x3.length x3) (l3 : x3.length ≤ c3) (k3 : ∀ x ∈ x3, Open.okU x) (C4 : KI.C w a4 x4.length x4) (l4 : x4.length ≤ c4) (k4 : ∀ x ∈ x4, (Lit.int .i64 x).wf = true) :
    Calls Try.prog 3 #[.int .i64 a0, .int .i64 a1, .int .u64 a2, .slice a3 x3.length c3, .slice a4 x4.length c4] w fun e w' => e = .returned (.bool true) ∧ Below w.heap.size w w' :=
  order_calls a0 a1 a2 a3 c3 x3 a4 c4 x4 w C3 l3 C4 l4 (Open.bounds_u64' k2) (fun u hu => Open.bounds_u64' (k3 u hu).2.2)
end Go.Proofs.Yticpifhnfpnibaa.Mem
