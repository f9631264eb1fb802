/- What calls of Go functions of this seat come to, as the rows need it: under the conditions that each theorem names. -/
import Derived.Test.YtneindaodfiabaaDoorRdr
import Derived.Test.YtneindaodfiabaaDoorMoreC
import Derived.Laws.CopyOwn
import Derived.Laws.Tables
namespace Go.Proofs.YtneindaodfiabaaDoor.Prog6
open Go.RowKit Go.Proofs.YtneindaodfiabaaDoorW.PrintWords Go.Proofs.YtneindaodfiabaaDoorW.PrintLast Go.Proofs.YtneindaodfiabaaDoorW.PrintMore
set_option linter.unusedVariables false
set_option linter.unusedSimpArgs false
open Go.Proofs.YtneindaodfiabaaDoor.Hand (uintL uint_calls bytesL bytes_calls uintL_ok uintL_err U3 bytesL_eq ruint_calls rbytes_calls)
/-- An instruction that is read. -/
def insR (l : List Int) (s : Int × Bool) : Ins × (Int × Bool) :=
  (((numR l s 11).1, (textR l (numR l s 11).2).1, (textR l (textR l (numR l s 11).2).2).1, (textR l (textR l (textR l (numR l s 11).2).2).2).1,
    (numR l (textR l (textR l (textR l (numR l s 11).2).2).2).2 2000).1, (numR l (numR l (textR l (textR l (textR l (numR l s 11).2).2).2).2 2000).2 2000).1),
   (numR l (numR l (textR l (textR l (textR l (numR l s 11).2).2).2).2 2000).2 2000).2)
def insK (l : List Int) (s : Int × Bool) : Nat → List Ins × (Int × Bool)
  | 0 => ([], s)
  | k + 1 => ((insK l s k).1 ++ [(insR l (insK l s k).2).1], (insR l (insK l s k).2).2)
theorem insK_len (l : List Int) (s : Int × Bool) : ∀ k, (insK l s k).1.length = k
  | 0 => rfl
  | k + 1 => by simp [insK, insK_len l s k]
/-- What Read tells. -/
def readP (l : List Int) : Option (List Ins) :=
  if (insK l (numR l (0, false) 30).2 (numR l (0, false) 30).1.toNat).2.2 = true ∨ (insK l (numR l (0, false) 30).2 (numR l (0, false) 30).1.toNat).2.1 ≠ l.length ∨ mayP (insK l (numR l (0, false) 30).2 (numR l (0, false) 30).1.toNat).1 = false then none
  else some (insK l (numR l (0, false) 30).2 (numR l (0, false) 30).1.toNat).1
theorem numR_rng (l : List Int) (s : Int × Bool) (most : Int) (hb : rbytes l) (h0 : 0 ≤ most) : 0 ≤ (numR l s most).1 ∧ (numR l s most).1 ≤ most := by
  unfold numR
  split
  · exact ⟨Int.le_refl _, h0⟩
  · rename_i h
    have h1 : (uintL l s.1).2.2 = 0 := by
      exact Classical.byContradiction fun h2 => h (.inl h2)
    have := (uintL_ok l s.1 hb h1).1
    refine ⟨this, ?_⟩
    exact Int.not_lt.1 fun h2 => h (.inr (.inl h2))
theorem R_ch {α : Type} {d : Kd α} {e b : Nat} {ok : Nat → Prop} {w w' : World} {v : Value} {xs : List α} {g t : Nat} {cells : Array Value} (h : d.R e w b ok v xs) (hg : w.heap[g]? = some (.cells cells t (0, 0))) (ht : ∀ q, q ∈ e :: d.E → q ≠ t) (hc : Ch g w w') : d.R e w' b ok v xs :=
  Kd.R_mono (Kd.R_step (Kd.R_types h hg ht) (fun k hk hlt => hc.block k hlt hk.2)) (fun _ hk => hk.1)
theorem R_set {α : Type} {d : Kd α} {e b : Nat} {ok : Nat → Prop} {w : World} {v : Value} {xs : List α} {g : Nat} {x : Value} (h : d.R e w b ok v xs) (hE : d.E = []) (hne : some g ≠ v.ownBlock) (j : Nat) : d.R e (w.setCell ⟨g, j, none⟩ x) b ok v xs :=
  Kd.R_mono (Kd.R_far (p := ⟨g, j, none⟩) (Kd.R_far1 h hE hne) (fun k hk => hk.2) x) (fun _ hk => hk.1)
theorem ch_keep {g h : Nat} {w w' : World} {o : Obj} (hh : w.heap[h]? = some o) (hc : Ch g w w') (hne : h ≠ g) : w'.heap[h]? = some o := (hc.block h (Array.getElem?_eq_some_iff.1 hh).1 hne).trans hh
theorem R_chn {α : Type} {d : Kd α} {e b : Nat} {ok : Nat → Prop} {w w' : World} {v : Value} {xs : List α} {q : Nat} (h : d.R e w b ok v xs) (hE : d.E = []) (hne : some q ≠ v.ownBlock) (hc : Ch q w w') : d.R e w' b ok v xs :=
  Kd.R_mono (Kd.R_step (Kd.R_far1 h hE hne) (fun k hk hlt => hc.block k hlt hk.2)) (fun _ hk => hk.1)
theorem ne_own {α : Type} {d : Kd α} {e b : Nat} {ok : Nat → Prop} {w : World} {v : Value} {xs : List α} (h : d.R e w b ok v xs) : some w.heap.size ≠ v.ownBlock := fun e_ => Nat.lt_irrefl _ (Kd.R_lt h _ e_.symm)
theorem KP_M (w : World) (b : Nat) (ok : Nat → Prop) (x : Ins) : KP.M w b ok x [.int .u8 x.1, .string x.2.1, .string x.2.2.1, .string x.2.2.2.1, .int .i64 x.2.2.2.2.1, .int .i64 x.2.2.2.2.2] :=
  ⟨[.int .u8 x.1], _, rfl, rfl, [.string x.2.1], _, rfl, rfl, [.string x.2.2.1], _, rfl, rfl, [.string x.2.2.2.1], _, rfl, rfl, [.int .i64 x.2.2.2.2.1], _, rfl, rfl, rfl⟩
theorem infoI6 : (Tryd.prog.info? 26).map (·.size) = some 6 := by kernel_rfl
theorem rd_over {w w1 : World} {b g : Nat} {ok : Nat → Prop} {v : Value} {xs : List Ins} {A : Option Addr} {n c : Nat} {s : Int × Bool} (h : Kd.R KP 26 w b ok v xs) (hr : Rd w g A n c s) (hg : w.grownBy w1 v.ownBlock) : Rd w1 g A n c s := by
  unfold Rd at hr ⊢
  rw [hg.block g (Array.getElem?_eq_some_iff.1 hr).1 (Kd.R_ne h hr (by decide))]
  exact hr
abbrev cI (x : Ins) : Array Value := #[.int .u8 x.1, .string x.2.1, .string x.2.2.1, .string x.2.2.2.1, .int .i64 x.2.2.2.2.1, .int .i64 x.2.2.2.2.2]
def ReadPost (l : List Int) (w : World) (e : Ending) (w' : World) : Prop := ∃ v er, e = .returned (.tuple #[v, .int .i64 er]) ∧ (readP l = none → er = 5 ∧ v = .slice none 0 0) ∧ (∀ p, readP l = some p → er = 0 ∧ Kd.R KP 26 w' w.heap.size (fun _ => True) v p) ∧ Below w.heap.size w w'
theorem textR_sz (l : List Int) (s : Int × Bool) (hl : l.length < 140737488355300) : (textR l s).1.size ≤ 9223372036854775807 := by
  unfold textR
  split
  · show (⟨#[]⟩ : ByteArray).size ≤ _
    decide
  · show (strOfNums (bytesL l s.1 40).1).size ≤ _
    rw [strOfNums_size, bytesL_eq]
    split
    · simp
    · split
      · simp
      · split
        · simp
        · simp only [List.length_take, List.length_drop]; omega
theorem szI (l : List Int) (s : Int × Bool) (hl : l.length < 140737488355300) : szOk (insR l s).1 := ⟨textR_sz l _ hl, textR_sz l _ hl, textR_sz l _ hl⟩
theorem insK_sz (l : List Int) (s : Int × Bool) (hl : l.length < 140737488355300) : ∀ k, ∀ x ∈ (insK l s k).1, szOk x
  | 0, x, hx => by cases hx
  | k + 1, x, hx => by
    rcases List.mem_append.1 hx with h | h
    · exact insK_sz l s hl k x h
    · obtain rfl : x = _ := by simpa using h
      exact szI l _ hl
set_option maxHeartbeats 3200000 in
set_option maxRecDepth 100000 in
theorem read_calls (A : Option Addr) (c : Nat) (l : List Int) (w : World) (hr : RBy.C w A l.length l) (hc : l.length ≤ c) (hb : rbytes l) (hl : l.length < 140737488355300) (hT : Tab w) :
    Calls Tryd.prog 10 #[.slice A l.length c] w (ReadPost l w) := by
  have HR := Aside0.mk hr
  have HY := Aside0.mk hb
  have HLL := Aside0.mk hl
  have HTAB := Aside0.mk hT
  have hl63 : l.length ≤ 9223372036854775807 := hr.2.1
  have HG0 := Aside0.mk (show Rd (w.alloc (.cells #[.slice A l.length c, .int .i64 0, .bool false] 44)) w.heap.size A l.length c (0, false) from heap_new _ _)
  have HB0 := Aside0.mk (show Below w.heap.size w (w.alloc (.cells #[.slice A l.length c, .int .i64 0, .bool false] 44)) from (Below.refl _ _).alloc (Nat.le_refl _) _)
  have HNR := Aside0.mk (numR_rng l (0, false) 30 hb (by omega))
  have HRP := Aside0.mk (show readP l = if (insK l (numR l (0, false) 30).2 (numR l (0, false) 30).1.toNat).2.2 = true ∨ (insK l (numR l (0, false) 30).2 (numR l (0, false) 30).1.toNat).2.1 ≠ l.length ∨ mayP (insK l (numR l (0, false) 30).2 (numR l (0, false) 30).1.toNat).1 = false then none
    else some (insK l (numR l (0, false) 30).2 (numR l (0, false) 30).1.toNat).1 from rfl)
  clear hr hb hl hT
  go_enter Tryd.func10, Tryd.ntmps10
  go_wp2_with fail
  generalize hw1 : w.alloc (.cells #[.slice A l.length c, .int .i64 0, .bool false] 44) = w1 at HG0 HB0 ⊢
  have HW1 := Aside0.mk hw1
  clear hw1
  refine (number_calls w.heap.size A c l (0, false) 30 _ HG0.out (Kd.C_below HR.out HB0.out) hc HY.out (by omega)).mono ?_
  rintro e w2 ⟨rfl, hrd, hch⟩
  obtain ⟨n, s0, hn⟩ : ∃ n s0, numR l (0, false) 30 = (n, s0) := ⟨_, _, rfl⟩
  rw [hn] at hrd HNR HRP ⊢
  have HRD := Aside0.mk (show Rd w2 w.heap.size A l.length c s0 from hrd)
  have HB2 := Aside0.mk (show Below w.heap.size w w2 from HB0.out.trans (hch.below (Nat.le_refl _) (Array.getElem?_eq_some_iff.1 HG0.out).1))
  clear hrd hch hn HG0 HB0 HW1
  obtain ⟨N, rfl⟩ := Int.eq_ofNat_of_zero_le (show 0 ≤ n from HNR.out.1)
  have hN30 : N ≤ 30 := by have := HNR.out.2; omega
  replace HRP := Aside0.mk (show readP l = if (insK l s0 N).2.2 = true ∨ (insK l s0 N).2.1 ≠ l.length ∨ mayP (insK l s0 N).1 = false then none else some (insK l s0 N).1 from HRP.out)
  go_wp2_with fail
  obtain ⟨g, hg⟩ : ∃ g, g = w.heap.size := ⟨_, rfl⟩
  have HGE := Aside0.mk hg
  rw [← hg] at HRD ⊢
  clear hg
  go_loopw [5, 12] (fun v i wr => ∃ k : Nat, k ≤ N ∧ i = .int .i64 (k : Int) ∧ Aside0 (Rd wr g A l.length c (insK l s0 k).2) ∧ Aside0 (Kd.R KP 26 wr w.heap.size (fun _ => True) v (insK l s0 k).1) ∧ Aside0 (Below w.heap.size w wr)) (fun _ i _ => N - (intOf i).toNat)
  case atStart => exact ⟨0, Nat.zero_le _, rfl, HRD, ⟨Kd.R_nil _ _ _ _ _⟩, HB2⟩
  case round =>
    clear HRD HB2
    obtain ⟨k, hk, rfl, HRD, HO, HB⟩ := hrel
    have hkN9 : (k : Int) + 1 ≤ 31 := by omega
    by_cases hlt : k < N
    · have e1 : decide ((k : Int) < (N : Int)) = true := decide_eq_true (by omega)
      have e1b : decide (k < N) = true := decide_eq_true hlt
      have HKS := Aside0.mk (show insK l s0 (k + 1) = ((insK l s0 k).1 ++ [(insR l (insK l s0 k).2).1], (insR l (insK l s0 k).2).2) from rfl)
      have HKL := Aside0.mk (show (insK l s0 k).1.length = k from insK_len l s0 k)
      obtain ⟨p, s, hps⟩ : ∃ p s, insK l s0 k = (p, s) := ⟨_, _, rfl⟩
      rw [hps] at HRD HO HKS HKL
      replace HRD := Aside0.mk (show Rd wr g A l.length c s from HRD.out)
      replace HO := Aside0.mk (show Kd.R KP 26 wr w.heap.size (fun _ => True) _ p from HO.out)
      replace HKL := Aside0.mk (show p.length = k from HKL.out)
      clear hps
      have hgw : w.heap.size ≤ g := Nat.le_of_eq HGE.out.symm
      have HGW := Aside0.mk hgw
      clear hgw
      go_wp2_with fail
      refine (number_calls g A c l s 11 _ HRD.out (Kd.C_below HR.out HB.out) hc HY.out (by omega)).mono ?_
      rintro e w3 ⟨rfl, hrd, hch⟩
      have HOP := Aside0.mk (numR_rng l s 11 HY.out (by omega))
      have HO3 := Aside0.mk (R_ch HO.out HRD.out (by decide) hch)
      have HB3 := Aside0.mk (HB.out.trans (hch.below HGW.out (Array.getElem?_eq_some_iff.1 HRD.out).1))
      obtain ⟨op, s1, h1⟩ : ∃ op s1, numR l s 11 = (op, s1) := ⟨_, _, rfl⟩
      have H1 := Aside0.mk h1
      rw [h1] at hrd HOP ⊢
      have HRD3 := Aside0.mk (show Rd w3 g A l.length c s1 from hrd)
      have hop : IntKind.u8.wrap op = op := by rw [IntKind.wrap_u8]; have := HOP.out; omega
      clear hrd hch h1 HO HB HRD
      go_wp2_with fail
      obtain ⟨w4, hw4⟩ : ∃ w4, w3.alloc (.cells (cI (op, ⟨#[]⟩, ⟨#[]⟩, ⟨#[]⟩, 0, 0)) 26) = w4 := ⟨_, rfl⟩
      rw [hw4]
      have HB34 := Aside0.mk (show Below w3.heap.size w3 w4 by rw [← hw4]; exact (Below.refl _ w3).alloc (Nat.le_refl _) _)
      have HX4 := Aside0.mk (show w4.heap[w3.heap.size]? = some (.cells (cI (op, ⟨#[]⟩, ⟨#[]⟩, ⟨#[]⟩, 0, 0)) 26 (0, 0)) by rw [← hw4]; exact heap_new _ _)
      obtain ⟨q, hq⟩ : ∃ q, q = w3.heap.size := ⟨_, rfl⟩
      have HQG := Aside0.mk (show g < q by rw [hq]; exact (Array.getElem?_eq_some_iff.1 HRD3.out).1)
      have HQV := Aside0.mk (ne_own HO3.out)
      rw [← hq] at HX4 HQV ⊢
      have HRD4 := Aside0.mk (HRD3.out.below HB34.out)
      have HO4 := Aside0.mk (Kd.R_below HO3.out HB34.out)
      have HB4 := Aside0.mk (below_step HB3.out HB34.out)
      clear hq hw4 HRD3 HO3 HB3 HB34 hop
      refine (text_calls g A c l s1 _ HRD4.out (Kd.C_below HR.out HB4.out) hc HY.out HLL.out).mono ?_
      rintro e w5 ⟨rfl, hrd, hch⟩
      have HX5 := Aside0.mk (ch_keep HX4.out hch (by have := HQG.out; omega))
      have HO5 := Aside0.mk (R_ch HO4.out HRD4.out (by decide) hch)
      have HB5 := Aside0.mk (HB4.out.trans (hch.below HGW.out (Array.getElem?_eq_some_iff.1 HRD4.out).1))
      obtain ⟨tA, s2, h1⟩ : ∃ tA s2, textR l s1 = (tA, s2) := ⟨_, _, rfl⟩
      have H2 := Aside0.mk h1
      rw [h1] at hrd ⊢
      have HRD5 := Aside0.mk (show Rd w5 g A l.length c s2 from hrd)
      clear hrd hch h1 HX4 HO4 HB4 HRD4
      go_wp2_with fail
      refine (text_calls g A c l s2 _ HRD5.out (Kd.C_below HR.out HB5.out) hc HY.out HLL.out).mono ?_
      rintro e w6 ⟨rfl, hrd, hch⟩
      have HX6 := Aside0.mk (ch_keep HX5.out hch (by have := HQG.out; omega))
      have HO6 := Aside0.mk (R_ch HO5.out HRD5.out (by decide) hch)
      have HB6 := Aside0.mk (HB5.out.trans (hch.below HGW.out (Array.getElem?_eq_some_iff.1 HRD5.out).1))
      obtain ⟨tB, s3, h1⟩ : ∃ tB s3, textR l s2 = (tB, s3) := ⟨_, _, rfl⟩
      have H3 := Aside0.mk h1
      rw [h1] at hrd ⊢
      have HRD6 := Aside0.mk (show Rd w6 g A l.length c s3 from hrd)
      clear hrd hch h1 HX5 HO5 HB5 HRD5
      go_wp2_with fail
      refine (text_calls g A c l s3 _ HRD6.out (Kd.C_below HR.out HB6.out) hc HY.out HLL.out).mono ?_
      rintro e w7 ⟨rfl, hrd, hch⟩
      have HX7 := Aside0.mk (ch_keep HX6.out hch (by have := HQG.out; omega))
      have HO7 := Aside0.mk (R_ch HO6.out HRD6.out (by decide) hch)
      have HB7 := Aside0.mk (HB6.out.trans (hch.below HGW.out (Array.getElem?_eq_some_iff.1 HRD6.out).1))
      obtain ⟨tC, s4, h1⟩ : ∃ tC s4, textR l s3 = (tC, s4) := ⟨_, _, rfl⟩
      have H4 := Aside0.mk h1
      rw [h1] at hrd ⊢
      have HRD7 := Aside0.mk (show Rd w7 g A l.length c s4 from hrd)
      clear hrd hch h1 HX6 HO6 HB6 HRD6
      have hx1 := (cell_of HX7.out (j := 1)).2 rfl
      have hx2 := (cell_of HX7.out (j := 2)).2 rfl
      have hx3 := (cell_of HX7.out (j := 3)).2 rfl
      have hf1 : w7.frozen? ⟨q, 1, none⟩ = false := by simp [World.frozen?, HX7.out]
      have hf2 : w7.frozen? ⟨q, 2, none⟩ = false := by simp [World.frozen?, HX7.out]
      have hf3 : w7.frozen? ⟨q, 3, none⟩ = false := by simp [World.frozen?, HX7.out]
      go_wp2_with fail
      obtain ⟨w8, hw8⟩ : ∃ w8, ((w7.setCell ⟨q, 1, none⟩ (.string tA)).setCell ⟨q, 2, none⟩ (.string tB)).setCell ⟨q, 3, none⟩ (.string tC) = w8 := ⟨_, rfl⟩
      rw [hw8]
      have HCH := Aside0.mk (show Ch q w7 w8 by rw [← hw8]; exact ((Ch.set q 1 w7 _).trans (Ch.set q 2 _ _)).trans (Ch.set q 3 _ _))
      have HX8 := Aside0.mk (show w8.heap[q]? = some (.cells (cI (op, tA, tB, tC, 0, 0)) 26 (0, 0)) by
        rw [← hw8]
        exact blk_set (blk_set (blk_set HX7.out 1 (.string tA)) 2 (.string tB)) 3 (.string tC))
      have HRD8 := Aside0.mk (show Rd w8 g A l.length c s4 from ch_keep HRD7.out HCH.out (by have := HQG.out; omega))
      have HO8 := Aside0.mk (R_chn HO7.out rfl HQV.out HCH.out)
      have HB8 := Aside0.mk (HB7.out.trans (HCH.out.below (by have := HQG.out; have := HGW.out; omega) (Array.getElem?_eq_some_iff.1 HX7.out).1))
      clear hw8 hx1 hx2 hx3 hf1 hf2 hf3 HX7 HO7 HB7 HRD7 HCH
      refine (number_calls g A c l s4 2000 _ HRD8.out (Kd.C_below HR.out HB8.out) hc HY.out (by omega)).mono ?_
      rintro e w9 ⟨rfl, hrd, hch⟩
      have HX9 := Aside0.mk (ch_keep HX8.out hch (by have := HQG.out; omega))
      have HO9 := Aside0.mk (R_ch HO8.out HRD8.out (by decide) hch)
      have HB9 := Aside0.mk (HB8.out.trans (hch.below HGW.out (Array.getElem?_eq_some_iff.1 HRD8.out).1))
      obtain ⟨nN, s5, h1⟩ : ∃ nN s5, numR l s4 2000 = (nN, s5) := ⟨_, _, rfl⟩
      have H5 := Aside0.mk h1
      rw [h1] at hrd ⊢
      have HRD9 := Aside0.mk (show Rd w9 g A l.length c s5 from hrd)
      clear hrd hch h1 HX8 HO8 HB8 HRD8
      go_wp2_with fail
      refine (number_calls g A c l s5 2000 _ HRD9.out (Kd.C_below HR.out HB9.out) hc HY.out (by omega)).mono ?_
      rintro e w10 ⟨rfl, hrd, hch⟩
      have HX10 := Aside0.mk (ch_keep HX9.out hch (by have := HQG.out; omega))
      have HO10 := Aside0.mk (R_ch HO9.out HRD9.out (by decide) hch)
      have HB10 := Aside0.mk (HB9.out.trans (hch.below HGW.out (Array.getElem?_eq_some_iff.1 HRD9.out).1))
      obtain ⟨nM, s6, h1⟩ : ∃ nM s6, numR l s5 2000 = (nM, s6) := ⟨_, _, rfl⟩
      have H6 := Aside0.mk h1
      rw [h1] at hrd ⊢
      have HRD10 := Aside0.mk (show Rd w10 g A l.length c s6 from hrd)
      clear hrd hch h1 HX9 HO9 HB9 HRD9
      have hx1 := (cell_of HX10.out (j := 4)).2 rfl
      have hx2 := (cell_of HX10.out (j := 5)).2 rfl
      have hf1 : w10.frozen? ⟨q, 4, none⟩ = false := by simp [World.frozen?, HX10.out]
      have hf2 : w10.frozen? ⟨q, 5, none⟩ = false := by simp [World.frozen?, HX10.out]
      have HINS := Aside0.mk (show insR l s = ((op, tA, tB, tC, nN, nM), s6) by unfold insR; rw [H1.out]; simp only []; rw [H2.out]; simp only []; rw [H3.out]; simp only []; rw [H4.out]; simp only []; rw [H5.out]; simp only []; rw [H6.out])
      go_upto_region 8 with (fail)
      obtain ⟨w11, hw11⟩ : ∃ w11, (w10.setCell ⟨q, 4, none⟩ (.int .i64 nN)).setCell ⟨q, 5, none⟩ (.int .i64 nM) = w11 := ⟨_, rfl⟩
      rw [hw11]
      have HCH := Aside0.mk (show Ch q w10 w11 by rw [← hw11]; exact (Ch.set q 4 w10 _).trans (Ch.set q 5 _ _))
      have HX11 := Aside0.mk (show w11.heap[q]? = some (.cells (cI (op, tA, tB, tC, nN, nM)) 26 (0, 0)) by
        rw [← hw11]
        exact blk_set (blk_set HX10.out 4 (.int .i64 nN)) 5 (.int .i64 nM))
      have HRD11 := Aside0.mk (show Rd w11 g A l.length c s6 from ch_keep HRD10.out HCH.out (by have := HQG.out; omega))
      have HO11 := Aside0.mk (R_chn HO10.out rfl HQV.out HCH.out)
      have HB11 := Aside0.mk (HB10.out.trans (HCH.out.below (by have := HQG.out; have := HGW.out; omega) (Array.getElem?_eq_some_iff.1 HX10.out).1))
      clear hw11 hx1 hx2 hf1 hf2 HX10 HO10 HB10 HRD10 HCH
      have HKS2 := Aside0.mk (show insK l s0 (k + 1) = (p ++ [(op, tA, tB, tC, nN, nM)], s6) from HKS.out.trans (by show (p ++ [(insR l s).1], (insR l s).2) = _; rw [HINS.out]))
      clear HKS HINS H1 H2 H3 H4 H5 H6 HOP
      (try simp only [Act.put])
      go_wp2_with (first | (refine wpList_load_row rfl 26 (.tmp 6) rfl q rfl 26 (cI (op, tA, tB, tC, nN, nM)) (0, 0) _ HX11.out Tryd.underlying26 rfl infoI6 ?_) | ((with_reducible refine gate_builtin (b := .append) (xs := #[.tmp 33, .tmp 35]) rfl ?_); at_builtin; refine Kd.R_append KP (w0 := w) w.heap.size rfl (.tmp 33) (.tmp 35) 22 26 (.agg #[.int .u8 0, .string ⟨#[]⟩, .string ⟨#[]⟩, .string ⟨#[]⟩, .int .i64 0, .int .i64 0]) 72 rfl Tryd.underlying22 infoP rfl (by decide) (by omega) _ p (op, tA, tB, tC, nN, nM) [.int .u8 op, .string tA, .string tB, .string tC, .int .i64 nN, .int .i64 nM] (fun _ => True) (fun _ => False) rfl rfl (KP_M _ _ _ (op, tA, tB, tC, nN, nM)) (fun _ h => h.elim) (fun _ _ => trivial) HO11.out HB11.out HB11.out.size ?aL ?_; (case aL => have := HKL.out; omega); intro v2 w12 ho hb2 hg hat; have HO12 := Aside0.mk ho; have HB12 := Aside0.mk hb2; have HRD12 := Aside0.mk (rd_over HO11.out HRD11.out hg); clear ho hb2 hg hat))
      go_roundw
      case rel => exact ⟨k + 1, by omega, by go_num, by rw [HKS2.out]; exact HRD12, by rw [HKS2.out]; exact HO12, HB12⟩
      case measure => simp [intOf]; omega
    · obtain rfl : k = N := by omega
      have HSZ := Aside0.mk (insK_sz l s0 HLL.out k)
      have HKL := Aside0.mk (show (insK l s0 k).1.length = k from insK_len l s0 k)
      obtain ⟨p, s, hps⟩ : ∃ p s, insK l s0 k = (p, s) := ⟨_, _, rfl⟩
      rw [hps] at HRD HO HRP HKL HSZ
      replace HRD := Aside0.mk (show Rd wr g A l.length c s from HRD.out)
      replace HO := Aside0.mk (show Kd.R KP 26 wr w.heap.size (fun _ => True) _ p from HO.out)
      replace HKL := Aside0.mk (show p.length = k from HKL.out)
      replace HSZ := Aside0.mk (show ∀ x ∈ p, szOk x from HSZ.out)
      replace HRP := Aside0.mk (show readP l = if s.2 = true ∨ s.1 ≠ l.length ∨ mayP p = false then none else some p from HRP.out)
      obtain ⟨A5, c5, rfl, hc5, hr5⟩ := Kd.R_reads HO.out
      have HR5 := Aside0.mk hr5
      obtain ⟨c0, c1, c2, cf⟩ := HRD.out.cells
      clear hps hr5 cf hlt hk
      by_cases hs2 : s.2 = true
      · have HE := Aside0.mk (show readP l = none by rw [HRP.out, if_pos (.inl hs2)])
        rw [hs2] at c2
        clear hs2
        go_wp2
        go_ret2
        exact ⟨_, _, rfl, fun _ => ⟨rfl, rfl⟩, (fun p hp => (by rw [HE.out] at hp; cases hp)), HB.out⟩
      · have hs2f : s.2 = false := by simpa using hs2
        rw [hs2f] at c2
        by_cases hat : s.1 = (l.length : Int)
        · have h1 : (s.1 != (l.length : Int)) = false := by rw [bne_eq_false_iff_eq]; exact hat
          have h1b : (s.1 == (l.length : Int)) = true := by rw [beq_iff_eq]; exact hat
          have HAT := Aside0.mk hat
          have HS2 := Aside0.mk hs2
          clear hs2 hs2f hat
          go_wp2_with fail
          refine (may_calls A5 c5 p _ HR5.out hc5 (HTAB.out.below HB.out) HSZ.out).mono ?_
          rintro e w3 ⟨rfl, hb⟩
          have HBB := Aside0.mk hb
          clear hb h1 h1b
          cases hm : mayP p with
          | false =>
            have HE := Aside0.mk (show readP l = none by rw [HRP.out, if_pos (.inr (.inr hm))])
            clear hm
            go_wp2
            go_ret2
            exact ⟨_, _, rfl, fun _ => ⟨rfl, rfl⟩, (fun p hp => (by rw [HE.out] at hp; cases hp)), below_step HB.out HBB.out⟩
          | true =>
            have HE := Aside0.mk (show readP l = some p by
              rw [HRP.out, if_neg]
              rintro (h | h | h)
              · exact HS2.out h
              · exact h HAT.out
              · rw [hm] at h; cases h)
            clear hm
            go_wp2
            go_ret2
            exact ⟨_, _, rfl, fun h => (by rw [HE.out] at h; cases h), fun p' hp => (by rw [HE.out] at hp; cases hp; exact ⟨rfl, Kd.R_below HO.out HBB.out⟩), below_step HB.out HBB.out⟩
        · have HE := Aside0.mk (show readP l = none by rw [HRP.out, if_pos (.inr (.inl hat))])
          have h1 : (s.1 != (l.length : Int)) = true := by rw [bne_iff_ne]; exact hat
          have h1b : (s.1 == (l.length : Int)) = false := by rw [beq_eq_false_iff_ne]; exact hat
          clear hs2 hs2f hat
          go_wp2
          go_ret2
          exact ⟨_, _, rfl, fun _ => ⟨rfl, rfl⟩, (fun p hp => (by rw [HE.out] at hp; cases hp)), HB.out⟩
end Go.Proofs.YtneindaodfiabaaDoor.Prog6
