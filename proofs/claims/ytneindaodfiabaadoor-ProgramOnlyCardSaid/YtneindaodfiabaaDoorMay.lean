/- What calls of Go functions of this seat come to, as the rows need it: under the conditions that each theorem names. -/
import Derived.Test.YtneindaodfiabaaDoorOne
namespace Go.Proofs.YtneindaodfiabaaDoor.Prog6
open Go.RowKit Go.Proofs.YtneindaodfiabaaDoorW.PrintWords Go.Proofs.YtneindaodfiabaaDoorW.PrintLast Go.Proofs.YtneindaodfiabaaDoorW.PrintMore
set_option linter.unusedVariables false
set_option linter.unusedSimpArgs false
abbrev KP : Kd Ins := Kd.pair (Kd.int .u8) (Kd.pair Kd.string (Kd.pair Kd.string (Kd.pair Kd.string (Kd.pair (Kd.int .i64) (Kd.int .i64)))))
theorem KP_cells {w : World} {x : Ins} {cs : List Value} (h : KP.K w x cs) : cs = [.int .u8 x.1, .string x.2.1, .string x.2.2.1, .string x.2.2.2.1, .int .i64 x.2.2.2.2.1, .int .i64 x.2.2.2.2.2] := by
  obtain ⟨a0, r0, rfl, h0, a1, r1, rfl, h1, a2, r2, rfl, h2, a3, r3, rfl, h3, a4, a5, rfl, h4, h5⟩ := h
  have e0 : a0 = [.int .u8 x.1] := h0
  have e1 : a1 = [.string x.2.1] := h1
  have e2 : a2 = [.string x.2.2.1] := h2
  have e3 : a3 = [.string x.2.2.2.1] := h3
  have e4 : a4 = [.int .i64 x.2.2.2.2.1] := h4
  have e5 : a5 = [.int .i64 x.2.2.2.2.2] := h5
  subst e0 e1 e2 e3 e4 e5
  rfl
theorem KP_of (w : World) (x : Ins) : KP.K w x [.int .u8 x.1, .string x.2.1, .string x.2.2.1, .string x.2.2.2.1, .int .i64 x.2.2.2.2.1, .int .i64 x.2.2.2.2.2] :=
  ⟨[.int .u8 x.1], _, rfl, rfl, [.string x.2.1], _, rfl, rfl, [.string x.2.2.1], _, rfl, rfl, [.string x.2.2.2.1], _, rfl, rfl, [.int .i64 x.2.2.2.2.1], _, rfl, rfl, rfl⟩
/-- An element of a row of instructions. -/
theorem row_cp {w : World} {A : Option Addr} {n : Nat} {xs : List Ins} (h : KP.C w A n xs) (k : Nat) (hk : k < n) (x : Ins) (hx : xs[k]? = some x) :
    ∃ ad, A = some ad ∧ w.cell? (ad.add (k * 6)) = some (.int .u8 x.1) ∧ w.cell? ⟨(ad.add (k * 6)).block, (ad.add (k * 6)).off + 1, none⟩ = some (.string x.2.1) ∧ w.cell? ⟨(ad.add (k * 6)).block, (ad.add (k * 6)).off + 2, none⟩ = some (.string x.2.2.1) ∧
      w.cell? ⟨(ad.add (k * 6)).block, (ad.add (k * 6)).off + 3, none⟩ = some (.string x.2.2.2.1) ∧ w.cell? ⟨(ad.add (k * 6)).block, (ad.add (k * 6)).off + 4, none⟩ = some (.int .i64 x.2.2.2.2.1) ∧ w.cell? ⟨(ad.add (k * 6)).block, (ad.add (k * 6)).off + 5, none⟩ = some (.int .i64 x.2.2.2.2.2) := by
  obtain ⟨ad, c, e, _, hK, hc0⟩ := Kd.C_get h ((0, ⟨#[]⟩, ⟨#[]⟩, ⟨#[]⟩, 0, 0) : Ins) (k : Int) (by omega) (by omega)
  simp only [Int.toNat_natCast] at hK hc0
  rw [show xs.getD k ((0, ⟨#[]⟩, ⟨#[]⟩, ⟨#[]⟩, 0, 0) : Ins) = x by rw [List.getD_eq_getElem?_getD, hx]; rfl] at hK
  have hcs := KP_cells hK
  subst hcs
  have hsz : KP.sz = 6 := rfl
  rw [hsz] at hc0
  have a := fun j u hu => hc0 j u hu
  have f := fun j (hj : 0 < j) u (hu : ([.int .u8 x.1, .string x.2.1, .string x.2.2.1, .string x.2.2.2.1, .int .i64 x.2.2.2.2.1, .int .i64 x.2.2.2.2.2] : List Value)[j]? = some u) => (congrArg w.cell? (add_field ad (k * 6) j hj)).symm.trans (hc0 j u hu)
  exact ⟨ad, e, a 0 _ rfl, f 1 (by omega) _ rfl, f 2 (by omega) _ rfl, f 3 (by omega) _ rfl, f 4 (by omega) _ rfl, f 5 (by omega) _ rfl⟩
/-- Texts of lengths that there are. -/
def szOk (x : Ins) : Prop := x.2.1.size ≤ 9223372036854775807 ∧ x.2.2.1.size ≤ 9223372036854775807 ∧ x.2.2.2.1.size ≤ 9223372036854775807
theorem szOk.txt {x : Ins} (h : szOk x) (k : Nat) : (txt x k).size ≤ 9223372036854775807 := by
  rcases k with _ | _ | _ | k
  · exact h.1
  · exact h.2.1
  · exact h.2.2
  · show (⟨#[]⟩ : ByteArray).size ≤ _
    simp [ByteArray.size]
theorem bad_calls (x : Ins) (bp : Nat) (A : Option Addr) (many c : Nat) (w : World) (hT : Tab w) (hx : szOk x) (hm : many ≤ 9223372036854775807) (hbp : w.heap[bp]? = some (.cells #[.slice A many c] 22 (0, 0))) :
    Calls Tryd.prog 18 #[.agg #[.int .u8 x.1, .string x.2.1, .string x.2.2.1, .string x.2.2.2.1, .int .i64 x.2.2.2.2.1, .int .i64 x.2.2.2.2.2], .pointer (some ⟨bp, 0, none⟩)] w fun e w' => e = .returned (.bool (!one x many)) ∧ Below w.heap.size w w' := by
  have HTAB := Aside0.mk hT
  have HBP := Aside0.mk hbp
  have HSZ := Aside0.mk hx
  clear hT hbp hx
  go_enter Tryd.func18, Tryd.ntmps18
  go_upto_region 1 with (fail)
  have HB := Aside0.mk ((Below.refl w.heap.size w).alloc (Nat.le_refl _) (.cells #[.int .u8 x.1, .string x.2.1, .string x.2.2.1, .string x.2.2.2.1, .int .i64 x.2.2.2.2.1, .int .i64 x.2.2.2.2.2] 26 (0, 0)))
  have HX := Aside0.mk (show BoxI (w.alloc (.cells #[.int .u8 x.1, .string x.2.1, .string x.2.2.1, .string x.2.2.2.1, .int .i64 x.2.2.2.2.1, .int .i64 x.2.2.2.2.2] 26 (0, 0))) w.heap.size x from heap_new _ _)
  replace HTAB := Aside0.mk (HTAB.out.below HB.out)
  replace HBP := Aside0.mk (heap_keep HBP.out HB.out)
  generalize w.alloc _ = wa at HB HX HTAB HBP ⊢
  generalize w.heap.size = b at HX ⊢
  obtain ⟨b0, b1, b2, b3, b4, b5⟩ := HX.out.cu
  have hs := (cell_of HBP.out (j := 0)).2 rfl
  go_wp2_with fail
  refine (one_calls x many _ HTAB.out (fun k => HSZ.out.txt k)).mono ?_
  rintro e w1 ⟨rfl, hb⟩
  have HB1 := Aside0.mk hb
  clear hb b0 b1 b2 b3 b4 b5 hs
  go_wp2
  go_ret
  exact ⟨rfl, below_step HB.out HB1.out⟩
def allOne (xs : List Ins) (many : Nat) : Bool := xs.all (fun x => one x many)
set_option maxHeartbeats 1600000 in
theorem idx_calls (A : Option Addr) (c : Nat) (xs : List Ins) (bp : Nat) (B : Option Addr) (many d : Nat) (w : World) (hr : KP.C w A xs.length xs) (hc : xs.length ≤ c) (hT : Tab w) (hx : ∀ x ∈ xs, szOk x) (hm : many ≤ 9223372036854775807) (hbp : w.heap[bp]? = some (.cells #[.slice B many d] 22 (0, 0))) :
    Calls Tryd.prog 29 #[.slice A xs.length c, .func (Fn.func 18) #[] #[.pointer (some ⟨bp, 0, none⟩)]] w fun e w' => ∃ z : Int, e = .returned (.int .i64 z) ∧ decide (0 ≤ z) = !allOne xs many ∧ Below w.heap.size w w' := by
  have HR := Aside0.mk hr
  have HTAB := Aside0.mk hT
  have HBP := Aside0.mk hbp
  have HSZ := Aside0.mk hx
  have hl63 : xs.length ≤ 9223372036854775807 := hr.2.1
  clear hr hT hbp hx
  go_enter Tryd.func29, Tryd.ntmps29
  go_wp2
  go_loopw [8] (fun i wr => ∃ k : Nat, k ≤ xs.length ∧ i = .int .i64 k ∧ Aside0 (Below w.heap.size w wr) ∧ Aside0 (allOne (xs.take k) many = true)) (fun i _ => xs.length - (intOf i).toNat)
  case atStart => exact ⟨0, Nat.zero_le _, rfl, ⟨Below.refl _ _⟩, ⟨rfl⟩⟩
  case round =>
    obtain ⟨k, hk, rfl, HB, HA⟩ := hrel
    by_cases hlt : k < xs.length
    · obtain ⟨ad, rfl, x0, x1, x2, x3, x4, x5⟩ := row_cp (Kd.C_below HR.out HB.out) k hlt xs[k] (List.getElem?_eq_getElem hlt)
      have HU := Aside0.mk (HSZ.out xs[k] (List.getElem_mem hlt))
      have HMEM := Aside0.mk (List.getElem_mem hlt)
      have HTK := Aside0.mk (List.take_succ_eq_append_getElem hlt)
      generalize xs[k] = x at x0 x1 x2 x3 x4 x5 HU HMEM HTK
      go_wp2_with fail
      refine (bad_calls x bp B many d _ (HTAB.out.below HB.out) HU.out hm (heap_keep HBP.out HB.out)).mono ?_
      rintro e w1 ⟨rfl, hb⟩
      have HB1 := Aside0.mk (below_step HB.out hb)
      clear hb x0 x1 x2 x3 x4 x5 HB
      cases ho : one x many with
      | true =>
        have HA1 := Aside0.mk (show allOne (xs.take (k + 1)) many = true by rw [HTK.out]; unfold allOne at HA ⊢; rw [List.all_append, HA.out]; simp [ho])
        clear ho
        go_wp2
        go_roundw
        case rel => exact ⟨k + 1, by omega, by go_num, HB1, HA1⟩
        case measure => simp [intOf]; omega
      | false =>
        have HF := Aside0.mk (show allOne xs many = false by unfold allOne; rw [List.all_eq_false]; exact ⟨x, HMEM.out, by simp [ho]⟩)
        clear ho
        go_wp2
        go_ret
        exact ⟨k, rfl, by rw [HF.out]; exact decide_eq_true (by omega), HB1.out⟩
    · obtain rfl : k = xs.length := by omega
      have HF := Aside0.mk (show allOne xs many = true by have h := HA.out; rwa [List.take_length] at h)
      clear hlt hk
      go_wp2
      go_ret
      exact ⟨-1, rfl, by rw [HF.out]; rfl, HB.out⟩
theorem contains_calls (A : Option Addr) (c : Nat) (xs : List Ins) (bp : Nat) (B : Option Addr) (many d : Nat) (w : World) (hr : KP.C w A xs.length xs) (hc : xs.length ≤ c) (hT : Tab w) (hx : ∀ x ∈ xs, szOk x) (hm : many ≤ 9223372036854775807) (hbp : w.heap[bp]? = some (.cells #[.slice B many d] 22 (0, 0))) :
    Calls Tryd.prog 17 #[.slice A xs.length c, .func (Fn.func 18) #[] #[.pointer (some ⟨bp, 0, none⟩)]] w fun e w' => e = .returned (.bool (!allOne xs many)) ∧ Below w.heap.size w w' := by
  have H := Aside0.mk (idx_calls A c xs bp B many d w hr hc hT hx hm hbp)
  clear hr hT hx hbp
  go_enter Tryd.func17, Tryd.ntmps17
  go_wp2_with fail
  refine H.out.mono ?_
  rintro e w1 ⟨z, rfl, hz, hb⟩
  have HZ := Aside0.mk hz
  clear hz
  go_wp2
  go_ret
  exact ⟨by rw [← HZ.out]; rfl, hb⟩
/-- May a program be? -/
def mayP (xs : List Ins) : Bool := decide (xs.length ≤ 30) && allOne xs xs.length
theorem may_calls (A : Option Addr) (c : Nat) (xs : List Ins) (w : World) (hr : KP.C w A xs.length xs) (hc : xs.length ≤ c) (hT : Tab w) (hx : ∀ x ∈ xs, szOk x) :
    Calls Tryd.prog 8 #[.slice A xs.length c] w fun e w' => e = .returned (.bool (mayP xs)) ∧ Below w.heap.size w w' := by
  have HR := Aside0.mk hr
  have HTAB := Aside0.mk hT
  have HSZ := Aside0.mk hx
  have hl63 : xs.length ≤ 9223372036854775807 := hr.2.1
  clear hr hT hx
  by_cases h30 : xs.length ≤ 30
  · have e1 : decide ((xs.length : Int) ≤ 30) = true := decide_eq_true (by omega)
    have e1' : decide (xs.length ≤ 30) = true := decide_eq_true h30
    have HV := Aside0.mk (show mayP xs = allOne xs xs.length by unfold mayP; rw [e1']; rfl)
    clear h30
    go_enter Tryd.func8, Tryd.ntmps8
    go_wp2_with fail
    have hal := (Below.refl w.heap.size w).alloc (Nat.le_refl _) (.cells #[.slice A xs.length c] 22 (0, 0))
    refine (contains_calls A c xs w.heap.size A xs.length c _ (Kd.C_below HR.out hal) hc (HTAB.out.below hal) HSZ.out hl63 (heap_new _ _)).mono ?_
    rintro e w1 ⟨rfl, hb⟩
    have HB := Aside0.mk (below_step hal hb)
    clear hal hb
    go_wp2
    go_ret
    exact ⟨by rw [HV.out]; simp, HB.out⟩
  · have e1 : decide ((xs.length : Int) ≤ 30) = false := decide_eq_false (by omega)
    have e1' : decide (xs.length ≤ 30) = false := decide_eq_false h30
    have HV := Aside0.mk (show mayP xs = false by unfold mayP; rw [e1']; rfl)
    clear h30
    go_enter Tryd.func8, Tryd.ntmps8
    go_wp2
    go_ret
    exact ⟨by rw [HV.out]; rfl, (Below.refl _ _).alloc (Nat.le_refl _) _⟩
end Go.Proofs.YtneindaodfiabaaDoor.Prog6
