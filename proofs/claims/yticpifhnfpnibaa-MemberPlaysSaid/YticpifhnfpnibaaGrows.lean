/- What calls of Go functions of this seat come to, as the rows need it: under the conditions that each theorem names. -/
import Derived.Test.YticpifhnfpnibaaHearPure
import Derived.Test.YticpifhnfpnibaaMOpen
namespace Go.Proofs.Yticpifhnfpnibaa.Open
open Go.RowKit Go.Proofs.YticpifhnfpnibaaW.PrintWords Go.ChangeShapes Go.Deep Go.Proofs.Yticpifhnfpnibaa.Mem
set_option linter.unusedVariables false
set_option linter.unusedSimpArgs false
/-- A call of the law's: its kind, its update. -/
abbrev k_t39 : Kd (Int × U) := Kd.pair (Kd.int .i64) KU
theorem opn_t39 : Opn Try.prog 39 k_t39 (fun o => okU o.2) (fun _ => 0) := ⟨fun h => by
  obtain ⟨xs, n, rfl, hx, hc, hl, hf⟩ := DataW.trod_struct Try.underlying39 h
  have hc4 : _ = 4 := hc.trans (by kernel_rfl)
  rename_i cs _ _
  match cs, hc4 with
  | [c0, c1, c2, c3], _ =>
    match xs, hl with
    | [y0, y1], _ =>
      have h0 := hf 0 _ rfl
      have h1 := hf 1 _ rfl
      have e0 : Try.prog.cellsOf 3 = 1 := by kernel_rfl
      have e1 : Try.prog.cellsOf 32 = 3 := by kernel_rfl
      simp only [e0, e1, List.drop_zero, List.drop_succ_cons, List.take_succ_cons, List.take_zero, List.getElem?_cons_zero, List.getElem?_cons_succ] at h0 h1
      obtain ⟨n0, a0, _, w0⟩ := DataW.trod_int Try.underlying3 h0
      cases a0
      obtain ⟨u, hu, hok, _⟩ := opn_t32.opn h1
      exact ⟨(n0, u), ⟨[.int .i64 n0], [c1, c2, c3], rfl, rfl, hu⟩, hok, Nat.zero_le _⟩⟩
end Go.Proofs.Yticpifhnfpnibaa.Open
namespace Go.Proofs.Yticpifhnfpnibaa.Mem
open Go.RowKit Go.Proofs.YticpifhnfpnibaaW.PrintWords Go.Proofs.YticpifhnfpnibaaW.PrintLast Go.Proofs.YticpifhnfpnibaaW.PrintMore
set_option linter.unusedVariables false
set_option linter.unusedSimpArgs false
abbrev KO : Kd (Int × U) := Kd.pair (Kd.int .i64) KU
theorem row_co {w : World} {A : Option Addr} {n : Nat} {xs : List (Int × U)} (h : KO.C w A n xs) (k : Nat) (hk : k < n) (o : Int × U) (ho : xs[k]? = some o) :
    ∃ ad, A = some ad ∧ w.cell? (ad.add (k * 4)) = some (.int .i64 o.1) ∧ w.cell? ⟨(ad.add (k * 4)).block, (ad.add (k * 4)).off + 1, none⟩ = some (.int .i64 o.2.1) ∧ w.cell? ⟨(ad.add (k * 4)).block, (ad.add (k * 4)).off + 2, none⟩ = some (.int .u8 o.2.2.1) ∧ w.cell? ⟨(ad.add (k * 4)).block, (ad.add (k * 4)).off + 3, none⟩ = some (.int .u64 o.2.2.2) := by
  obtain ⟨ad, c, e, _, hK, hc0⟩ := Kd.C_get h ((0, 0, 0, 0) : Int × U) (k : Int) (by omega) (by omega)
  simp only [Int.toNat_natCast] at hK hc0
  have hu2 : xs.getD k (0, 0, 0, 0) = o := by rw [List.getD_eq_getElem?_getD, ho]; rfl
  rw [hu2] at hK
  obtain ⟨b0, b1, rfl, g0, c0, c1, rfl, h0, d0, d1, rfl, h1, h2⟩ := hK
  have g0' : b0 = [.int .i64 o.1] := g0
  have h0' : c0 = [.int .i64 o.2.1] := h0
  have h1' : d0 = [.int .u8 o.2.2.1] := h1
  have h2' : d1 = [.int .u64 o.2.2.2] := h2
  subst g0' h0' h1' h2'
  have a0 := hc0 0 _ rfl
  have a1 := hc0 1 _ rfl
  have a2 := hc0 2 _ rfl
  have a3 := hc0 3 _ rfl
  exact ⟨ad, e, a0, (congrArg w.cell? (add_field ad (k * 4) 1 (by omega))).symm.trans a1, (congrArg w.cell? (add_field ad (k * 4) 2 (by omega))).symm.trans a2, (congrArg w.cell? (add_field ad (k * 4) 3 (by omega))).symm.trans a3⟩
/-- The block of a call on its own. -/
def BoxO (w : World) (b : Nat) (o : Int × U) : Prop := w.heap[b]? = some (.cells #[.int .i64 o.1, .int .i64 o.2.1, .int .u8 o.2.2.1, .int .u64 o.2.2.2] 39 (0, 0))
theorem BoxO.cu {w : World} {b : Nat} {o : Int × U} (h : BoxO w b o) : w.cell? ⟨b, 0, none⟩ = some (.int .i64 o.1) ∧ w.cell? ⟨b, 1, none⟩ = some (.int .i64 o.2.1) ∧ w.cell? ⟨b, 2, none⟩ = some (.int .u8 o.2.2.1) ∧ w.cell? ⟨b, 3, none⟩ = some (.int .u64 o.2.2.2) :=
  ⟨(cell_of h).2 rfl, (cell_of h).2 rfl, (cell_of h).2 rfl, (cell_of h).2 rfl⟩
theorem BoxO.below {w w' : World} {b : Nat} {o : Int × U} (h : BoxO w b o) (hb : Below w.heap.size w w') : BoxO w' b o := heap_keep h hb
theorem BoxO.ch {w w' : World} {b m : Nat} {o : Int × U} (h : BoxO w b o) (hc : Ch m w w') (hne : b ≠ m) : BoxO w' b o := heap_ch h hc hne
/-- Is a greater than b? -/
def gt (a b : U) : Bool := decide (b.2.2 < a.2.2 ∨ (a.2.2 = b.2.2 ∧ b.2.1 < a.2.1))
set_option maxHeartbeats 1600000 in
theorem greater_calls (a b : U) (w : World) : Calls Try.prog 12 #[.agg #[.int .i64 a.1, .int .u8 a.2.1, .int .u64 a.2.2], .agg #[.int .i64 b.1, .int .u8 b.2.1, .int .u64 b.2.2]] w fun e w' => e = .returned (.bool (gt a b)) ∧ Below w.heap.size w w' := by
  obtain ⟨a0, a1, a2⟩ := a
  obtain ⟨b0, b1, b2⟩ := b
  by_cases h1 : b2 < a2
  · have e1 : decide (a2 > b2) = true := decide_eq_true h1
    have eg : gt (a0, a1, a2) (b0, b1, b2) = true := decide_eq_true (Or.inl h1)
    rw [eg]
    clear h1 eg
    go_enter Try.func12, Try.ntmps12
    go_wp2
    go_ret
    exact ⟨rfl, ((Below.refl _ _).alloc (Nat.le_refl _) _).alloc (by simp) _⟩
  have e1 : decide (a2 > b2) = false := decide_eq_false h1
  by_cases h2 : a2 = b2
  · have e2 : (a2 == b2) = true := by simp [h2]
    by_cases h3 : b1 < a1
    · have e3 : decide (a1 > b1) = true := decide_eq_true h3
      have eg : gt (a0, a1, a2) (b0, b1, b2) = true := decide_eq_true (Or.inr ⟨h2, h3⟩)
      rw [eg]
      clear h1 h2 h3 eg
      go_enter Try.func12, Try.ntmps12
      go_wp2
      go_ret
      exact ⟨rfl, ((Below.refl _ _).alloc (Nat.le_refl _) _).alloc (by simp) _⟩
    · have e3 : decide (a1 > b1) = false := decide_eq_false h3
      have eg : gt (a0, a1, a2) (b0, b1, b2) = false := decide_eq_false (fun h => h.elim h1 (fun h => h3 h.2))
      rw [eg]
      clear h1 h2 h3 eg
      go_enter Try.func12, Try.ntmps12
      go_wp2
      go_ret
      exact ⟨rfl, ((Below.refl _ _).alloc (Nat.le_refl _) _).alloc (by simp) _⟩
  · have e2 : (a2 == b2) = false := by simp [h2]
    have eg : gt (a0, a1, a2) (b0, b1, b2) = false := decide_eq_false (fun h => h.elim h1 (fun h => h2 h.1))
    rw [eg]
    clear h1 h2 eg
    go_enter Try.func12, Try.ntmps12
    go_wp2
    go_ret
    exact ⟨rfl, ((Below.refl _ _).alloc (Nat.le_refl _) _).alloc (by simp) _⟩
theorem self_lit (m s n : Nat) (f : Nat → U) (w : World) (h : Mem w m s n f) (hs : s < 16) :
    Calls Try.prog 15 #[.pointer (some ⟨m, 0, none⟩)] w fun e w' => e = .returned (.agg #[.int .i64 (f s).1, .int .u8 (f s).2.1, .int .u64 (f s).2.2]) ∧ Below w.heap.size w w' := self_calls m s n f w h hs
/-- What a call may do to what stands. -/
def Step (s n : Nat) (f g : Nat → U) : Prop := Good n g ∧ (g s).2.1 = 1 ∧ ∀ k, k < n → gt (f k) (g k) = false
theorem gt_self (x : U) : gt x x = false := decide_eq_false (by omega)
theorem step_same {s n : Nat} {f : Nat → U} (h : Good n f) (hs : (f s).2.1 = 1) : Step s n f f := ⟨h, hs, fun k _ => gt_self _⟩
theorem step_turn {s n : Nat} {f : Nat → U} (h : Good n f) (hs : (f s).2.1 = 1) (i a b : Int) (hab : a < b) : Step s n f (if (0 ≤ i ∧ i < n) ∧ i ≠ s ∧ (f i.toNat).2.1 = a then upd f i.toNat ((f i.toNat).1, b, (f i.toNat).2.2) else f) := by
  split
  · rename_i hc
    obtain ⟨h1, h2, h3⟩ := hc
    refine ⟨fun j hj => ?_, ?_, fun j hj => ?_⟩
    · by_cases e : j = i.toNat
      · subst e
        rw [upd_same]
        exact h _ hj
      · rw [upd_other _ _ _ _ e]
        exact h j hj
    · rw [upd_other _ _ _ _ (by omega)]
      exact hs
    · by_cases e : j = i.toNat
      · subst e
        rw [upd_same]
        refine decide_eq_false ?_
        simp only [h3]
        omega
      · rw [upd_other _ _ _ _ e]
        exact gt_self _
  · exact step_same h hs
theorem next_state {s : Nat} {x u : U} (h : u.1 = s) : (next s x u).2.1 = x.2.1 := by
  unfold next
  rw [if_neg (by simp [h])]
  split
  · rfl
  · split <;> rfl
theorem next_grows {s : Nat} {x u : U} (hx : x.2.2 ≤ 1099511627776) : gt x (next s x u) = false := by
  unfold gt next
  refine decide_eq_false ?_
  split
  · split
    · omega
    · omega
  · split
    · simp only; omega
    · split
      · simp only; omega
      · omega
theorem step_hear {s n : Nat} {f : Nat → U} (h : Good n f) (hs : (f s).2.1 = 1) (u : U) : Step s n f (hearF s n f u) := by
  refine ⟨good_hear h u, ?_, fun k hk => ?_⟩
  · by_cases hm : may n u
    · rw [hearF_yes hm]
      by_cases e : s = u.1.toNat
      · rw [e, upd_same, ← e, next_state (by have := hm.1; omega)]
        exact hs
      · rw [upd_other _ _ _ _ e]
        exact hs
    · rw [hearF_no hm]
      exact hs
  · by_cases hm : may n u
    · rw [hearF_yes hm]
      by_cases e : k = u.1.toNat
      · subst e
        rw [upd_same]
        exact next_grows (h _ hk).2
      · rw [upd_other _ _ _ _ e]
        exact gt_self _
    · rw [hearF_no hm]
      exact gt_self _
theorem hear_self {s n : Nat} {f : Nat → U} {u : U} (hm : may n u) (h : u.1 = s) (h1 : ¬ u.2.1 = 1) (h2 : u.2.2 < 1099511627776) : ¬ (hearF s n f u s).2.2 ≤ u.2.2 := by
  rw [hearF_yes hm, show s = u.1.toNat by omega, upd_same, show u.1.toNat = s by omega]
  unfold next
  rw [if_neg (by simp [h]), if_neg h1]
  split
  · simp only; omega
  · omega
theorem first_alive (s n : Nat) (inc : Int) (h : s < n) : (first s n inc s).2.1 = 1 := by unfold first; rw [if_pos h]
theorem R_ch' {α : Type} {d : Kd α} {e : Nat} {w w' : World} {base m : Nat} {v : Value} {xs : List α} (h : Kd.R d e w base (fun _ => True) v xs) (hc : Ch m w w') (hm : m < base) : Kd.R d e w' base (fun _ => True) v xs :=
  Kd.R_mono (Kd.R_step (Kd.R_bound h) (fun k hk hlt => hc.block k hlt (by have := hk.2.1; omega))) (fun _ _ => trivial)
theorem below_chg {m : Nat} {w w1 w2 : World} (h : Below w.heap.size w w1) (hc : Ch m w1 w2) (hw : w.heap.size ≤ m) (hm : m < w1.heap.size) : Below w.heap.size w w2 := h.trans (hc.below hw hm)
end Go.Proofs.Yticpifhnfpnibaa.Mem
