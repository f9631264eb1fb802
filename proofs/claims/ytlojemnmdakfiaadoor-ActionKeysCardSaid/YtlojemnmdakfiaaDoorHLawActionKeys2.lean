/- What calls of Go functions of this seat come to, as the rows need it: under the conditions that each theorem names. -/
import Derived.Test.YtlojemnmdakfiaaDoorHLawActionKeys1
import Derived.Test.YtlojemnmdakfiaaDoorRows
import Derived.WalkKit
import Derived.ProofKit
import Derived.OpenShut
import Derived.ShutString
import Derived.JoinedCond
import Derived.Below
import Derived.Deep.Slices
import Derived.Deep.CondSized
import Derived.Test.YtlojemnmdakfiaaDoorProg
import Derived.Deep.Draws
import Derived.Deep.AppendLies
import Derived.Maps.AppendAt
import Derived.OwnWalk
import Derived.Laws.BytesArg
import Derived.Laws.MakeOwn
import Derived.Laws.OwnMore
import Derived.Deep.OwnRows
import Derived.Tactics
import Derived.Lib.ConvBytes
import Derived.Laws.Slices
import Derived.KernelRfl
import Derived.RowKit3
import Derived.Deep.LoopGhost
import Derived.Deep.QuietTactic
import Derived.BigQuiet
import Derived.WideLaws
import Derived.Deep.DeepCutAuto
import Derived.Deep.CutBlock
import Derived.Deep.RegionHeld3
import Derived.Laws.Rows
import Derived.Lib.AppendStr
import Derived.ArgAppend
import Derived.Laws.IdiomCopy
import Derived.OrdersHeld
import Derived.Laws.BitsLemmas
import Derived.RowKit
import Derived.Outline
import Derived.Laws.RangeAny
import Derived.Lib.OthersKept
import Derived.Deep.RegionWith
import Derived.OneCell
import Derived.Laws.Cover1
section
namespace Go.Proofs.YtlojemnmdakfiaaDoor.Open
open Go.RowKit Go.Proofs.YtlojemnmdakfiaaDoorW.PrintWords Go.ChangeShapes Go.Deep
set_option linter.unusedVariables false
set_option linter.unusedSimpArgs false
structure Opn {α : Type} (P : Program) (t : TypeId) (K : Kd α) (ok : α → Prop) (blk : α → Nat) : Prop where
  opn : ∀ {H : Type} {enc : TypeId × Value → H} {w : World} {base : Nat} {spare : Nat → Bool} {held : Bool} {fuel : Nat} {cs : List Value} {d : DataW H} {ps : List MemPlace},
    DataW.trod enc P w base spare held fuel t cs = some (d, ps) → ∃ x, K.K w x cs ∧ ok x ∧ blk x ≤ Rows.uptoBulk d
theorem opn_int {P : Program} {t : TypeId} {k : IntKind} (ht : P.underlying t = some (.int k)) : Opn P t (Kd.int k) (fun x => (Lit.int k x).wf = true) (fun _ => 1) := ⟨fun h => by
  obtain ⟨n, rfl, e, hw⟩ := DataW.trod_int ht h
  cases e
  exact ⟨n, rfl, hw, by simp [Rows.uptoBulk]⟩⟩
theorem pick {α : Type} (p : Nat → α → Prop) : ∀ n, (∀ i, i < n → ∃ x, p i x) → ∃ xs : List α, xs.length = n ∧ ∀ i x, xs[i]? = some x → p i x
  | 0, _ => ⟨[], rfl, fun i x h => by simp at h⟩
  | n + 1, h => by
    obtain ⟨xs, hl, hx⟩ := pick p n (fun i hi => h i (by omega))
    obtain ⟨x, hp⟩ := h n (by omega)
    refine ⟨xs ++ [x], by simp [hl], fun i y hy => ?_⟩
    rcases Nat.lt_or_ge i n with hi | hi
    · rw [List.getElem?_append_left (by omega)] at hy
      exact hx i y hy
    · rw [List.getElem?_append_right (by omega)] at hy
      have hi0 : i - xs.length = 0 := by
        rcases Nat.eq_zero_or_pos (i - xs.length) with h0 | h0
        · exact h0
        · rw [List.getElem?_eq_none (by simp; omega)] at hy
          cases hy
      rw [hi0] at hy
      obtain rfl : x = y := by simpa using hy
      rwa [show i = n by omega]
theorem bulk_sum {H : Type} {α : Type} {blk : α → Nat} : ∀ (xs : List α) (D : Nat → DataW H), (∀ i x, xs[i]? = some x → blk x ≤ Rows.uptoBulk (D i)) → (xs.map blk).sum ≤ Rows.uptoBulkAll ((List.range xs.length).map D)
  | [], D, _ => by simp
  | x :: xs, D, h => by
    have ih := bulk_sum xs (fun i => D (i + 1)) (fun i y hy => h (i + 1) y (by simpa using hy))
    have h0 := h 0 x (by simp)
    simp only [List.length_cons, List.range_succ_eq_map, List.map_cons, List.map_map, Rows.uptoBulkAll, List.sum_cons]
    have e : (List.map (D ∘ Nat.succ) (List.range xs.length)) = (List.range xs.length).map (fun i => D (i + 1)) := rfl
    rw [e]
    omega
theorem opn_slice {α : Type} {P : Program} {t e : TypeId} {K : Kd α} {ok : α → Prop} {blk : α → Nat} (ht : P.underlying t = some (.slice e)) (hc : P.cellsOf e = K.sz) (he : Opn P e K ok blk) :
    Opn P t (Kd.slice e K) (fun xs => ∀ x ∈ xs, ok x) (fun xs => (xs.map blk).sum + 1) := ⟨fun h => by
  rcases open_slice ht h with ⟨rfl, e⟩ | ⟨a, len, cap, m, n, D, Pl, rfl, hb, hl, hm, hmm, e, hx⟩
  · cases e
    exact ⟨[], ⟨none, 0, rfl, Nat.le_refl _, rfl, by simp, fun h => absurd h (by simp)⟩, (fun x hx => by cases hx), by simp [Rows.uptoBulk]⟩
  · cases e
    have hlm : len ≤ m := by rw [hmm]; split <;> omega
    obtain ⟨xs, hxl, hxs⟩ := pick (fun i x => ∃ cs', _ ∧ K.K _ x cs' ∧ ok x ∧ blk x ≤ Rows.uptoBulk (D i)) len (fun i hi => by
      obtain ⟨cs', h1, h2⟩ := hx i (by omega)
      obtain ⟨x, k1, k2, k3⟩ := he.opn h2
      exact ⟨x, cs', h1, k1, k2, k3⟩)
    subst hxl
    refine ⟨xs, ⟨some a, cap, rfl, hl, rfl, by unfold maxLen at hm; omega, fun _ => ⟨a, rfl, fun j p hj => ?_⟩⟩, fun x hx => ?_, ?_⟩
    · obtain ⟨cs', h1, k1, _⟩ := hxs j p hj
      refine ⟨cs', K.K_len k1, k1, fun i u hu => ?_⟩
      obtain ⟨_, h2, h3⟩ := World.cells?_some h1
      have h4 := h3 i (by have := (List.getElem?_eq_some_iff.1 hu).1; omega)
      rw [hc, Deep.add_add] at h4
      exact h4.trans hu
    · obtain ⟨i, hi, rfl⟩ := List.mem_iff_getElem.1 hx
      obtain ⟨_, _, _, k2, _⟩ := hxs i _ (List.getElem?_eq_getElem hi)
      exact k2
    · have := bulk_sum (H := _) (blk := blk) xs D (fun i x hx => by obtain ⟨_, _, _, _, k3⟩ := hxs i x hx; exact k3)
      simp only [Rows.uptoBulk]
      omega⟩
end Go.Proofs.YtlojemnmdakfiaaDoor.Open
end
section
namespace Go.Proofs.YtlojemnmdakfiaaDoor.Prog6
open Go.RowKit Go.Proofs.YtlojemnmdakfiaaDoorW.PrintWords Go.Proofs.YtlojemnmdakfiaaDoorW.PrintLast Go.Proofs.YtlojemnmdakfiaaDoorW.PrintMore
set_option linter.unusedVariables false
set_option linter.unusedSimpArgs false
def plain (r : Int) : Bool := decide (97 ≤ r) && decide (r ≤ 122) || decide (48 ≤ r) && decide (r ≤ 57) || (r == 46) || (r == 95) || (r == 45)
def pathFrom (s : ByteArray) : Nat → Nat → Int → Bool
  | 0, _, _ => true
  | fuel + 1, pos, last => if pos < s.size then (if (!plain (Utf8.decode s pos).1 && (((Utf8.decode s pos).1 : Int) != 47 || last == 47)) = true then false else pathFrom s fuel (pos + (Utf8.decode s pos).2) (Utf8.decode s pos).1) else true
def isPath (s : ByteArray) : Bool := if h : 1 ≤ s.size ∧ s.size ≤ 40 then (if ((((s[s.size - 1]'(by omega)).toNat : Nat) : Int) == 47) = true then false else pathFrom s s.size 0 47) else false
theorem width_pos (s : ByteArray) (pos : Nat) (h : pos < s.size) : 1 ≤ (Utf8.decode s pos).2 := by
  by_cases ha : (s[pos]'h).toNat < 128
  · rw [decode_ascii s pos h ha]
    exact Nat.le_refl _
  · exact (decode_high s pos h (by omega)).2
theorem pathFrom_end (s : ByteArray) (fuel pos : Nat) (l : Int) (h : ¬ pos < s.size) : pathFrom s fuel pos l = true := by
  cases fuel with
  | zero => rfl
  | succ f => simp [pathFrom, h]
set_option maxHeartbeats 3200000 in
set_option maxRecDepth 100000 in
theorem isPath_calls (s : ByteArray) (w : World) (hs63 : s.size ≤ 9223372036854775807) :
    Calls Tryd.prog 45 #[.string s] w fun e w' => e = .returned (.bool (isPath s)) ∧ Below w.heap.size w w' := by
  by_cases h1 : s.size < 1
  · have e1 : decide ((s.size : Int) < 1) = true := decide_eq_true (by omega)
    have e1' : decide (s.size < 1) = true := decide_eq_true h1
    have HV := Aside0.mk (show isPath s = false by unfold isPath; rw [dif_neg (by omega)])
    rw [HV.out]
    clear h1
    go_enter Tryd.func45, Tryd.ntmps45
    go_wp2
    go_ret
    exact ⟨rfl, Below.refl _ _⟩
  have e1 : decide ((s.size : Int) < 1) = false := decide_eq_false (by omega)
  by_cases h2 : s.size > 40
  · have e2 : decide ((s.size : Int) > 40) = true := decide_eq_true (by omega)
    have HV := Aside0.mk (show isPath s = false by unfold isPath; rw [dif_neg (by omega)])
    rw [HV.out]
    clear h1 h2
    go_enter Tryd.func45, Tryd.ntmps45
    go_wp2
    go_ret
    exact ⟨rfl, Below.refl _ _⟩
  have e2 : decide ((s.size : Int) > 40) = false := decide_eq_false (by omega)
  by_cases hl : ((((s[s.size - 1]'(by omega)).toNat : Nat) : Int) == 47) = true
  · have HV := Aside0.mk (show isPath s = false by unfold isPath; rw [dif_pos ⟨by omega, by omega⟩, if_pos hl])
    rw [HV.out]
    go_enter Tryd.func45, Tryd.ntmps45
    go_wp2
    go_ret
    exact ⟨rfl, Below.refl _ _⟩
  have hl' : ((((s[s.size - 1]'(by omega)).toNat : Nat) : Int) == 47) = false := by simpa using hl
  have HV := Aside0.mk (show isPath s = pathFrom s s.size 0 47 by unfold isPath; rw [dif_pos ⟨by omega, by omega⟩, if_neg hl])
  clear hl
  rw [HV.out]
  generalize hgp : pathFrom s s.size 0 47 = R
  have HP := Aside0.mk hgp
  clear hgp HV
  go_enter Tryd.func45, Tryd.ntmps45
  go_wp2
  go_loopw [3] (fun l wr => ∃ (pos fuel : Nat) (last : Int), l = .int .i32 last ∧ Aside0 (wr.heap[w.heap.size]? = some (.stringIter s pos)) ∧ Aside0 (Below w.heap.size w wr) ∧ Aside0 (pathFrom s fuel pos last = R) ∧ s.size ≤ pos + fuel) (fun _ wr => s.size - wr.iterPos w.heap.size)
  case atStart => exact ⟨0, s.size, 47, rfl, ⟨World.iter_heap _ _ _⟩, ⟨(Below.refl _ _).alloc (Nat.le_refl _) _⟩, HP, by omega⟩
  case round =>
    obtain ⟨pos, fuel, last, rfl, HIT, HB, HPF, hfu⟩ := hrel
    by_cases hp : pos < s.size
    · have hnx : ∀ ty, (Instr.next (.pointer (some ⟨w.heap.size, 0, none⟩)) true ty).run Tryd.prog wr = _ := fun ty => Lib.run_next_any_at wr w.heap.size s pos ty HIT.out hp
      have hwd := width_pos s pos hp
      have HIT2 := Aside0.mk (Lib.iterAt_heap wr w.heap.size s pos (pos + (Utf8.decode s pos).2) HIT.out)
      have HB2 := Aside0.mk (Lib.below_iterAt HB.out (k := w.heap.size) (Nat.le_refl _) s (pos + (Utf8.decode s pos).2))
      obtain ⟨fuel, rfl⟩ : ∃ f, fuel = f + 1 := ⟨fuel - 1, by omega⟩
      have HPF2 := Aside0.mk (show (if (!plain (Utf8.decode s pos).1 && (((Utf8.decode s pos).1 : Int) != 47 || last == 47)) = true then false else pathFrom s fuel (pos + (Utf8.decode s pos).2) (Utf8.decode s pos).1) = R by have h := HPF.out; simp only [pathFrom, if_pos hp] at h; exact h)
      have HPOS := Aside0.mk (show wr.iterPos w.heap.size = pos by unfold World.iterPos; rw [HIT.out])
      have HPOS2 := Aside0.mk (show (wr.iterAt w.heap.size s (pos + (Utf8.decode s pos).2)).iterPos w.heap.size = pos + (Utf8.decode s pos).2 by unfold World.iterPos; rw [HIT2.out])
      clear HPF HIT HB
      go_upto_region 7 with (fail)
      clear hnx
      generalize wr.iterAt w.heap.size s (pos + (Utf8.decode s pos).2) = wn at HIT2 HB2 HPOS2 ⊢
      generalize hgr : (((Utf8.decode s pos).1 : Nat) : Int) = r at HPF2 ⊢
      clear hgr
      generalize (Utf8.decode s pos).2 = wd at HIT2 HPOS2 HPF2 hwd
      go_cut [6] (fun v wc => v = .bool (plain r) ∧ wc = wn)
      case first =>
        by_cases q1 : 97 ≤ r
        · skip
          by_cases q2 : r ≤ 122
          · skip
            have d10 : decide (r ≥ 97) = true := decide_eq_true (by omega)
            have d11 : decide (97 ≤ r) = true := decide_eq_true (by omega)
            have d20 : decide (r ≤ 122) = true := decide_eq_true (by omega)
            have d30 : decide (r ≥ 48) = true := decide_eq_true (by omega)
            have d31 : decide (48 ≤ r) = true := decide_eq_true (by omega)
            have d40 : decide (r ≤ 57) = false := decide_eq_false (by omega)
            have d5 : (r == 46) = false := by simp; omega
            have d6 : (r == 95) = false := by simp; omega
            have d7 : (r == 45) = false := by simp; omega
            have HV := Aside0.mk (show plain r = true by unfold plain; rw [d11, d20, d31, d40, d5, d6, d7]; rfl)
            go_wp2
            go_meet
            case rel => exact ⟨by rw [HV.out], rfl⟩
          · skip
            have d10 : decide (r ≥ 97) = true := decide_eq_true (by omega)
            have d11 : decide (97 ≤ r) = true := decide_eq_true (by omega)
            have d20 : decide (r ≤ 122) = false := decide_eq_false (by omega)
            have d30 : decide (r ≥ 48) = true := decide_eq_true (by omega)
            have d31 : decide (48 ≤ r) = true := decide_eq_true (by omega)
            have d40 : decide (r ≤ 57) = false := decide_eq_false (by omega)
            have d5 : (r == 46) = false := by simp; omega
            have d6 : (r == 95) = false := by simp; omega
            have d7 : (r == 45) = false := by simp; omega
            have HV := Aside0.mk (show plain r = false by unfold plain; rw [d11, d20, d31, d40, d5, d6, d7]; rfl)
            go_wp2
            go_meet
            case rel => exact ⟨by rw [HV.out], rfl⟩
        · skip
          by_cases q3 : 48 ≤ r
          · skip
            by_cases q4 : r ≤ 57
            · skip
              have d10 : decide (r ≥ 97) = false := decide_eq_false (by omega)
              have d11 : decide (97 ≤ r) = false := decide_eq_false (by omega)
              have d20 : decide (r ≤ 122) = true := decide_eq_true (by omega)
              have d30 : decide (r ≥ 48) = true := decide_eq_true (by omega)
              have d31 : decide (48 ≤ r) = true := decide_eq_true (by omega)
              have d40 : decide (r ≤ 57) = true := decide_eq_true (by omega)
              have d5 : (r == 46) = false := by simp; omega
              have d6 : (r == 95) = false := by simp; omega
              have d7 : (r == 45) = false := by simp; omega
              have HV := Aside0.mk (show plain r = true by unfold plain; rw [d11, d20, d31, d40, d5, d6, d7]; rfl)
              go_wp2
              go_meet
              case rel => exact ⟨by rw [HV.out], rfl⟩
            · skip
              by_cases q6 : r = 95
              · skip
                have d10 : decide (r ≥ 97) = false := decide_eq_false (by omega)
                have d11 : decide (97 ≤ r) = false := decide_eq_false (by omega)
                have d20 : decide (r ≤ 122) = true := decide_eq_true (by omega)
                have d30 : decide (r ≥ 48) = true := decide_eq_true (by omega)
                have d31 : decide (48 ≤ r) = true := decide_eq_true (by omega)
                have d40 : decide (r ≤ 57) = false := decide_eq_false (by omega)
                have d5 : (r == 46) = false := by simp; omega
                have d6 : (r == 95) = true := by simp; omega
                have d7 : (r == 45) = false := by simp; omega
                have HV := Aside0.mk (show plain r = true by unfold plain; rw [d11, d20, d31, d40, d5, d6, d7]; rfl)
                clear q6
                go_wp2
                go_meet
                case rel => exact ⟨by rw [HV.out], rfl⟩
              · skip
                have d10 : decide (r ≥ 97) = false := decide_eq_false (by omega)
                have d11 : decide (97 ≤ r) = false := decide_eq_false (by omega)
                have d20 : decide (r ≤ 122) = true := decide_eq_true (by omega)
                have d30 : decide (r ≥ 48) = true := decide_eq_true (by omega)
                have d31 : decide (48 ≤ r) = true := decide_eq_true (by omega)
                have d40 : decide (r ≤ 57) = false := decide_eq_false (by omega)
                have d5 : (r == 46) = false := by simp; omega
                have d6 : (r == 95) = false := by simp; omega
                have d7 : (r == 45) = false := by simp; omega
                have HV := Aside0.mk (show plain r = false by unfold plain; rw [d11, d20, d31, d40, d5, d6, d7]; rfl)
                go_wp2
                go_meet
                case rel => exact ⟨by rw [HV.out], rfl⟩
          · skip
            by_cases q5 : r = 46
            · skip
              have d10 : decide (r ≥ 97) = false := decide_eq_false (by omega)
              have d11 : decide (97 ≤ r) = false := decide_eq_false (by omega)
              have d20 : decide (r ≤ 122) = true := decide_eq_true (by omega)
              have d30 : decide (r ≥ 48) = false := decide_eq_false (by omega)
              have d31 : decide (48 ≤ r) = false := decide_eq_false (by omega)
              have d40 : decide (r ≤ 57) = true := decide_eq_true (by omega)
              have d5 : (r == 46) = true := by simp; omega
              have d6 : (r == 95) = false := by simp; omega
              have d7 : (r == 45) = false := by simp; omega
              have HV := Aside0.mk (show plain r = true by unfold plain; rw [d11, d20, d31, d40, d5, d6, d7]; rfl)
              clear q5
              go_wp2
              go_meet
              case rel => exact ⟨by rw [HV.out], rfl⟩
            · skip
              by_cases q7 : r = 45
              · skip
                have d10 : decide (r ≥ 97) = false := decide_eq_false (by omega)
                have d11 : decide (97 ≤ r) = false := decide_eq_false (by omega)
                have d20 : decide (r ≤ 122) = true := decide_eq_true (by omega)
                have d30 : decide (r ≥ 48) = false := decide_eq_false (by omega)
                have d31 : decide (48 ≤ r) = false := decide_eq_false (by omega)
                have d40 : decide (r ≤ 57) = true := decide_eq_true (by omega)
                have d5 : (r == 46) = false := by simp; omega
                have d6 : (r == 95) = false := by simp; omega
                have d7 : (r == 45) = true := by simp; omega
                have HV := Aside0.mk (show plain r = true by unfold plain; rw [d11, d20, d31, d40, d5, d6, d7]; rfl)
                clear q7
                go_wp2
                go_meet
                case rel => exact ⟨by rw [HV.out], rfl⟩
              · skip
                have d10 : decide (r ≥ 97) = false := decide_eq_false (by omega)
                have d11 : decide (97 ≤ r) = false := decide_eq_false (by omega)
                have d20 : decide (r ≤ 122) = true := decide_eq_true (by omega)
                have d30 : decide (r ≥ 48) = false := decide_eq_false (by omega)
                have d31 : decide (48 ≤ r) = false := decide_eq_false (by omega)
                have d40 : decide (r ≤ 57) = true := decide_eq_true (by omega)
                have d5 : (r == 46) = false := by simp; omega
                have d6 : (r == 95) = false := by simp; omega
                have d7 : (r == 45) = false := by simp; omega
                have HV := Aside0.mk (show plain r = false by unfold plain; rw [d11, d20, d31, d40, d5, d6, d7]; rfl)
                go_wp2
                go_meet
                case rel => exact ⟨by rw [HV.out], rfl⟩
      case rest =>
        obtain ⟨rfl, rfl⟩ := hcut
        have hd31 := decide_eq_true (p := True) trivial
        cases hpl : plain r with
        | true =>
          have HPF3 := Aside0.mk (show pathFrom s fuel (pos + wd) r = R by have h := HPF2.out; rw [hpl] at h; simpa using h)
          clear HPF2 hpl hd31
          go_wp2
          go_roundw
          case rel => exact ⟨pos + wd, fuel, r, rfl, HIT2, HB2, HPF3, by omega⟩
          case measure => rw [HPOS.out, HPOS2.out]; omega
        | false =>
          by_cases h47 : r = 47
          · have e47 : (r != 47) = false := by simp [h47]
            by_cases hl47 : last = 47
            · have el47 : (last == 47) = true := by simp [hl47]
              have HRF := Aside0.mk (show R = false by have h := HPF2.out; rw [hpl, e47, el47] at h; simpa using h.symm)
              clear HPF2 hpl hd31 h47 hl47
              go_wp2
              go_ret
              exact ⟨by rw [HRF.out]; rfl, HB2.out⟩
            · have el47 : (last == 47) = false := by simp [hl47]
              have HPF3 := Aside0.mk (show pathFrom s fuel (pos + wd) r = R by have h := HPF2.out; rw [hpl, e47, el47] at h; simpa using h)
              clear HPF2 hpl hd31 h47 hl47
              go_wp2
              go_roundw
              case rel => exact ⟨pos + wd, fuel, r, rfl, HIT2, HB2, HPF3, by omega⟩
              case measure => rw [HPOS.out, HPOS2.out]; omega
          · have e47 : (r != 47) = true := by simp [h47]
            have HRF := Aside0.mk (show R = false by have h := HPF2.out; rw [hpl, e47] at h; simpa using h.symm)
            clear HPF2 hpl hd31 h47
            go_wp2
            go_ret
            exact ⟨by rw [HRF.out]; rfl, HB2.out⟩
    · have hnx : ∀ ty, (Instr.next (.pointer (some ⟨w.heap.size, 0, none⟩)) true ty).run Tryd.prog wr = _ := fun ty => Lib.run_next_end_at wr w.heap.size s pos ty HIT.out hp
      have HR_ := Aside0.mk (show R = true by rw [← HPF.out]; exact pathFrom_end s fuel pos last hp)
      clear HIT HPF
      go_wp2
      go_ret
      exact ⟨by rw [HR_.out]; rfl, HB.out⟩
end Go.Proofs.YtlojemnmdakfiaaDoor.Prog6
end
section
namespace Go.Proofs.YtlojemnmdakfiaaDoor.Hand
open Go.RowKit Go.Proofs.YtlojemnmdakfiaaDoorW.PrintWords Go.Proofs.YtlojemnmdakfiaaDoorW.PrintLast Go.Proofs.YtlojemnmdakfiaaDoorW.PrintMore
set_option linter.unusedVariables false
set_option linter.unusedSimpArgs false
def digsF : Nat → Nat → List Int → List Int
  | 0, _, acc => acc
  | k + 1, n, acc => if n = 0 then acc else digsF k (n / 256) (((n % 256 : Nat) : Int) :: acc)
def digs (n : Nat) : List Int := digsF 8 n []
def formL (n : Nat) : List Int := ((digs n).length : Int) :: digs n
theorem digsF_zero (k : Nat) (acc : List Int) : digsF k 0 acc = acc := by cases k <;> simp [digsF]
def cells9 (acc : List Int) : Array Value := (List.replicate (9 - acc.length) (Value.int .u8 0) ++ acc.map (Value.int .u8)).toArray
theorem cells9_cons (acc : List Int) (x : Int) (h : acc.length < 9) (i : Nat) (hi : i = 8 - acc.length) :
    (cells9 acc).setIfInBounds i (.int .u8 x) = cells9 (x :: acc) := by
  subst hi
  unfold cells9
  rw [List.setIfInBounds_toArray]
  congr 1
  rw [List.set_append_left _ _ (by simp; omega)]
  rw [show 9 - acc.length = (8 - acc.length) + 1 by omega, List.replicate_succ']
  rw [List.set_append_right _ _ (by simp)]
  simp only [List.length_replicate, Nat.sub_self, List.set_cons_zero, List.length_cons, List.map_cons, List.append_assoc, List.singleton_append]
  rw [show 9 - (acc.length + 1) = 8 - acc.length by omega]
def At (n m : Nat) (acc : List Int) : Prop := acc.length ≤ 8 ∧ m < 256 ^ (8 - acc.length) ∧ digsF (8 - acc.length) m acc = digs n
theorem At.start (n : Nat) (h : n < 18446744073709551616) : At n n [] := ⟨by simp, by simpa using h, rfl⟩
theorem At.step {n m : Nat} {acc : List Int} (h : At n m acc) (h0 : 0 < m) : acc.length ≤ 7 ∧ At n (m / 256) (((m % 256 : Nat) : Int) :: acc) := by
  obtain ⟨h1, h2, h3⟩ := h
  have h7 : acc.length ≤ 7 := by
    rcases Nat.lt_or_ge acc.length 8 with h | h
    · omega
    · have : acc.length = 8 := by omega
      rw [this] at h2
      simp at h2
      omega
  refine ⟨h7, by simp; omega, ?_, ?_⟩
  · rw [List.length_cons, Nat.div_lt_iff_lt_mul (by omega)]
    rw [show 8 - acc.length = (8 - (acc.length + 1)) + 1 by omega, Nat.pow_succ] at h2
    exact h2
  · rw [← h3, List.length_cons, show 8 - acc.length = (8 - (acc.length + 1)) + 1 by omega]
    conv => rhs; rw [digsF]
    rw [if_neg (by omega)]
theorem At.done {n : Nat} {acc : List Int} (h : At n 0 acc) : acc = digs n := by rw [← h.2.2, digsF_zero]
theorem digs_len (n : Nat) (h : n < 18446744073709551616) : (digs n).length ≤ 8 := by
  have key : ∀ d m acc, m ≤ d → At n m acc → (digs n).length ≤ 8 := by
    intro d
    induction d with
    | zero => intro m acc hm ha; obtain rfl : m = 0 := by omega
              rw [← ha.done]; exact ha.1
    | succ d ih =>
      intro m acc hm ha
      by_cases h0 : m = 0
      · subst h0; rw [← ha.done]; exact ha.1
      · exact ih _ _ (by omega) (ha.step (by omega)).2
  exact key n n [] (Nat.le_refl _) (At.start n h)
theorem cells9_at (w : World) (acc : List Int) (k : Nat) (hk : k + acc.length = 8) : (w.alloc (.cells (cells9 acc) 94)).cell? ⟨w.heap.size, k, none⟩ = some (.int .u8 0) := by
  rw [cell_of_row (fr := (0, 0)) _ _ _ (cells9 acc) 94 (by show (w.heap.push _)[w.heap.size]? = _; simp)]
  unfold cells9
  simp only [List.getElem?_toArray]
  rw [List.getElem?_append_left (by simp; omega), List.getElem?_replicate, if_pos (by omega)]
set_option maxHeartbeats 800000 in
theorem form_calls (n : Nat) (hn : n < 18446744073709551616) (w : World) :
    Calls Tryd.prog 40 #[.int .u64 n] w fun e w' => e = .returned (.slice (some ⟨w.heap.size, 8 - (digs n).length, none⟩) (formL n).length (formL n).length) ∧ w' = w.alloc (.cells (cells9 (formL n)) 94) := by
  go_enter Tryd.func40, Tryd.ntmps40
  go_wp2
  go_step3
  go_wp2
  go_step3
  go_wp2
  have hu := Tryd.underlying94
  have hu5 := Tryd.underlying5
  go_loopw [0, 4] (fun v0 v4 wr => ∃ (m k : Nat) (acc : List Int), k + acc.length = 8 ∧ v0 = .int .u64 m ∧ v4 = .int .i64 ((k : Int) + 1) ∧ Aside0 (At n m acc) ∧ Aside0 (wr = w.alloc (.cells (cells9 acc) 94))) (fun v0 _ _ => (intOf v0).toNat)
  case atStart => exact ⟨n, 8, [], rfl, rfl, rfl, ⟨At.start n hn⟩, ⟨rfl⟩⟩
  case round =>
    obtain ⟨m, k, acc, hk, rfl, rfl, hA, hw⟩ := hrel
    obtain ⟨rfl⟩ := hw
    have hcell : (w.alloc (.cells (cells9 acc) 94)).cell? ⟨w.heap.size, k, none⟩ = some (.int .u8 0) := cells9_at w acc k hk
    have hk9 : (k : Int) ≤ 9 := by omega
    by_cases h0 : m = 0
    · subst h0
      go_wp2
      rw [Exit.noGoto_ret]
      go_ret
      have hd := hA.out.done
      subst hd
      have e1 : cells9 (formL n) = (cells9 (digs n)).setIfInBounds k (Value.int IntKind.u8 (8 - ↑k)) := by
        rw [show (8 : Int) - k = ((digs n).length : Int) by omega]
        exact (cells9_cons (digs n) _ (by omega) k (by omega)).symm
      rw [e1]
      refine ⟨?_, rfl⟩
      have e2 : (formL n).length = 9 - k := by simp [formL]; omega
      rw [e2, show 8 - (digs n).length = k by omega]
      rfl
    · have hb : ((m : Int) == 0) = false := by simp; omega
      go_wp2
      obtain ⟨h7, hs⟩ := hA.out.step (by omega)
      obtain ⟨j, rfl⟩ : ∃ j, k = j + 1 := ⟨k - 1, by omega⟩
      refine ⟨⟨m / 256, j, _, ?_, by go_num, by go_num, ⟨hs⟩, ⟨?_⟩⟩, by simp [intOf]; omega⟩
      · simp only [List.length_cons]; omega
      · rw [← cells9_cons acc _ (by omega) (j + 1) (by omega)]
        congr 3
end Go.Proofs.YtlojemnmdakfiaaDoor.Hand
end
section
namespace Go.Proofs.YtlojemnmdakfiaaDoor.Hand
open Go.RowKit Go.Proofs.YtlojemnmdakfiaaDoorW.PrintWords Go.Proofs.YtlojemnmdakfiaaDoorW.PrintLast Go.Proofs.YtlojemnmdakfiaaDoorW.PrintMore
set_option linter.unusedVariables false
set_option linter.unusedSimpArgs false
theorem info5 : (Tryd.prog.info? 5).map (fun i => (i.zero, i.size, i.bytes)) = some (some (.int .u8 0), 1, 1) := by kernel_rfl
abbrev B := Kd.int .u8
def rowD (xs : List (List Int)) (k : Nat) : List Int := xs.getD k []
def flen (xs : List (List Int)) (k : Nat) : Nat := (xs.take k).flatten.length
theorem row_at {w : World} {A : Option Addr} {n : Nat} {xs : List (List Int)} (h : Kd.C (Kd.slice 5 B) w A n xs) (k : Nat) (hk : k < n) : ∃ ad A0 c0, A = some ad ∧ w.cell? (ad.add k) = some (.slice A0 (rowD xs k).length c0) ∧ (rowD xs k).length ≤ c0 ∧ B.C w A0 (rowD xs k).length (rowD xs k) := by
  obtain ⟨ad, c, e, _, hK, hc0⟩ := Kd.C_get h ([] : List Int) (k : Int) (by omega) (by omega)
  have hc : ∀ j u, c[j]? = some u → w.cell? (ad.add (k * 1 + j)) = some u := hc0
  obtain ⟨A0, c0, rfl, l0, g0⟩ := hK
  simp only [Int.toNat_natCast] at l0 g0 hc
  exact ⟨ad, A0, c0, e, by have hq := hc 0 _ rfl; rwa [Nat.mul_one, Nat.add_zero] at hq, l0, g0⟩
theorem flen_succ (xs : List (List Int)) (k : Nat) (hk : k < xs.length) : flen xs (k + 1) = flen xs k + (rowD xs k).length := by
  unfold flen rowD
  rw [List.take_succ_eq_append_getElem hk, List.flatten_append, List.getD_eq_getElem?_getD, List.getElem?_eq_getElem hk]
  simp
theorem flen_all (xs : List (List Int)) : flen xs xs.length = xs.flatten.length := by unfold flen; rw [List.take_length]
theorem flen_le (xs : List (List Int)) (k : Nat) : flen xs k ≤ flen xs xs.length := by
  rw [flen_all]
  unfold flen
  conv => rhs; rw [← List.take_append_drop k xs, List.flatten_append, List.length_append]
  omega
theorem flat_take (xs : List (List Int)) (k : Nat) (hk : k < xs.length) : (xs.take (k + 1)).flatten = (xs.take k).flatten ++ rowD xs k := by
  unfold rowD
  rw [List.take_succ_eq_append_getElem hk, List.flatten_append, List.getD_eq_getElem?_getD, List.getElem?_eq_getElem hk]
  simp
theorem ival {k : IntKind} {a b : Int} (h : a = b) : Value.int k a = .int k b := by rw [h]
set_option maxHeartbeats 1600000 in
theorem behind_calls (A0 : Option Addr) (c0 : Nat) (l0 : List (List Int)) (w : World) (hr0 : Kd.C (Kd.slice 5 B) w A0 l0.length l0) (hc0 : l0.length ≤ c0) (hL : flen l0 l0.length < 140737488355328) :
    Calls Tryd.prog 39 #[.slice A0 l0.length c0] w fun e w' => ∃ v0_ : Value, e = .returned v0_ ∧ Kd.R B 5 w' w.heap.size (fun _ => True) v0_ l0.flatten ∧ Below w.heap.size w w' := by
  have HR := Aside0.mk hr0
  have hlen : l0.length ≤ 9223372036854775807 := hr0.2.1
  clear hr0
  go_enter Tryd.func39, Tryd.ntmps39
  go_wp2
  go_loop [3, 11] (fun s i => ∃ k : Nat, k ≤ l0.length ∧ i = .int .i64 k ∧ s = .int .i64 (flen l0 k)) (fun _ i => l0.length - (intOf i).toNat)
  case atStart => exact ⟨0, Nat.zero_le _, rfl, rfl⟩
  case round =>
    obtain ⟨k, hk, rfl, rfl⟩ := hrel
    have hb := flen_le l0 k
    by_cases hlt : k < l0.length
    · obtain ⟨ad, A1, c1, rfl, hx, _, _⟩ := row_at HR.out k hlt
      have hb1 := flen_le l0 (k + 1)
      have HS := Aside0.mk (flen_succ l0 k hlt)
      have hq : flen l0 k + (rowD l0 k).length ≤ flen l0 l0.length := by rw [HS.out] at hb1; exact hb1
      clear hb1
      go_wp2
      go_round
      case rel => exact ⟨k + 1, by omega, by go_num, ival (by rw [HS.out]; omega)⟩
      case measure => simp [intOf]; omega
    · obtain rfl : k = l0.length := by omega
      obtain ⟨i0, hi0, hz0, hz1, hz2⟩ := info_parts info5
      go_wp2_with ((with_reducible refine gate_dst (N := 21) rfl ?_); refine wpList_make_own w rfl _ _ 30 rfl w.heap.size 5 i0 (.int .u8 0) 1 Tryd.underlying30 hi0 hz0 hz1 .i64 .i64 _ (flen l0 l0.length) rfl rfl rfl ?c1 ?c2 (Nat.le_refl _) ?_; (case c1 => rw [hz2]; omega); (case c2 => unfold maxLen; omega); intro w1 hown hgrow; have HO := Aside0.mk (show Kd.R B 5 w1 w.heap.size (fun _ => True) (.slice (some ⟨w.heap.size, 0, none⟩) 0 (flen l0 l0.length)) [] from ⟨fun _ _ => trivial, [], hown, Reps.none _ _⟩); have HB := Aside0.mk ((Below.refl w.heap.size w).grown hgrow (Nat.le_refl _) (fun _ h => by cases h)); clear hown hgrow)
      go_loopw [6, 24] (fun v i wr => ∃ k : Nat, k ≤ l0.length ∧ i = .int .i64 k ∧ Aside0 (Kd.R B 5 wr w.heap.size (fun _ => True) v (l0.take k).flatten) ∧ Aside0 (Below w.heap.size w wr)) (fun _ i _ => l0.length - (intOf i).toNat)
      case atStart => exact ⟨0, Nat.zero_le _, rfl, HO, HB⟩
      case round =>
        clear HO HB
        obtain ⟨k, hk, rfl, HO, HB⟩ := hrel
        by_cases hlt : k < l0.length
        · obtain ⟨ad, A1, c1, rfl, hx, hc1, hr1⟩ := row_at (Kd.C_below HR.out HB.out) k hlt
          have hq : flen l0 k + (rowD l0 k).length ≤ flen l0 l0.length := by rw [← flen_succ l0 k hlt]; exact flen_le l0 (k + 1)
          have HF := Aside0.mk (flat_take l0 k hlt)
          have HR1 := Aside0.mk hr1
          clear hr1
          go_wp2_with ((with_reducible refine gate_builtin (b := .append) (xs := #[.tmp 28, .tmp 29]) rfl ?_); at_builtin; refine Kd.R_append_rows B (w0 := w) w.heap.size rfl (.tmp 28) (.tmp 29) 30 5 (.int .u8 0) 1 rfl Tryd.underlying30 info5 rfl (by decide) (by omega) _ (l0.take k).flatten (rowD l0 k) _ _ _ (fun _ => True) (fun _ => False) rfl rfl HO.out HR1.out (fun _ _ h => h) (fun _ h => h.elim) (fun _ _ => trivial) HB.out (HB.out.size) ?aL ?_; (case aL => have h2 : (l0.take k).flatten.length + (rowD l0 k).length ≤ flen l0 l0.length := hq; omega); intro v2 w2 ho hb2 hg hat; rw [← HF.out] at ho; have HO2 := Aside0.mk ho; have HB2 := Aside0.mk hb2; clear ho hb2 hg hat)
          go_roundw
          case rel => exact ⟨k + 1, by omega, by go_num, HO2, HB2⟩
          case measure => simp [intOf]; omega
        · obtain rfl : k = l0.length := by omega
          go_wp2
          go_ret
          exact ⟨_, rfl, by have h := HO.out; rwa [List.take_length] at h, HB.out⟩
end Go.Proofs.YtlojemnmdakfiaaDoor.Hand
end
section
namespace Go.Proofs.YtlojemnmdakfiaaDoor.Hand
open Go.RowKit Go.Proofs.YtlojemnmdakfiaaDoorW.PrintWords Go.Proofs.YtlojemnmdakfiaaDoorW.PrintLast Go.Proofs.YtlojemnmdakfiaaDoorW.PrintMore
set_option linter.unusedVariables false
set_option linter.unusedSimpArgs false
theorem add_zero3 (g o j : Nat) : (⟨g, o, none⟩ : Addr).add j = ⟨g, o + j, none⟩ := by
  unfold Addr.add
  split <;> simp_all
theorem C_block {w : World} {g off : Nat} {cs : Array Value} {t : TypeId} {fr : Nat × Nat} (k : IntKind) (hg : w.heap[g]? = some (.cells cs t fr)) (xs : List Int) (h : ∀ (j : Nat) (x : Int), xs[j]? = some x → cs[off + j]? = some (.int k x)) (hl : xs.length ≤ 9223372036854775807) :
    (Kd.int k).C w (some ⟨g, off, none⟩) xs.length xs := by
  refine ⟨rfl, hl, fun _ => ⟨_, rfl, fun j p hj => ⟨[.int k p], rfl, rfl, fun i u hu => ?_⟩⟩⟩
  have hi : i = 0 := by
    rcases i with _ | i
    · rfl
    · simp at hu
  subst hi
  have hu' : u = .int k p := by simpa using hu.symm
  subst hu'
  rw [add_zero3, cell_of_row w g _ cs t fr hg]
  show cs[off + (j * 1 + 0)]? = _
  rw [show off + (j * 1 + 0) = off + j by omega]
  exact h j p hj
theorem C_rows_block {w : World} {g : Nat} {cs : Array Value} {t : TypeId} {fr : Nat × Nat} (e : Nat) (hg : w.heap[g]? = some (.cells cs t fr)) (xs : List (List Int)) (h : ∀ (j : Nat) (x : List Int), xs[j]? = some x → ∃ A c, cs[j]? = some (.slice A x.length c) ∧ x.length ≤ c ∧ B.C w A x.length x) (hl : xs.length ≤ 9223372036854775807) :
    Kd.C (Kd.slice e B) w (some ⟨g, 0, none⟩) xs.length xs := by
  refine ⟨rfl, hl, fun _ => ⟨_, rfl, fun j p hj => ?_⟩⟩
  obtain ⟨A, c, h1, h2, h3⟩ := h j p hj
  refine ⟨[.slice A p.length c], rfl, ⟨A, c, rfl, h2, h3⟩, fun i u hu => ?_⟩
  have hi : i = 0 := by
    rcases i with _ | i
    · rfl
    · simp at hu
  subst hi
  have hu' : u = .slice A p.length c := by simpa using hu.symm
  subst hu'
  rw [add_zero3, cell_of_row w g _ cs t fr hg]
  show cs[0 + (j * 1 + 0)]? = _
  rw [show 0 + (j * 1 + 0) = j by omega]
  exact h1
theorem heap_new (w : World) (o : Obj) : (w.alloc o).heap[w.heap.size]? = some o := by
  show (w.heap.push o)[w.heap.size]? = some o
  simp
theorem heap_new' (w : World) (o : Obj) (n : Nat) (h : n = w.heap.size) : (w.alloc o).heap[n]? = some o := by
  subst h
  exact heap_new w o
theorem formL_len (n : Nat) (h : n < 18446744073709551616) : (formL n).length ≤ 9 := by
  have := digs_len n h
  simp [formL]; omega
theorem cells9_get (xs : List Int) (h : xs.length ≤ 9) (j : Nat) (x : Int) (hj : xs[j]? = some x) : (cells9 xs)[9 - xs.length + j]? = some (.int .u8 x) := by
  unfold cells9
  simp only [List.getElem?_toArray]
  rw [List.getElem?_append_right (by simp)]
  simp [hj]
theorem form_reads (w : World) (t : TypeId) (n : Nat) (h : n < 18446744073709551616) : B.C (w.alloc (.cells (cells9 (formL n)) t)) (some ⟨w.heap.size, 8 - (digs n).length, none⟩) (formL n).length (formL n) := by
  have hl := formL_len n h
  have hd := digs_len n h
  refine C_block .u8 (heap_new _ _) _ (fun j x hj => ?_) (by omega)
  have := cells9_get (formL n) hl j x hj
  rwa [show 9 - (formL n).length = 8 - (digs n).length by simp [formL]] at this
theorem appendUint_calls (A0 : Option Addr) (c0 : Nat) (l0 : List Int) (n : Nat) (w : World) (hr0 : B.C w A0 l0.length l0) (hc0 : l0.length ≤ c0) (hn : n < 18446744073709551616) (hL : l0.length < 140737488355300) :
    Calls Tryd.prog 24 #[.slice A0 l0.length c0, .int .u64 n] w fun e w' => ∃ v0_ : Value, e = .returned v0_ ∧ Kd.R B 5 w' w.heap.size (fun _ => True) v0_ (l0 ++ formL n) ∧ Below w.heap.size w w' := by
  have HR := Aside0.mk hr0
  have hf := formL_len n hn
  clear hr0
  go_enter Tryd.func24, Tryd.ntmps24
  go_wp2_with (go_at_call 40; refine (form_calls n hn _).mono ?_; rintro e w' ⟨rfl, rfl⟩)
  refine (behind_calls (some ⟨_, 0, none⟩) 2 [l0, formL n] _ ?h1 (Nat.le_refl 2) ?h2).mono ?_
  case h1 =>
    refine C_rows_block _ (heap_new' _ _ _ (by simp)) [l0, formL n] (fun j x hj => ?_) (show 2 ≤ 9223372036854775807 by omega)
    rcases j with _ | _ | j
    · obtain rfl : l0 = x := by simpa using hj
      exact ⟨A0, c0, rfl, hc0, Kd.C_alloc (Kd.C_alloc HR.out _) _⟩
    · obtain rfl : formL n = x := by simpa using hj
      exact ⟨_, _, rfl, Nat.le_refl _, Kd.C_alloc (form_reads w _ n hn) _⟩
    · simp at hj
  case h2 => simp [flen]; omega
  rintro e w' ⟨v, rfl, hr, hb⟩
  go_wp2
  go_ret
  refine ⟨v, rfl, ?_, ?_⟩
  · have h9 : w.heap.size ≤ ((w.alloc (.cells (cells9 (formL n)) 94)).alloc (.cells #[.slice A0 l0.length c0, .slice (some ⟨w.heap.size, 8 - (digs n).length, none⟩) (formL n).length (formL n).length] 30)).heap.size := by simp; omega
    have := Kd.R_lower hr h9
    simpa using this
  · exact (((Below.refl w.heap.size w).alloc (Nat.le_refl _) _).alloc (by simp) _).trans (hb.mono (by simp; omega))
end Go.Proofs.YtlojemnmdakfiaaDoor.Hand
end
section
namespace Go.Proofs.YtlojemnmdakfiaaDoor.Hand
open Go.RowKit Go.Proofs.YtlojemnmdakfiaaDoorW.PrintWords Go.Proofs.YtlojemnmdakfiaaDoorW.PrintLast Go.Proofs.YtlojemnmdakfiaaDoorW.PrintMore
set_option linter.unusedVariables false
set_option linter.unusedSimpArgs false
def rowL (x : List Int) : List Int := formL x.length ++ x
theorem appendBytes_calls (A0 : Option Addr) (c0 : Nat) (l0 : List Int) (A1 : Option Addr) (c1 : Nat) (l1 : List Int) (w : World) (hr0 : B.C w A0 l0.length l0) (hc0 : l0.length ≤ c0) (hr1 : B.C w A1 l1.length l1) (hc1 : l1.length ≤ c1) (hL : l0.length + l1.length < 140737488355300) :
    Calls Tryd.prog 23 #[.slice A0 l0.length c0, .slice A1 l1.length c1] w fun e w' => ∃ v0_ : Value, e = .returned v0_ ∧ Kd.R B 5 w' w.heap.size (fun _ => True) v0_ (l0 ++ rowL l1) ∧ Below w.heap.size w w' := by
  have HR := Aside0.mk hr0
  have HR1 := Aside0.mk hr1
  have hn : l1.length < 18446744073709551616 := by omega
  have hf := formL_len l1.length hn
  clear hr0 hr1
  have hm : l1.length ≤ 18446744073709551615 := by omega
  go_enter Tryd.func23, Tryd.ntmps23
  go_wp2_with (go_at_call 40; refine (form_calls l1.length hn _).mono ?_; rintro e w' ⟨rfl, rfl⟩)
  refine (behind_calls (some ⟨_, 0, none⟩) 3 [l0, formL l1.length, l1] _ ?h1 (Nat.le_refl 3) ?h2).mono ?_
  case h1 =>
    refine C_rows_block _ (heap_new' _ _ _ (by simp)) [l0, formL l1.length, l1] (fun j x hj => ?_) (show 3 ≤ 9223372036854775807 by omega)
    rcases j with _ | _ | _ | j
    · obtain rfl : l0 = x := by simpa using hj
      exact ⟨A0, c0, rfl, hc0, Kd.C_alloc (Kd.C_alloc HR.out _) _⟩
    · obtain rfl : formL l1.length = x := by simpa using hj
      exact ⟨_, _, rfl, Nat.le_refl _, Kd.C_alloc (form_reads w _ l1.length hn) _⟩
    · obtain rfl : l1 = x := by simpa using hj
      exact ⟨A1, c1, rfl, hc1, Kd.C_alloc (Kd.C_alloc HR1.out _) _⟩
    · simp at hj
  case h2 => simp [flen]; omega
  rintro e w' ⟨v, rfl, hr, hb⟩
  go_wp2
  go_ret
  refine ⟨v, rfl, ?_, ?_⟩
  · have h9 : w.heap.size ≤ ((w.alloc (.cells (cells9 (formL l1.length)) 94)).alloc (.cells #[.slice A0 l0.length c0, .slice (some ⟨w.heap.size, 8 - (digs l1.length).length, none⟩) (formL l1.length).length (formL l1.length).length, .slice A1 l1.length c1] 30)).heap.size := by simp; omega
    have := Kd.R_lower hr h9
    simpa [rowL] using this
  · exact (((Below.refl w.heap.size w).alloc (Nat.le_refl _) _).alloc (by simp) _).trans (hb.mono (by simp; omega))
end Go.Proofs.YtlojemnmdakfiaaDoor.Hand
end
section
namespace Go.Proofs.YtlojemnmdakfiaaDoor.Tr
open Go.RowKit Go.Proofs.YtlojemnmdakfiaaDoorW.PrintWords Go.Proofs.YtlojemnmdakfiaaDoorW.PrintLast Go.Proofs.YtlojemnmdakfiaaDoorW.PrintMore
set_option linter.unusedVariables false
set_option linter.unusedSimpArgs false
open Go.Proofs.YtlojemnmdakfiaaDoor.Prog6 (isPath isPath_calls)
open Go.Proofs.YtlojemnmdakfiaaDoor.Hand
abbrev Fl := ByteArray × List Int
abbrev KF : Kd Fl := Kd.pair Kd.string (Kd.slice 5 B)
theorem KF_cells {w : World} {x : Fl} {cs : List Value} (h : KF.K w x cs) : ∃ A0 c0, cs = [.string x.1, .slice A0 x.2.length c0] ∧ x.2.length ≤ c0 ∧ B.C w A0 x.2.length x.2 := by
  obtain ⟨a0, r0, rfl, h0, A0, c0, rfl, hl, hc⟩ := h
  have e0 : a0 = [.string x.1] := h0
  subst e0
  exact ⟨A0, c0, rfl, hl, hc⟩
theorem row_cf {w : World} {A : Option Addr} {n : Nat} {xs : List Fl} (h : KF.C w A n xs) (k : Nat) (hk : k < n) (x : Fl) (hx : xs[k]? = some x) :
    ∃ ad A0 c0, A = some ad ∧ w.cell? (ad.add (k * 2)) = some (.string x.1) ∧ w.cell? ⟨(ad.add (k * 2)).block, (ad.add (k * 2)).off + 1, none⟩ = some (.slice A0 x.2.length c0) ∧ x.2.length ≤ c0 ∧ B.C w A0 x.2.length x.2 := by
  obtain ⟨ad, c, e, _, hK, hc0⟩ := Kd.C_get h ((⟨#[]⟩, []) : Fl) (k : Int) (by omega) (by omega)
  simp only [Int.toNat_natCast] at hK hc0
  rw [show xs.getD k ((⟨#[]⟩, []) : Fl) = x by rw [List.getD_eq_getElem?_getD, hx]; rfl] at hK
  obtain ⟨A0, c0, rfl, hl, hc⟩ := KF_cells hK
  have hsz : KF.sz = 2 := rfl
  rw [hsz] at hc0
  exact ⟨ad, A0, c0, e, hc0 0 _ rfl, (congrArg w.cell? (add_field ad (k * 2) 1 (by omega))).symm.trans (hc0 1 _ rfl), hl, hc⟩
def fileB (f : Fl) : List Int := rowL (bytesOf f.1) ++ rowL f.2
def treeB (t : List Fl) : List Int := formL t.length ++ (t.map fileB).flatten
end Go.Proofs.YtlojemnmdakfiaaDoor.Tr
end
section
namespace Go.Proofs.YtlojemnmdakfiaaDoor.Tr
open Go.RowKit Go.Proofs.YtlojemnmdakfiaaDoorW.PrintWords Go.Proofs.YtlojemnmdakfiaaDoorW.PrintLast Go.Proofs.YtlojemnmdakfiaaDoorW.PrintMore
set_option linter.unusedVariables false
set_option linter.unusedSimpArgs false
open Go.Proofs.YtlojemnmdakfiaaDoor.Prog6 (isPath isPath_calls)
open Go.Proofs.YtlojemnmdakfiaaDoor.Hand
theorem isPath_at {b : Bool} (s : ByteArray) (w : World) (hs63 : s.size ≤ 9223372036854775807) (hb : isPath s = b) :
    Calls Tryd.prog 45 #[.string s] w fun e w' => e = .returned (.bool b) ∧ Below w.heap.size w w' := by
  subst hb
  exact isPath_calls s w hs63
def ltS (a b : ByteArray) : Bool := Op.bytesLess a.toList b.toList
abbrev fl0 : Fl := (⟨#[]⟩, [])
def okF (xs : List Fl) (k : Nat) (x : Fl) : Bool := isPath x.1 && decide (x.2.length ≤ 2000) && (k == 0 || ltS (xs.getD (k - 1) fl0).1 x.1)
def okFs (xs : List Fl) : Nat → Bool
  | 0 => true
  | k + 1 => okFs xs k && okF xs k (xs.getD k fl0)
def sumF (xs : List Fl) : Nat → Nat
  | 0 => 0
  | k + 1 => sumF xs k + (xs.getD k fl0).2.length
def mayT (xs : List Fl) : Bool := decide (xs.length ≤ 16) && okFs xs xs.length && decide (sumF xs xs.length ≤ 4000)
theorem okFs_cut (xs : List Fl) : ∀ n k, okFs xs k = false → okFs xs (k + n) = false
  | 0, _, h => h
  | n + 1, k, h => by
    show (okFs xs (k + n) && _) = false
    rw [okFs_cut xs n k h, Bool.false_and]
theorem mayT_bad {xs : List Fl} {k : Nat} (hk : k < xs.length) (x : Fl) (hx : xs.getD k fl0 = x) (h : okF xs k x = false) : mayT xs = false := by
  have h1 : okFs xs (k + 1) = false := by show (okFs xs k && okF xs k (xs.getD k fl0)) = false; rw [hx, h, Bool.and_false]
  have h2 := okFs_cut xs (xs.length - (k + 1)) (k + 1) h1
  rw [show k + 1 + (xs.length - (k + 1)) = xs.length by omega] at h2
  unfold mayT
  rw [h2, Bool.and_false, Bool.false_and]
def BoxF (w : World) (b : Nat) (x : Fl) (A0 : Option Addr) (c0 : Nat) : Prop := w.heap[b]? = some (.cells #[.string x.1, .slice A0 x.2.length c0] 50 (0, 0))
theorem BoxF.cu {w : World} {b : Nat} {x : Fl} {A0 : Option Addr} {c0 : Nat} (h : BoxF w b x A0 c0) : w.cell? ⟨b, 0, none⟩ = some (.string x.1) ∧ w.cell? ⟨b, 1, none⟩ = some (.slice A0 x.2.length c0) := by
  constructor <;> simp [World.cell?, show w.heap[b]? = _ from h]
theorem BoxF.below {w w' : World} {b : Nat} {x : Fl} {A0 : Option Addr} {c0 : Nat} (h : BoxF w b x A0 c0) (hb : Below w.heap.size w w') : BoxF w' b x A0 c0 :=
  (hb.block b (Array.getElem?_eq_some_iff.1 h).1).trans h
def tmay_T7 : Bool × List (List Nat × List Nat) := (true, [([], []), ([0], [0]), ([1], [1]), ([2], [2]), ([3, 2], [3]), ([4], [4]), ([5, 4], [4, 5]), ([6, 4], [4, 6]), ([7, 4], [4, 7]), ([4, 8], [4, 8]), ([9, 4], [9]), ([10], [10]), ([11, 10], [10, 11]), ([12, 10, 10], [10, 12]), ([13], [13]), ([13], [13]), ([15, 13], [13, 15]), ([14, 16, 13], [13, 14, 16]), ([17, 13], [13, 17]), ([18, 13], [13, 18]), ([13], [13]), ([20, 13], [13, 20]), ([19, 21, 13], [13, 19, 21]), ([13, 22, 10], [10, 13, 22]), ([10, 23], [10, 23])])
def tmay_B7 : List Nat := [0, 1, 3, 7, 15, 31, 63, 127, 255, 511, 1023, 2047, 4095, 8191, 16383, 16383, 49151, 131071, 262143, 524287, 16383, 1064959, 4194303, 8388607, 16777215]
theorem tmay_tab7 : rtab .any (opsOf Tryd.f27 7) = tmay_T7 := by kernel_rfl
theorem tmay_bits7 : waitsOk tmay_T7.2 tmay_B7 = true := by kernel_rfl
set_option maxHeartbeats 6400000 in
set_option maxRecDepth 100000 in
theorem tmay_calls (A : Option Addr) (c : Nat) (xs : List Fl) (w : World) (hr : KF.C w A xs.length xs) (hc : xs.length ≤ c) (hx : ∀ x ∈ xs, x.1.size ≤ 9223372036854775807) :
    Calls Tryd.prog 27 #[.slice A xs.length c] w fun e w' => e = .returned (.bool (mayT xs)) ∧ Below w.heap.size w w' := by
  have HR := Aside0.mk hr
  have HSX := Aside0.mk hx
  have hl63 : xs.length ≤ 9223372036854775807 := hr.2.1
  clear hr hx
  by_cases hlen : xs.length ≤ 16
  rotate_left
  · have e1 : decide ((xs.length : Int) > 16) = true := decide_eq_true (by omega)
    have e2 : decide (xs.length > 16) = true := decide_eq_true (by omega)
    have HM := Aside0.mk (show mayT xs = false by unfold mayT; rw [decide_eq_false hlen, Bool.false_and, Bool.false_and])
    rw [HM.out]
    clear hlen HM
    go_enter Tryd.func27, Tryd.ntmps27
    go_wp2
    go_ret
    exact ⟨rfl, Below.refl _ _⟩
  have e1 : decide ((xs.length : Int) > 16) = false := decide_eq_false (by omega)
  have e2 : decide (xs.length > 16) = false := decide_eq_false (by omega)
  generalize hMT : mayT xs = MT
  replace hMT := Aside0.mk hMT
  go_enter Tryd.func27, Tryd.ntmps27
  go_wp2
  clear e1 e2
  go_loopw [3, 11] (fun v3 v wr => ∃ k : Nat, k ≤ xs.length ∧ v = .int .i64 (k : Int) ∧ v3 = .int .i64 (sumF xs k : Nat) ∧ sumF xs k ≤ 2000 * k ∧ Aside0 (okFs xs k = true) ∧ Aside0 (Below w.heap.size w wr)) (fun _ v _ => xs.length - (intOf v).toNat)
  case atStart => exact ⟨0, Nat.zero_le _, rfl, rfl, Nat.le_refl _, ⟨rfl⟩, ⟨Below.refl _ _⟩⟩
  case round =>
    obtain ⟨k, hk, rfl, rfl, hsum, HOK, HB⟩ := hrel
    by_cases hlt : k < xs.length
    · obtain ⟨ad, A0, c0, rfl, x0, x1, hc0, hC0⟩ := row_cf (Kd.C_below HR.out HB.out) k hlt xs[k] (List.getElem?_eq_getElem hlt)
      have HSZ := Aside0.mk (HSX.out xs[k] (List.getElem_mem hlt))
      have HGD := Aside0.mk (show xs.getD k fl0 = xs[k] by rw [List.getD_eq_getElem?_getD, List.getElem?_eq_getElem hlt]; rfl)
      generalize xs[k] = x at x0 x1 hc0 hC0 HSZ HGD
      clear hc0 hC0
      go_upto_region 7 with (fail)
      obtain ⟨b, hbq⟩ : ∃ b, wr.heap.size = b := ⟨_, rfl⟩
      obtain ⟨w3, hw3, hw3h⟩ : ∃ w3, wr.alloc (.cells #[.string x.1, .slice A0 x.2.length c0] 50) = w3 ∧ w3.heap[wr.heap.size]? = some (.cells #[.string x.1, .slice A0 x.2.length c0] 50 (0, 0)) := ⟨_, rfl, heap_new _ _⟩
      have hb3 : Below wr.heap.size wr w3 := by rw [← hw3]; exact (Below.refl _ _).alloc (Nat.le_refl _) _
      rw [hbq] at hw3h
      have HX := Aside0.mk (show BoxF w3 b x A0 c0 from hw3h)
      replace HB := Aside0.mk (below_step HB.out hb3)
      rw [hw3, hbq]
      clear hw3 hbq hb3 hw3h x0 x1
      have hS0 : Below w3.heap.size w3 w3.drew := below_drew1 (Below.refl _ _)
      cases hp : isPath x.1 with
      | false =>
        have HIP := Aside0.mk hp
        have HF := Aside0.mk (mayT_bad hlt x HGD.out (by unfold okF; rw [hp, Bool.false_and, Bool.false_and]))
        clear hp
        refine start_ (n := 25) (S := fun w' => Below w3.heap.size w3 w') (ds := []) #[false, false, false, false, false, false, false, false, false, false, false, false, false, false, false, false, false, false, false, false, false, false, false, false, false] (by kernel_rfl) rfl rfl (by exact hS0) (fun hHeld => ?_)
        refine with_tabW tmay_tab7 tmay_bits7 (fun HT_ HW_ => ?_)
        refine pure_ (i := 0) (N := some 16) (v := ?_) (a' := ?_) #[true, false, false, false, false, false, false, false, false, false, false, false, false, false, false, false, false, false, false, false, false, false, false, false, false] rfl rfl (any_of HT_.out (by kernel_rfl)) (fun _ _ _ h => h) (Or.inl ⟨by rfl, ?_⟩) ?_ ?_
        rotate_left
        · intro w'
          go_simp
          with_reducible rfl
        rotate_left
        · simp only [Act.put, List.setIfInBounds_toArray, List.set_cons_zero, List.set_cons_succ, i64_w, i32_w]
          rfl
        refine take_ (i := 1) (N := some 17) (v := ?_) (a' := ?_) #[true, true, false, false, false, false, false, false, false, false, false, false, false, false, false, false, false, false, false, false, false, false, false, false, false] rfl rfl (take_ofW HT_.out HW_.out (by kernel_rfl)) (fun _ _ _ h => h) (Or.inl ⟨by rfl, ?_⟩) hHeld ?_ ?_
        rotate_left
        · intro w' hSt
          obtain ⟨o0, o1⟩ := HX.out.below hSt |>.cu
          go_simp
          with_reducible rfl
        rotate_left
        · simp only [Act.put, List.setIfInBounds_toArray, List.set_cons_zero, List.set_cons_succ, i64_w, i32_w]
          rfl
        refine one_ (i := 2) (N := some 18) #[true, true, true, false, false, false, false, false, false, false, false, false, false, false, false, false, false, false, false, false, false, false, false, false, false] rfl rfl (one_of HT_.out (by kernel_rfl)) (by decide) (fun K hK => ?_)
        refine goes_ Tryd.func45 (by kernel_rfl) rfl #[.string x.1] (by rfl) rfl rfl (by (try simp only [List.map_toArray, List.map_cons, List.map_nil]); first | done | rfl) ?_
        refine (isPath_at x.1 _ HSZ.out HIP.out).mono ?_
        rintro e v1 ⟨rfl, hb⟩
        refine ⟨_, rfl, ?_⟩
        have hS1 := below_step hHeld hb
        clear hb
        refine hK.out _ _ (by exact hS1) (fun hHeld => ?_)
        clear hK K
        refine norm_ (a' := ?_) ?_ ?_
        rotate_left
        · first
          | (show Act.put _ (some 18) _ = _; simp only [Act.put, List.setIfInBounds_toArray, List.set_cons_zero, List.set_cons_succ, i64_w, i32_w]; rfl)
          | rfl
        refine pure_ (i := 3) (N := some 19) (v := ?_) (a' := ?_) #[true, true, true, true, false, false, false, false, false, false, false, false, false, false, false, false, false, false, false, false, false, false, false, false, false] rfl rfl (any_of HT_.out (by kernel_rfl)) (fun _ _ _ h => h) (Or.inl ⟨by rfl, ?_⟩) ?_ ?_
        rotate_left
        · intro w'
          go_simp
          with_reducible rfl
        rotate_left
        · simp only [Act.put, List.setIfInBounds_toArray, List.set_cons_zero, List.set_cons_succ, i64_w, i32_w]
          rfl
        refine pure_ (i := 4) (N := some 20) (v := ?_) (a' := ?_) #[true, true, true, true, true, false, false, false, false, false, false, false, false, false, false, false, false, false, false, false, false, false, false, false, false] rfl rfl (any_of HT_.out (by kernel_rfl)) (fun _ _ _ h => h) (Or.inl ⟨by rfl, ?_⟩) ?_ ?_
        rotate_left
        · intro w'
          go_simp
          with_reducible rfl
        rotate_left
        · simp only [Act.put, List.setIfInBounds_toArray, List.set_cons_zero, List.set_cons_succ, i64_w, i32_w]
          rfl
        refine pure_ (i := 5) (N := some 21) (v := undef) (a' := ?_) #[true, true, true, true, true, true, false, false, false, false, false, false, false, false, false, false, false, false, false, false, false, false, false, false, false] rfl rfl (any_of HT_.out (by kernel_rfl)) (fun _ _ _ h => h) (Or.inr ⟨by rfl, rfl⟩) ?_ ?_
        rotate_left
        · simp only [Act.put, List.setIfInBounds_toArray, List.set_cons_zero, List.set_cons_succ, i64_w, i32_w]
          rfl
        refine pure_ (i := 6) (N := some 22) (v := undef) (a' := ?_) #[true, true, true, true, true, true, true, false, false, false, false, false, false, false, false, false, false, false, false, false, false, false, false, false, false] rfl rfl (any_of HT_.out (by kernel_rfl)) (fun _ _ _ h => h) (Or.inr ⟨by rfl, rfl⟩) ?_ ?_
        rotate_left
        · simp only [Act.put, List.setIfInBounds_toArray, List.set_cons_zero, List.set_cons_succ, i64_w, i32_w]
          rfl
        refine pure_ (i := 7) (N := some 23) (v := undef) (a' := ?_) #[true, true, true, true, true, true, true, true, false, false, false, false, false, false, false, false, false, false, false, false, false, false, false, false, false] rfl rfl (any_of HT_.out (by kernel_rfl)) (fun _ _ _ h => h) (Or.inr ⟨by rfl, rfl⟩) ?_ ?_
        rotate_left
        · simp only [Act.put, List.setIfInBounds_toArray, List.set_cons_zero, List.set_cons_succ, i64_w, i32_w]
          rfl
        refine pure_ (i := 8) (N := some 24) (v := undef) (a' := ?_) #[true, true, true, true, true, true, true, true, true, false, false, false, false, false, false, false, false, false, false, false, false, false, false, false, false] rfl rfl (any_of HT_.out (by kernel_rfl)) (fun _ _ _ h => h) (Or.inr ⟨by rfl, rfl⟩) ?_ ?_
        rotate_left
        · simp only [Act.put, List.setIfInBounds_toArray, List.set_cons_zero, List.set_cons_succ, i64_w, i32_w]
          rfl
        refine pure_ (i := 9) (N := some 25) (v := ?_) (a' := ?_) #[true, true, true, true, true, true, true, true, true, true, false, false, false, false, false, false, false, false, false, false, false, false, false, false, false] rfl rfl (any_of HT_.out (by kernel_rfl)) (fun _ _ _ h => h) (Or.inl ⟨by rfl, ?_⟩) ?_ ?_
        rotate_left
        · intro w'
          go_simp
          with_reducible rfl
        rotate_left
        · simp only [Act.put, List.setIfInBounds_toArray, List.set_cons_zero, List.set_cons_succ, i64_w, i32_w]
          rfl
        refine pure_ (i := 10) (N := some 26) (v := ?_) (a' := ?_) #[true, true, true, true, true, true, true, true, true, true, true, false, false, false, false, false, false, false, false, false, false, false, false, false, false] rfl rfl (any_of HT_.out (by kernel_rfl)) (fun _ _ _ h => h) (Or.inl ⟨by rfl, ?_⟩) ?_ ?_
        rotate_left
        · intro w'
          go_simp
          with_reducible rfl
        rotate_left
        · simp only [Act.put, List.setIfInBounds_toArray, List.set_cons_zero, List.set_cons_succ, i64_w, i32_w]
          rfl
        refine pure_ (i := 11) (N := some 27) (v := undef) (a' := ?_) #[true, true, true, true, true, true, true, true, true, true, true, true, false, false, false, false, false, false, false, false, false, false, false, false, false] rfl rfl (any_of HT_.out (by kernel_rfl)) (fun _ _ _ h => h) (Or.inr ⟨by rfl, rfl⟩) ?_ ?_
        rotate_left
        · simp only [Act.put, List.setIfInBounds_toArray, List.set_cons_zero, List.set_cons_succ, i64_w, i32_w]
          rfl
        refine pure_ (i := 12) (N := some 28) (v := undef) (a' := ?_) #[true, true, true, true, true, true, true, true, true, true, true, true, true, false, false, false, false, false, false, false, false, false, false, false, false] rfl rfl (any_of HT_.out (by kernel_rfl)) (fun _ _ _ h => h) (Or.inr ⟨by rfl, rfl⟩) ?_ ?_
        rotate_left
        · simp only [Act.put, List.setIfInBounds_toArray, List.set_cons_zero, List.set_cons_succ, i64_w, i32_w]
          rfl
        refine pure_ (i := 13) (N := some 29) (v := undef) (a' := ?_) #[true, true, true, true, true, true, true, true, true, true, true, true, true, true, false, false, false, false, false, false, false, false, false, false, false] rfl rfl (any_of HT_.out (by kernel_rfl)) (fun _ _ _ h => h) (Or.inr ⟨by rfl, rfl⟩) ?_ ?_
        rotate_left
        · simp only [Act.put, List.setIfInBounds_toArray, List.set_cons_zero, List.set_cons_succ, i64_w, i32_w]
          rfl
        refine pure_ (i := 14) (N := some 30) (v := undef) (a' := ?_) #[true, true, true, true, true, true, true, true, true, true, true, true, true, true, true, false, false, false, false, false, false, false, false, false, false] rfl rfl (any_of HT_.out (by kernel_rfl)) (fun _ _ _ h => h) (Or.inr ⟨by rfl, rfl⟩) ?_ ?_
        rotate_left
        · simp only [Act.put, List.setIfInBounds_toArray, List.set_cons_zero, List.set_cons_succ, i64_w, i32_w]
          rfl
        refine pure_ (i := 15) (N := some 31) (v := undef) (a' := ?_) #[true, true, true, true, true, true, true, true, true, true, true, true, true, true, true, true, false, false, false, false, false, false, false, false, false] rfl rfl (any_of HT_.out (by kernel_rfl)) (fun _ _ _ h => h) (Or.inr ⟨by rfl, rfl⟩) ?_ ?_
        rotate_left
        · simp only [Act.put, List.setIfInBounds_toArray, List.set_cons_zero, List.set_cons_succ, i64_w, i32_w]
          rfl
        refine pure_ (i := 16) (N := some 32) (v := undef) (a' := ?_) #[true, true, true, true, true, true, true, true, true, true, true, true, true, true, true, true, true, false, false, false, false, false, false, false, false] rfl rfl (any_of HT_.out (by kernel_rfl)) (fun _ _ _ h => h) (Or.inr ⟨by rfl, rfl⟩) ?_ ?_
        rotate_left
        · simp only [Act.put, List.setIfInBounds_toArray, List.set_cons_zero, List.set_cons_succ, i64_w, i32_w]
          rfl
        refine pure_ (i := 17) (N := some 33) (v := undef) (a' := ?_) #[true, true, true, true, true, true, true, true, true, true, true, true, true, true, true, true, true, true, false, false, false, false, false, false, false] rfl rfl (any_of HT_.out (by kernel_rfl)) (fun _ _ _ h => h) (Or.inr ⟨by rfl, rfl⟩) ?_ ?_
        rotate_left
        · simp only [Act.put, List.setIfInBounds_toArray, List.set_cons_zero, List.set_cons_succ, i64_w, i32_w]
          rfl
        refine pure_ (i := 18) (N := some 34) (v := undef) (a' := ?_) #[true, true, true, true, true, true, true, true, true, true, true, true, true, true, true, true, true, true, true, false, false, false, false, false, false] rfl rfl (any_of HT_.out (by kernel_rfl)) (fun _ _ _ h => h) (Or.inr ⟨by rfl, rfl⟩) ?_ ?_
        rotate_left
        · simp only [Act.put, List.setIfInBounds_toArray, List.set_cons_zero, List.set_cons_succ, i64_w, i32_w]
          rfl
        refine pure_ (i := 19) (N := some 35) (v := undef) (a' := ?_) #[true, true, true, true, true, true, true, true, true, true, true, true, true, true, true, true, true, true, true, true, false, false, false, false, false] rfl rfl (any_of HT_.out (by kernel_rfl)) (fun _ _ _ h => h) (Or.inr ⟨by rfl, rfl⟩) ?_ ?_
        rotate_left
        · simp only [Act.put, List.setIfInBounds_toArray, List.set_cons_zero, List.set_cons_succ, i64_w, i32_w]
          rfl
        refine pure_ (i := 20) (N := some 36) (v := undef) (a' := ?_) #[true, true, true, true, true, true, true, true, true, true, true, true, true, true, true, true, true, true, true, true, true, false, false, false, false] rfl rfl (any_of HT_.out (by kernel_rfl)) (fun _ _ _ h => h) (Or.inr ⟨by rfl, rfl⟩) ?_ ?_
        rotate_left
        · simp only [Act.put, List.setIfInBounds_toArray, List.set_cons_zero, List.set_cons_succ, i64_w, i32_w]
          rfl
        refine pure_ (i := 21) (N := some 37) (v := undef) (a' := ?_) #[true, true, true, true, true, true, true, true, true, true, true, true, true, true, true, true, true, true, true, true, true, true, false, false, false] rfl rfl (any_of HT_.out (by kernel_rfl)) (fun _ _ _ h => h) (Or.inr ⟨by rfl, rfl⟩) ?_ ?_
        rotate_left
        · simp only [Act.put, List.setIfInBounds_toArray, List.set_cons_zero, List.set_cons_succ, i64_w, i32_w]
          rfl
        refine pure_ (i := 22) (N := some 38) (v := undef) (a' := ?_) #[true, true, true, true, true, true, true, true, true, true, true, true, true, true, true, true, true, true, true, true, true, true, true, false, false] rfl rfl (any_of HT_.out (by kernel_rfl)) (fun _ _ _ h => h) (Or.inr ⟨by rfl, rfl⟩) ?_ ?_
        rotate_left
        · simp only [Act.put, List.setIfInBounds_toArray, List.set_cons_zero, List.set_cons_succ, i64_w, i32_w]
          rfl
        refine pure_ (i := 23) (N := some 39) (v := undef) (a' := ?_) #[true, true, true, true, true, true, true, true, true, true, true, true, true, true, true, true, true, true, true, true, true, true, true, true, false] rfl rfl (any_of HT_.out (by kernel_rfl)) (fun _ _ _ h => h) (Or.inr ⟨by rfl, rfl⟩) ?_ ?_
        rotate_left
        · simp only [Act.put, List.setIfInBounds_toArray, List.set_cons_zero, List.set_cons_succ, i64_w, i32_w]
          rfl
        refine pure_ (i := 24) (N := some 40) (v := ?_) (a' := ?_) #[true, true, true, true, true, true, true, true, true, true, true, true, true, true, true, true, true, true, true, true, true, true, true, true, true] rfl rfl (any_of HT_.out (by kernel_rfl)) (fun _ _ _ h => h) (Or.inl ⟨by rfl, ?_⟩) ?_ ?_
        rotate_left
        · intro w'
          go_simp
          with_reducible rfl
        rotate_left
        · simp only [Act.put, List.setIfInBounds_toArray, List.set_cons_zero, List.set_cons_succ, i64_w, i32_w]
          rfl
        refine done_ (done_of HT_.out (by kernel_rfl)) ?_
        have HBN := Aside0.mk (below_step HB.out hHeld)
        clear hS0 hHeld HT_ HW_
        go_wp2
        go_ret
        exact ⟨by rw [← hMT.out, HF.out]; rfl, HBN.out⟩
      | true =>
      have HIP := Aside0.mk hp
      by_cases h2 : x.2.length ≤ 2000
      rotate_left
      · have HF := Aside0.mk (mayT_bad hlt x HGD.out (by unfold okF; rw [decide_eq_false h2, Bool.and_false, Bool.false_and]))
        have f1 : decide ((x.2.length : Int) > 2000) = true := decide_eq_true (by omega)
        have f2 : decide (x.2.length > 2000) = true := decide_eq_true (by omega)
        clear hp h2
        refine start_ (n := 25) (S := fun w' => Below w3.heap.size w3 w') (ds := []) #[false, false, false, false, false, false, false, false, false, false, false, false, false, false, false, false, false, false, false, false, false, false, false, false, false] (by kernel_rfl) rfl rfl (by exact hS0) (fun hHeld => ?_)
        refine with_tabW tmay_tab7 tmay_bits7 (fun HT_ HW_ => ?_)
        refine pure_ (i := 0) (N := some 16) (v := ?_) (a' := ?_) #[true, false, false, false, false, false, false, false, false, false, false, false, false, false, false, false, false, false, false, false, false, false, false, false, false] rfl rfl (any_of HT_.out (by kernel_rfl)) (fun _ _ _ h => h) (Or.inl ⟨by rfl, ?_⟩) ?_ ?_
        rotate_left
        · intro w'
          go_simp
          with_reducible rfl
        rotate_left
        · simp only [Act.put, List.setIfInBounds_toArray, List.set_cons_zero, List.set_cons_succ, i64_w, i32_w]
          rfl
        refine take_ (i := 1) (N := some 17) (v := ?_) (a' := ?_) #[true, true, false, false, false, false, false, false, false, false, false, false, false, false, false, false, false, false, false, false, false, false, false, false, false] rfl rfl (take_ofW HT_.out HW_.out (by kernel_rfl)) (fun _ _ _ h => h) (Or.inl ⟨by rfl, ?_⟩) hHeld ?_ ?_
        rotate_left
        · intro w' hSt
          obtain ⟨o0, o1⟩ := HX.out.below hSt |>.cu
          go_simp
          with_reducible rfl
        rotate_left
        · simp only [Act.put, List.setIfInBounds_toArray, List.set_cons_zero, List.set_cons_succ, i64_w, i32_w]
          rfl
        refine one_ (i := 2) (N := some 18) #[true, true, true, false, false, false, false, false, false, false, false, false, false, false, false, false, false, false, false, false, false, false, false, false, false] rfl rfl (one_of HT_.out (by kernel_rfl)) (by decide) (fun K hK => ?_)
        refine goes_ Tryd.func45 (by kernel_rfl) rfl #[.string x.1] (by rfl) rfl rfl (by (try simp only [List.map_toArray, List.map_cons, List.map_nil]); first | done | rfl) ?_
        refine (isPath_at x.1 _ HSZ.out HIP.out).mono ?_
        rintro e v1 ⟨rfl, hb⟩
        refine ⟨_, rfl, ?_⟩
        have hS1 := below_step hHeld hb
        clear hb
        refine hK.out _ _ (by exact hS1) (fun hHeld => ?_)
        clear hK K
        refine norm_ (a' := ?_) ?_ ?_
        rotate_left
        · first
          | (show Act.put _ (some 18) _ = _; simp only [Act.put, List.setIfInBounds_toArray, List.set_cons_zero, List.set_cons_succ, i64_w, i32_w]; rfl)
          | rfl
        refine pure_ (i := 3) (N := some 19) (v := ?_) (a' := ?_) #[true, true, true, true, false, false, false, false, false, false, false, false, false, false, false, false, false, false, false, false, false, false, false, false, false] rfl rfl (any_of HT_.out (by kernel_rfl)) (fun _ _ _ h => h) (Or.inl ⟨by rfl, ?_⟩) ?_ ?_
        rotate_left
        · intro w'
          go_simp
          with_reducible rfl
        rotate_left
        · simp only [Act.put, List.setIfInBounds_toArray, List.set_cons_zero, List.set_cons_succ, i64_w, i32_w]
          rfl
        refine pure_ (i := 4) (N := some 20) (v := ?_) (a' := ?_) #[true, true, true, true, true, false, false, false, false, false, false, false, false, false, false, false, false, false, false, false, false, false, false, false, false] rfl rfl (any_of HT_.out (by kernel_rfl)) (fun _ _ _ h => h) (Or.inl ⟨by rfl, ?_⟩) ?_ ?_
        rotate_left
        · intro w'
          go_simp
          with_reducible rfl
        rotate_left
        · simp only [Act.put, List.setIfInBounds_toArray, List.set_cons_zero, List.set_cons_succ, i64_w, i32_w]
          rfl
        refine pure_ (i := 5) (N := some 21) (v := ?_) (a' := ?_) #[true, true, true, true, true, true, false, false, false, false, false, false, false, false, false, false, false, false, false, false, false, false, false, false, false] rfl rfl (any_of HT_.out (by kernel_rfl)) (fun _ _ _ h => h) (Or.inl ⟨by rfl, ?_⟩) ?_ ?_
        rotate_left
        · intro w'
          go_simp
          with_reducible rfl
        rotate_left
        · simp only [Act.put, List.setIfInBounds_toArray, List.set_cons_zero, List.set_cons_succ, i64_w, i32_w]
          rfl
        refine take_ (i := 6) (N := some 22) (v := ?_) (a' := ?_) #[true, true, true, true, true, true, true, false, false, false, false, false, false, false, false, false, false, false, false, false, false, false, false, false, false] rfl rfl (take_ofW HT_.out HW_.out (by kernel_rfl)) (fun _ _ _ h => h) (Or.inl ⟨by rfl, ?_⟩) hHeld ?_ ?_
        rotate_left
        · intro w' hSt
          obtain ⟨o0, o1⟩ := HX.out.below hSt |>.cu
          go_simp
          with_reducible rfl
        rotate_left
        · simp only [Act.put, List.setIfInBounds_toArray, List.set_cons_zero, List.set_cons_succ, i64_w, i32_w]
          rfl
        refine pure_ (i := 7) (N := some 23) (v := ?_) (a' := ?_) #[true, true, true, true, true, true, true, true, false, false, false, false, false, false, false, false, false, false, false, false, false, false, false, false, false] rfl rfl (any_of HT_.out (by kernel_rfl)) (fun _ _ _ h => h) (Or.inl ⟨by rfl, ?_⟩) ?_ ?_
        rotate_left
        · intro w'
          go_simp
          with_reducible rfl
        rotate_left
        · simp only [Act.put, List.setIfInBounds_toArray, List.set_cons_zero, List.set_cons_succ, i64_w, i32_w]
          rfl
        refine pure_ (i := 8) (N := some 24) (v := ?_) (a' := ?_) #[true, true, true, true, true, true, true, true, true, false, false, false, false, false, false, false, false, false, false, false, false, false, false, false, false] rfl rfl (any_of HT_.out (by kernel_rfl)) (fun _ _ _ h => h) (Or.inl ⟨by rfl, ?_⟩) ?_ ?_
        rotate_left
        · intro w'
          go_simp
          with_reducible rfl
        rotate_left
        · simp only [Act.put, List.setIfInBounds_toArray, List.set_cons_zero, List.set_cons_succ, i64_w, i32_w]
          rfl
        refine pure_ (i := 9) (N := some 25) (v := ?_) (a' := ?_) #[true, true, true, true, true, true, true, true, true, true, false, false, false, false, false, false, false, false, false, false, false, false, false, false, false] rfl rfl (any_of HT_.out (by kernel_rfl)) (fun _ _ _ h => h) (Or.inl ⟨by rfl, ?_⟩) ?_ ?_
        rotate_left
        · intro w'
          go_simp
          with_reducible rfl
        rotate_left
        · simp only [Act.put, List.setIfInBounds_toArray, List.set_cons_zero, List.set_cons_succ, i64_w, i32_w]
          rfl
        refine pure_ (i := 10) (N := some 26) (v := ?_) (a' := ?_) #[true, true, true, true, true, true, true, true, true, true, true, false, false, false, false, false, false, false, false, false, false, false, false, false, false] rfl rfl (any_of HT_.out (by kernel_rfl)) (fun _ _ _ h => h) (Or.inl ⟨by rfl, ?_⟩) ?_ ?_
        rotate_left
        · intro w'
          go_simp
          with_reducible rfl
        rotate_left
        · simp only [Act.put, List.setIfInBounds_toArray, List.set_cons_zero, List.set_cons_succ, i64_w, i32_w]
          rfl
        refine pure_ (i := 11) (N := some 27) (v := undef) (a' := ?_) #[true, true, true, true, true, true, true, true, true, true, true, true, false, false, false, false, false, false, false, false, false, false, false, false, false] rfl rfl (any_of HT_.out (by kernel_rfl)) (fun _ _ _ h => h) (Or.inr ⟨by rfl, rfl⟩) ?_ ?_
        rotate_left
        · simp only [Act.put, List.setIfInBounds_toArray, List.set_cons_zero, List.set_cons_succ, i64_w, i32_w]
          rfl
        refine pure_ (i := 12) (N := some 28) (v := undef) (a' := ?_) #[true, true, true, true, true, true, true, true, true, true, true, true, true, false, false, false, false, false, false, false, false, false, false, false, false] rfl rfl (any_of HT_.out (by kernel_rfl)) (fun _ _ _ h => h) (Or.inr ⟨by rfl, rfl⟩) ?_ ?_
        rotate_left
        · simp only [Act.put, List.setIfInBounds_toArray, List.set_cons_zero, List.set_cons_succ, i64_w, i32_w]
          rfl
        refine pure_ (i := 13) (N := some 29) (v := undef) (a' := ?_) #[true, true, true, true, true, true, true, true, true, true, true, true, true, true, false, false, false, false, false, false, false, false, false, false, false] rfl rfl (any_of HT_.out (by kernel_rfl)) (fun _ _ _ h => h) (Or.inr ⟨by rfl, rfl⟩) ?_ ?_
        rotate_left
        · simp only [Act.put, List.setIfInBounds_toArray, List.set_cons_zero, List.set_cons_succ, i64_w, i32_w]
          rfl
        refine pure_ (i := 14) (N := some 30) (v := undef) (a' := ?_) #[true, true, true, true, true, true, true, true, true, true, true, true, true, true, true, false, false, false, false, false, false, false, false, false, false] rfl rfl (any_of HT_.out (by kernel_rfl)) (fun _ _ _ h => h) (Or.inr ⟨by rfl, rfl⟩) ?_ ?_
        rotate_left
        · simp only [Act.put, List.setIfInBounds_toArray, List.set_cons_zero, List.set_cons_succ, i64_w, i32_w]
          rfl
        refine pure_ (i := 15) (N := some 31) (v := undef) (a' := ?_) #[true, true, true, true, true, true, true, true, true, true, true, true, true, true, true, true, false, false, false, false, false, false, false, false, false] rfl rfl (any_of HT_.out (by kernel_rfl)) (fun _ _ _ h => h) (Or.inr ⟨by rfl, rfl⟩) ?_ ?_
        rotate_left
        · simp only [Act.put, List.setIfInBounds_toArray, List.set_cons_zero, List.set_cons_succ, i64_w, i32_w]
          rfl
        refine pure_ (i := 16) (N := some 32) (v := undef) (a' := ?_) #[true, true, true, true, true, true, true, true, true, true, true, true, true, true, true, true, true, false, false, false, false, false, false, false, false] rfl rfl (any_of HT_.out (by kernel_rfl)) (fun _ _ _ h => h) (Or.inr ⟨by rfl, rfl⟩) ?_ ?_
        rotate_left
        · simp only [Act.put, List.setIfInBounds_toArray, List.set_cons_zero, List.set_cons_succ, i64_w, i32_w]
          rfl
        refine pure_ (i := 17) (N := some 33) (v := undef) (a' := ?_) #[true, true, true, true, true, true, true, true, true, true, true, true, true, true, true, true, true, true, false, false, false, false, false, false, false] rfl rfl (any_of HT_.out (by kernel_rfl)) (fun _ _ _ h => h) (Or.inr ⟨by rfl, rfl⟩) ?_ ?_
        rotate_left
        · simp only [Act.put, List.setIfInBounds_toArray, List.set_cons_zero, List.set_cons_succ, i64_w, i32_w]
          rfl
        refine pure_ (i := 18) (N := some 34) (v := undef) (a' := ?_) #[true, true, true, true, true, true, true, true, true, true, true, true, true, true, true, true, true, true, true, false, false, false, false, false, false] rfl rfl (any_of HT_.out (by kernel_rfl)) (fun _ _ _ h => h) (Or.inr ⟨by rfl, rfl⟩) ?_ ?_
        rotate_left
        · simp only [Act.put, List.setIfInBounds_toArray, List.set_cons_zero, List.set_cons_succ, i64_w, i32_w]
          rfl
        refine pure_ (i := 19) (N := some 35) (v := undef) (a' := ?_) #[true, true, true, true, true, true, true, true, true, true, true, true, true, true, true, true, true, true, true, true, false, false, false, false, false] rfl rfl (any_of HT_.out (by kernel_rfl)) (fun _ _ _ h => h) (Or.inr ⟨by rfl, rfl⟩) ?_ ?_
        rotate_left
        · simp only [Act.put, List.setIfInBounds_toArray, List.set_cons_zero, List.set_cons_succ, i64_w, i32_w]
          rfl
        refine pure_ (i := 20) (N := some 36) (v := undef) (a' := ?_) #[true, true, true, true, true, true, true, true, true, true, true, true, true, true, true, true, true, true, true, true, true, false, false, false, false] rfl rfl (any_of HT_.out (by kernel_rfl)) (fun _ _ _ h => h) (Or.inr ⟨by rfl, rfl⟩) ?_ ?_
        rotate_left
        · simp only [Act.put, List.setIfInBounds_toArray, List.set_cons_zero, List.set_cons_succ, i64_w, i32_w]
          rfl
        refine pure_ (i := 21) (N := some 37) (v := undef) (a' := ?_) #[true, true, true, true, true, true, true, true, true, true, true, true, true, true, true, true, true, true, true, true, true, true, false, false, false] rfl rfl (any_of HT_.out (by kernel_rfl)) (fun _ _ _ h => h) (Or.inr ⟨by rfl, rfl⟩) ?_ ?_
        rotate_left
        · simp only [Act.put, List.setIfInBounds_toArray, List.set_cons_zero, List.set_cons_succ, i64_w, i32_w]
          rfl
        refine pure_ (i := 22) (N := some 38) (v := undef) (a' := ?_) #[true, true, true, true, true, true, true, true, true, true, true, true, true, true, true, true, true, true, true, true, true, true, true, false, false] rfl rfl (any_of HT_.out (by kernel_rfl)) (fun _ _ _ h => h) (Or.inr ⟨by rfl, rfl⟩) ?_ ?_
        rotate_left
        · simp only [Act.put, List.setIfInBounds_toArray, List.set_cons_zero, List.set_cons_succ, i64_w, i32_w]
          rfl
        refine pure_ (i := 23) (N := some 39) (v := undef) (a' := ?_) #[true, true, true, true, true, true, true, true, true, true, true, true, true, true, true, true, true, true, true, true, true, true, true, true, false] rfl rfl (any_of HT_.out (by kernel_rfl)) (fun _ _ _ h => h) (Or.inr ⟨by rfl, rfl⟩) ?_ ?_
        rotate_left
        · simp only [Act.put, List.setIfInBounds_toArray, List.set_cons_zero, List.set_cons_succ, i64_w, i32_w]
          rfl
        refine pure_ (i := 24) (N := some 40) (v := ?_) (a' := ?_) #[true, true, true, true, true, true, true, true, true, true, true, true, true, true, true, true, true, true, true, true, true, true, true, true, true] rfl rfl (any_of HT_.out (by kernel_rfl)) (fun _ _ _ h => h) (Or.inl ⟨by rfl, ?_⟩) ?_ ?_
        rotate_left
        · intro w'
          go_simp
          with_reducible rfl
        rotate_left
        · simp only [Act.put, List.setIfInBounds_toArray, List.set_cons_zero, List.set_cons_succ, i64_w, i32_w]
          rfl
        refine done_ (done_of HT_.out (by kernel_rfl)) ?_
        have HBN := Aside0.mk (below_step HB.out hHeld)
        clear hS0 hHeld HT_ HW_
        go_wp2
        go_ret
        exact ⟨by rw [← hMT.out, HF.out]; rfl, HBN.out⟩
      have f1 : decide ((x.2.length : Int) > 2000) = false := decide_eq_false (by omega)
      have f2 : decide (x.2.length > 2000) = false := decide_eq_false (by omega)
      rcases k with _ | j
      · have HO1 := Aside0.mk (show okFs xs (0 + 1) = true by show (okFs xs 0 && okF xs 0 (xs.getD 0 fl0)) = true; rw [HGD.out]; unfold okF okFs; rw [hp, decide_eq_true h2]; rfl)
        have HS1 : Aside0 (sumF xs (0 + 1) = x.2.length) := ⟨by show 0 + (xs.getD 0 fl0).2.length = _; rw [HGD.out, Nat.zero_add]⟩
        clear hp hsum
        refine start_ (n := 25) (S := fun w' => Below w3.heap.size w3 w') (ds := []) #[false, false, false, false, false, false, false, false, false, false, false, false, false, false, false, false, false, false, false, false, false, false, false, false, false] (by kernel_rfl) rfl rfl (by exact hS0) (fun hHeld => ?_)
        refine with_tabW tmay_tab7 tmay_bits7 (fun HT_ HW_ => ?_)
        refine pure_ (i := 0) (N := some 16) (v := ?_) (a' := ?_) #[true, false, false, false, false, false, false, false, false, false, false, false, false, false, false, false, false, false, false, false, false, false, false, false, false] rfl rfl (any_of HT_.out (by kernel_rfl)) (fun _ _ _ h => h) (Or.inl ⟨by rfl, ?_⟩) ?_ ?_
        rotate_left
        · intro w'
          go_simp
          with_reducible rfl
        rotate_left
        · simp only [Act.put, List.setIfInBounds_toArray, List.set_cons_zero, List.set_cons_succ, i64_w, i32_w]
          rfl
        refine take_ (i := 1) (N := some 17) (v := ?_) (a' := ?_) #[true, true, false, false, false, false, false, false, false, false, false, false, false, false, false, false, false, false, false, false, false, false, false, false, false] rfl rfl (take_ofW HT_.out HW_.out (by kernel_rfl)) (fun _ _ _ h => h) (Or.inl ⟨by rfl, ?_⟩) hHeld ?_ ?_
        rotate_left
        · intro w' hSt
          obtain ⟨o0, o1⟩ := HX.out.below hSt |>.cu
          go_simp
          with_reducible rfl
        rotate_left
        · simp only [Act.put, List.setIfInBounds_toArray, List.set_cons_zero, List.set_cons_succ, i64_w, i32_w]
          rfl
        refine one_ (i := 2) (N := some 18) #[true, true, true, false, false, false, false, false, false, false, false, false, false, false, false, false, false, false, false, false, false, false, false, false, false] rfl rfl (one_of HT_.out (by kernel_rfl)) (by decide) (fun K hK => ?_)
        refine goes_ Tryd.func45 (by kernel_rfl) rfl #[.string x.1] (by rfl) rfl rfl (by (try simp only [List.map_toArray, List.map_cons, List.map_nil]); first | done | rfl) ?_
        refine (isPath_at x.1 _ HSZ.out HIP.out).mono ?_
        rintro e v1 ⟨rfl, hb⟩
        refine ⟨_, rfl, ?_⟩
        have hS1 := below_step hHeld hb
        clear hb
        refine hK.out _ _ (by exact hS1) (fun hHeld => ?_)
        clear hK K
        refine norm_ (a' := ?_) ?_ ?_
        rotate_left
        · first
          | (show Act.put _ (some 18) _ = _; simp only [Act.put, List.setIfInBounds_toArray, List.set_cons_zero, List.set_cons_succ, i64_w, i32_w]; rfl)
          | rfl
        refine pure_ (i := 3) (N := some 19) (v := ?_) (a' := ?_) #[true, true, true, true, false, false, false, false, false, false, false, false, false, false, false, false, false, false, false, false, false, false, false, false, false] rfl rfl (any_of HT_.out (by kernel_rfl)) (fun _ _ _ h => h) (Or.inl ⟨by rfl, ?_⟩) ?_ ?_
        rotate_left
        · intro w'
          go_simp
          with_reducible rfl
        rotate_left
        · simp only [Act.put, List.setIfInBounds_toArray, List.set_cons_zero, List.set_cons_succ, i64_w, i32_w]
          rfl
        refine pure_ (i := 4) (N := some 20) (v := ?_) (a' := ?_) #[true, true, true, true, true, false, false, false, false, false, false, false, false, false, false, false, false, false, false, false, false, false, false, false, false] rfl rfl (any_of HT_.out (by kernel_rfl)) (fun _ _ _ h => h) (Or.inl ⟨by rfl, ?_⟩) ?_ ?_
        rotate_left
        · intro w'
          go_simp
          with_reducible rfl
        rotate_left
        · simp only [Act.put, List.setIfInBounds_toArray, List.set_cons_zero, List.set_cons_succ, i64_w, i32_w]
          rfl
        refine pure_ (i := 5) (N := some 21) (v := ?_) (a' := ?_) #[true, true, true, true, true, true, false, false, false, false, false, false, false, false, false, false, false, false, false, false, false, false, false, false, false] rfl rfl (any_of HT_.out (by kernel_rfl)) (fun _ _ _ h => h) (Or.inl ⟨by rfl, ?_⟩) ?_ ?_
        rotate_left
        · intro w'
          go_simp
          with_reducible rfl
        rotate_left
        · simp only [Act.put, List.setIfInBounds_toArray, List.set_cons_zero, List.set_cons_succ, i64_w, i32_w]
          rfl
        refine take_ (i := 6) (N := some 22) (v := ?_) (a' := ?_) #[true, true, true, true, true, true, true, false, false, false, false, false, false, false, false, false, false, false, false, false, false, false, false, false, false] rfl rfl (take_ofW HT_.out HW_.out (by kernel_rfl)) (fun _ _ _ h => h) (Or.inl ⟨by rfl, ?_⟩) hHeld ?_ ?_
        rotate_left
        · intro w' hSt
          obtain ⟨o0, o1⟩ := HX.out.below hSt |>.cu
          go_simp
          with_reducible rfl
        rotate_left
        · simp only [Act.put, List.setIfInBounds_toArray, List.set_cons_zero, List.set_cons_succ, i64_w, i32_w]
          rfl
        refine pure_ (i := 7) (N := some 23) (v := ?_) (a' := ?_) #[true, true, true, true, true, true, true, true, false, false, false, false, false, false, false, false, false, false, false, false, false, false, false, false, false] rfl rfl (any_of HT_.out (by kernel_rfl)) (fun _ _ _ h => h) (Or.inl ⟨by rfl, ?_⟩) ?_ ?_
        rotate_left
        · intro w'
          go_simp
          with_reducible rfl
        rotate_left
        · simp only [Act.put, List.setIfInBounds_toArray, List.set_cons_zero, List.set_cons_succ, i64_w, i32_w]
          rfl
        refine pure_ (i := 8) (N := some 24) (v := ?_) (a' := ?_) #[true, true, true, true, true, true, true, true, true, false, false, false, false, false, false, false, false, false, false, false, false, false, false, false, false] rfl rfl (any_of HT_.out (by kernel_rfl)) (fun _ _ _ h => h) (Or.inl ⟨by rfl, ?_⟩) ?_ ?_
        rotate_left
        · intro w'
          go_simp
          with_reducible rfl
        rotate_left
        · simp only [Act.put, List.setIfInBounds_toArray, List.set_cons_zero, List.set_cons_succ, i64_w, i32_w]
          rfl
        refine pure_ (i := 9) (N := some 25) (v := ?_) (a' := ?_) #[true, true, true, true, true, true, true, true, true, true, false, false, false, false, false, false, false, false, false, false, false, false, false, false, false] rfl rfl (any_of HT_.out (by kernel_rfl)) (fun _ _ _ h => h) (Or.inl ⟨by rfl, ?_⟩) ?_ ?_
        rotate_left
        · intro w'
          go_simp
          with_reducible rfl
        rotate_left
        · simp only [Act.put, List.setIfInBounds_toArray, List.set_cons_zero, List.set_cons_succ, i64_w, i32_w]
          rfl
        refine pure_ (i := 10) (N := some 26) (v := ?_) (a' := ?_) #[true, true, true, true, true, true, true, true, true, true, true, false, false, false, false, false, false, false, false, false, false, false, false, false, false] rfl rfl (any_of HT_.out (by kernel_rfl)) (fun _ _ _ h => h) (Or.inl ⟨by rfl, ?_⟩) ?_ ?_
        rotate_left
        · intro w'
          go_simp
          with_reducible rfl
        rotate_left
        · simp only [Act.put, List.setIfInBounds_toArray, List.set_cons_zero, List.set_cons_succ, i64_w, i32_w]
          rfl
        refine pure_ (i := 11) (N := some 27) (v := ?_) (a' := ?_) #[true, true, true, true, true, true, true, true, true, true, true, true, false, false, false, false, false, false, false, false, false, false, false, false, false] rfl rfl (any_of HT_.out (by kernel_rfl)) (fun _ _ _ h => h) (Or.inl ⟨by rfl, ?_⟩) ?_ ?_
        rotate_left
        · intro w'
          go_simp
          with_reducible rfl
        rotate_left
        · simp only [Act.put, List.setIfInBounds_toArray, List.set_cons_zero, List.set_cons_succ, i64_w, i32_w]
          rfl
        refine pure_ (i := 12) (N := some 28) (v := ?_) (a' := ?_) #[true, true, true, true, true, true, true, true, true, true, true, true, true, false, false, false, false, false, false, false, false, false, false, false, false] rfl rfl (any_of HT_.out (by kernel_rfl)) (fun _ _ _ h => h) (Or.inl ⟨by rfl, ?_⟩) ?_ ?_
        rotate_left
        · intro w'
          go_simp
          with_reducible rfl
        rotate_left
        · simp only [Act.put, List.setIfInBounds_toArray, List.set_cons_zero, List.set_cons_succ, i64_w, i32_w]
          rfl
        refine pure_ (i := 13) (N := some 29) (v := ?_) (a' := ?_) #[true, true, true, true, true, true, true, true, true, true, true, true, true, true, false, false, false, false, false, false, false, false, false, false, false] rfl rfl (any_of HT_.out (by kernel_rfl)) (fun _ _ _ h => h) (Or.inl ⟨by rfl, ?_⟩) ?_ ?_
        rotate_left
        · intro w'
          go_simp
          with_reducible rfl
        rotate_left
        · simp only [Act.put, List.setIfInBounds_toArray, List.set_cons_zero, List.set_cons_succ, i64_w, i32_w]
          rfl
        refine pure_ (i := 14) (N := some 30) (v := undef) (a' := ?_) #[true, true, true, true, true, true, true, true, true, true, true, true, true, true, true, false, false, false, false, false, false, false, false, false, false] rfl rfl (any_of HT_.out (by kernel_rfl)) (fun _ _ _ h => h) (Or.inr ⟨by rfl, rfl⟩) ?_ ?_
        rotate_left
        · simp only [Act.put, List.setIfInBounds_toArray, List.set_cons_zero, List.set_cons_succ, i64_w, i32_w]
          rfl
        refine pure_ (i := 15) (N := some 31) (v := undef) (a' := ?_) #[true, true, true, true, true, true, true, true, true, true, true, true, true, true, true, true, false, false, false, false, false, false, false, false, false] rfl rfl (any_of HT_.out (by kernel_rfl)) (fun _ _ _ h => h) (Or.inr ⟨by rfl, rfl⟩) ?_ ?_
        rotate_left
        · simp only [Act.put, List.setIfInBounds_toArray, List.set_cons_zero, List.set_cons_succ, i64_w, i32_w]
          rfl
        refine pure_ (i := 16) (N := some 32) (v := undef) (a' := ?_) #[true, true, true, true, true, true, true, true, true, true, true, true, true, true, true, true, true, false, false, false, false, false, false, false, false] rfl rfl (any_of HT_.out (by kernel_rfl)) (fun _ _ _ h => h) (Or.inr ⟨by rfl, rfl⟩) ?_ ?_
        rotate_left
        · simp only [Act.put, List.setIfInBounds_toArray, List.set_cons_zero, List.set_cons_succ, i64_w, i32_w]
          rfl
        refine pure_ (i := 17) (N := some 33) (v := undef) (a' := ?_) #[true, true, true, true, true, true, true, true, true, true, true, true, true, true, true, true, true, true, false, false, false, false, false, false, false] rfl rfl (any_of HT_.out (by kernel_rfl)) (fun _ _ _ h => h) (Or.inr ⟨by rfl, rfl⟩) ?_ ?_
        rotate_left
        · simp only [Act.put, List.setIfInBounds_toArray, List.set_cons_zero, List.set_cons_succ, i64_w, i32_w]
          rfl
        refine pure_ (i := 18) (N := some 34) (v := undef) (a' := ?_) #[true, true, true, true, true, true, true, true, true, true, true, true, true, true, true, true, true, true, true, false, false, false, false, false, false] rfl rfl (any_of HT_.out (by kernel_rfl)) (fun _ _ _ h => h) (Or.inr ⟨by rfl, rfl⟩) ?_ ?_
        rotate_left
        · simp only [Act.put, List.setIfInBounds_toArray, List.set_cons_zero, List.set_cons_succ, i64_w, i32_w]
          rfl
        refine pure_ (i := 19) (N := some 35) (v := undef) (a' := ?_) #[true, true, true, true, true, true, true, true, true, true, true, true, true, true, true, true, true, true, true, true, false, false, false, false, false] rfl rfl (any_of HT_.out (by kernel_rfl)) (fun _ _ _ h => h) (Or.inr ⟨by rfl, rfl⟩) ?_ ?_
        rotate_left
        · simp only [Act.put, List.setIfInBounds_toArray, List.set_cons_zero, List.set_cons_succ, i64_w, i32_w]
          rfl
        refine pure_ (i := 20) (N := some 36) (v := undef) (a' := ?_) #[true, true, true, true, true, true, true, true, true, true, true, true, true, true, true, true, true, true, true, true, true, false, false, false, false] rfl rfl (any_of HT_.out (by kernel_rfl)) (fun _ _ _ h => h) (Or.inr ⟨by rfl, rfl⟩) ?_ ?_
        rotate_left
        · simp only [Act.put, List.setIfInBounds_toArray, List.set_cons_zero, List.set_cons_succ, i64_w, i32_w]
          rfl
        refine pure_ (i := 21) (N := some 37) (v := undef) (a' := ?_) #[true, true, true, true, true, true, true, true, true, true, true, true, true, true, true, true, true, true, true, true, true, true, false, false, false] rfl rfl (any_of HT_.out (by kernel_rfl)) (fun _ _ _ h => h) (Or.inr ⟨by rfl, rfl⟩) ?_ ?_
        rotate_left
        · simp only [Act.put, List.setIfInBounds_toArray, List.set_cons_zero, List.set_cons_succ, i64_w, i32_w]
          rfl
        refine pure_ (i := 22) (N := some 38) (v := undef) (a' := ?_) #[true, true, true, true, true, true, true, true, true, true, true, true, true, true, true, true, true, true, true, true, true, true, true, false, false] rfl rfl (any_of HT_.out (by kernel_rfl)) (fun _ _ _ h => h) (Or.inr ⟨by rfl, rfl⟩) ?_ ?_
        rotate_left
        · simp only [Act.put, List.setIfInBounds_toArray, List.set_cons_zero, List.set_cons_succ, i64_w, i32_w]
          rfl
        refine pure_ (i := 23) (N := some 39) (v := ?_) (a' := ?_) #[true, true, true, true, true, true, true, true, true, true, true, true, true, true, true, true, true, true, true, true, true, true, true, true, false] rfl rfl (any_of HT_.out (by kernel_rfl)) (fun _ _ _ h => h) (Or.inl ⟨by rfl, ?_⟩) ?_ ?_
        rotate_left
        · intro w'
          go_simp
          with_reducible rfl
        rotate_left
        · simp only [Act.put, List.setIfInBounds_toArray, List.set_cons_zero, List.set_cons_succ, i64_w, i32_w]
          rfl
        refine pure_ (i := 24) (N := some 40) (v := ?_) (a' := ?_) #[true, true, true, true, true, true, true, true, true, true, true, true, true, true, true, true, true, true, true, true, true, true, true, true, true] rfl rfl (any_of HT_.out (by kernel_rfl)) (fun _ _ _ h => h) (Or.inl ⟨by rfl, ?_⟩) ?_ ?_
        rotate_left
        · intro w'
          go_simp
          with_reducible rfl
        rotate_left
        · simp only [Act.put, List.setIfInBounds_toArray, List.set_cons_zero, List.set_cons_succ, i64_w, i32_w]
          rfl
        refine done_ (done_of HT_.out (by kernel_rfl)) ?_
        have HBN := Aside0.mk (below_step HB.out hHeld)
        obtain ⟨o0, o1⟩ := (HX.out.below hHeld).cu
        clear hS0 hHeld HT_ HW_
        generalize x.2.length = xl at h2 o1 HS1
        rw [show sumF xs 0 = 0 from rfl]
        go_wp2
        go_roundw
        case rel => exact ⟨1, by omega, by first | rfl | go_num, by first | (rw [show sumF xs 1 = xl from HS1.out]; done) | (rw [show sumF xs 1 = xl from HS1.out]; go_num), by rw [show sumF xs 1 = xl from HS1.out]; omega, HO1, HBN⟩
        case measure => simp [intOf]; omega
      · have HPV := Aside0.mk (show xs[j]? = some (xs.getD j fl0) by rw [List.getD_eq_getElem?_getD, List.getElem?_eq_getElem (by omega)]; rfl)
        obtain ⟨y, hy⟩ : ∃ y, xs.getD j fl0 = y := ⟨_, rfl⟩
        rw [hy] at HPV
        have g1 : decide (((j + 1 : Nat) : Int) > 0) = true := decide_eq_true (by omega)
        have g2 : decide ((j : Int) + 1 > 0) = true := decide_eq_true (by omega)
        have g3 : Go.RowKit.wrap64 (((j + 1 : Nat) : Int) - 1) = (j : Int) := by unfold Go.RowKit.wrap64; omega
        have g4 : Go.RowKit.wrap64 ((j : Int) + 1 - 1) = (j : Int) := by unfold Go.RowKit.wrap64; omega
        have g5 : decide ((j : Int) < (xs.length : Int)) = true := decide_eq_true (by omega)
        have g6 : Go.RowKit.wrap64 (j : Int) = (j : Int) := by unfold Go.RowKit.wrap64; omega
        have g7 : j < xs.length := by omega
        cases hlt2 : Op.bytesLess y.1.toList x.1.toList with
        | false =>
          have HF := Aside0.mk (mayT_bad hlt x HGD.out (by unfold okF ltS; rw [show j + 1 - 1 = j from rfl, hy, hlt2]; simp))
          clear hp hy
          refine start_ (n := 25) (S := fun w' => Below w3.heap.size w3 w') (ds := []) #[false, false, false, false, false, false, false, false, false, false, false, false, false, false, false, false, false, false, false, false, false, false, false, false, false] (by kernel_rfl) rfl rfl (by exact hS0) (fun hHeld => ?_)
          refine with_tabW tmay_tab7 tmay_bits7 (fun HT_ HW_ => ?_)
          refine pure_ (i := 0) (N := some 16) (v := ?_) (a' := ?_) #[true, false, false, false, false, false, false, false, false, false, false, false, false, false, false, false, false, false, false, false, false, false, false, false, false] rfl rfl (any_of HT_.out (by kernel_rfl)) (fun _ _ _ h => h) (Or.inl ⟨by rfl, ?_⟩) ?_ ?_
          rotate_left
          · intro w'
            go_simp
            with_reducible rfl
          rotate_left
          · simp only [Act.put, List.setIfInBounds_toArray, List.set_cons_zero, List.set_cons_succ, i64_w, i32_w]
            rfl
          refine take_ (i := 1) (N := some 17) (v := ?_) (a' := ?_) #[true, true, false, false, false, false, false, false, false, false, false, false, false, false, false, false, false, false, false, false, false, false, false, false, false] rfl rfl (take_ofW HT_.out HW_.out (by kernel_rfl)) (fun _ _ _ h => h) (Or.inl ⟨by rfl, ?_⟩) hHeld ?_ ?_
          rotate_left
          · intro w' hSt
            obtain ⟨o0, o1⟩ := HX.out.below hSt |>.cu
            go_simp
            with_reducible rfl
          rotate_left
          · simp only [Act.put, List.setIfInBounds_toArray, List.set_cons_zero, List.set_cons_succ, i64_w, i32_w]
            rfl
          refine one_ (i := 2) (N := some 18) #[true, true, true, false, false, false, false, false, false, false, false, false, false, false, false, false, false, false, false, false, false, false, false, false, false] rfl rfl (one_of HT_.out (by kernel_rfl)) (by decide) (fun K hK => ?_)
          refine goes_ Tryd.func45 (by kernel_rfl) rfl #[.string x.1] (by rfl) rfl rfl (by (try simp only [List.map_toArray, List.map_cons, List.map_nil]); first | done | rfl) ?_
          refine (isPath_at x.1 _ HSZ.out HIP.out).mono ?_
          rintro e v1 ⟨rfl, hb⟩
          refine ⟨_, rfl, ?_⟩
          have hS1 := below_step hHeld hb
          clear hb
          refine hK.out _ _ (by exact hS1) (fun hHeld => ?_)
          clear hK K
          refine norm_ (a' := ?_) ?_ ?_
          rotate_left
          · first
            | (show Act.put _ (some 18) _ = _; simp only [Act.put, List.setIfInBounds_toArray, List.set_cons_zero, List.set_cons_succ, i64_w, i32_w]; rfl)
            | rfl
          refine pure_ (i := 3) (N := some 19) (v := ?_) (a' := ?_) #[true, true, true, true, false, false, false, false, false, false, false, false, false, false, false, false, false, false, false, false, false, false, false, false, false] rfl rfl (any_of HT_.out (by kernel_rfl)) (fun _ _ _ h => h) (Or.inl ⟨by rfl, ?_⟩) ?_ ?_
          rotate_left
          · intro w'
            go_simp
            with_reducible rfl
          rotate_left
          · simp only [Act.put, List.setIfInBounds_toArray, List.set_cons_zero, List.set_cons_succ, i64_w, i32_w]
            rfl
          refine pure_ (i := 4) (N := some 20) (v := ?_) (a' := ?_) #[true, true, true, true, true, false, false, false, false, false, false, false, false, false, false, false, false, false, false, false, false, false, false, false, false] rfl rfl (any_of HT_.out (by kernel_rfl)) (fun _ _ _ h => h) (Or.inl ⟨by rfl, ?_⟩) ?_ ?_
          rotate_left
          · intro w'
            go_simp
            with_reducible rfl
          rotate_left
          · simp only [Act.put, List.setIfInBounds_toArray, List.set_cons_zero, List.set_cons_succ, i64_w, i32_w]
            rfl
          refine pure_ (i := 5) (N := some 21) (v := ?_) (a' := ?_) #[true, true, true, true, true, true, false, false, false, false, false, false, false, false, false, false, false, false, false, false, false, false, false, false, false] rfl rfl (any_of HT_.out (by kernel_rfl)) (fun _ _ _ h => h) (Or.inl ⟨by rfl, ?_⟩) ?_ ?_
          rotate_left
          · intro w'
            go_simp
            with_reducible rfl
          rotate_left
          · simp only [Act.put, List.setIfInBounds_toArray, List.set_cons_zero, List.set_cons_succ, i64_w, i32_w]
            rfl
          refine take_ (i := 6) (N := some 22) (v := ?_) (a' := ?_) #[true, true, true, true, true, true, true, false, false, false, false, false, false, false, false, false, false, false, false, false, false, false, false, false, false] rfl rfl (take_ofW HT_.out HW_.out (by kernel_rfl)) (fun _ _ _ h => h) (Or.inl ⟨by rfl, ?_⟩) hHeld ?_ ?_
          rotate_left
          · intro w' hSt
            obtain ⟨o0, o1⟩ := HX.out.below hSt |>.cu
            go_simp
            with_reducible rfl
          rotate_left
          · simp only [Act.put, List.setIfInBounds_toArray, List.set_cons_zero, List.set_cons_succ, i64_w, i32_w]
            rfl
          refine pure_ (i := 7) (N := some 23) (v := ?_) (a' := ?_) #[true, true, true, true, true, true, true, true, false, false, false, false, false, false, false, false, false, false, false, false, false, false, false, false, false] rfl rfl (any_of HT_.out (by kernel_rfl)) (fun _ _ _ h => h) (Or.inl ⟨by rfl, ?_⟩) ?_ ?_
          rotate_left
          · intro w'
            go_simp
            with_reducible rfl
          rotate_left
          · simp only [Act.put, List.setIfInBounds_toArray, List.set_cons_zero, List.set_cons_succ, i64_w, i32_w]
            rfl
          refine pure_ (i := 8) (N := some 24) (v := ?_) (a' := ?_) #[true, true, true, true, true, true, true, true, true, false, false, false, false, false, false, false, false, false, false, false, false, false, false, false, false] rfl rfl (any_of HT_.out (by kernel_rfl)) (fun _ _ _ h => h) (Or.inl ⟨by rfl, ?_⟩) ?_ ?_
          rotate_left
          · intro w'
            go_simp
            with_reducible rfl
          rotate_left
          · simp only [Act.put, List.setIfInBounds_toArray, List.set_cons_zero, List.set_cons_succ, i64_w, i32_w]
            rfl
          refine pure_ (i := 9) (N := some 25) (v := ?_) (a' := ?_) #[true, true, true, true, true, true, true, true, true, true, false, false, false, false, false, false, false, false, false, false, false, false, false, false, false] rfl rfl (any_of HT_.out (by kernel_rfl)) (fun _ _ _ h => h) (Or.inl ⟨by rfl, ?_⟩) ?_ ?_
          rotate_left
          · intro w'
            go_simp
            with_reducible rfl
          rotate_left
          · simp only [Act.put, List.setIfInBounds_toArray, List.set_cons_zero, List.set_cons_succ, i64_w, i32_w]
            rfl
          refine pure_ (i := 10) (N := some 26) (v := ?_) (a' := ?_) #[true, true, true, true, true, true, true, true, true, true, true, false, false, false, false, false, false, false, false, false, false, false, false, false, false] rfl rfl (any_of HT_.out (by kernel_rfl)) (fun _ _ _ h => h) (Or.inl ⟨by rfl, ?_⟩) ?_ ?_
          rotate_left
          · intro w'
            go_simp
            with_reducible rfl
          rotate_left
          · simp only [Act.put, List.setIfInBounds_toArray, List.set_cons_zero, List.set_cons_succ, i64_w, i32_w]
            rfl
          refine pure_ (i := 11) (N := some 27) (v := ?_) (a' := ?_) #[true, true, true, true, true, true, true, true, true, true, true, true, false, false, false, false, false, false, false, false, false, false, false, false, false] rfl rfl (any_of HT_.out (by kernel_rfl)) (fun _ _ _ h => h) (Or.inl ⟨by rfl, ?_⟩) ?_ ?_
          rotate_left
          · intro w'
            go_simp
            with_reducible rfl
          rotate_left
          · simp only [Act.put, List.setIfInBounds_toArray, List.set_cons_zero, List.set_cons_succ, i64_w, i32_w]
            rfl
          refine pure_ (i := 12) (N := some 28) (v := ?_) (a' := ?_) #[true, true, true, true, true, true, true, true, true, true, true, true, true, false, false, false, false, false, false, false, false, false, false, false, false] rfl rfl (any_of HT_.out (by kernel_rfl)) (fun _ _ _ h => h) (Or.inl ⟨by rfl, ?_⟩) ?_ ?_
          rotate_left
          · intro w'
            go_simp
            with_reducible rfl
          rotate_left
          · simp only [Act.put, List.setIfInBounds_toArray, List.set_cons_zero, List.set_cons_succ, i64_w, i32_w]
            rfl
          refine pure_ (i := 13) (N := some 29) (v := ?_) (a' := ?_) #[true, true, true, true, true, true, true, true, true, true, true, true, true, true, false, false, false, false, false, false, false, false, false, false, false] rfl rfl (any_of HT_.out (by kernel_rfl)) (fun _ _ _ h => h) (Or.inl ⟨by rfl, ?_⟩) ?_ ?_
          rotate_left
          · intro w'
            go_simp
            with_reducible rfl
          rotate_left
          · simp only [Act.put, List.setIfInBounds_toArray, List.set_cons_zero, List.set_cons_succ, i64_w, i32_w]
            rfl
          refine pure_ (i := 14) (N := some 30) (v := ?_) (a' := ?_) #[true, true, true, true, true, true, true, true, true, true, true, true, true, true, true, false, false, false, false, false, false, false, false, false, false] rfl rfl (any_of HT_.out (by kernel_rfl)) (fun _ _ _ h => h) (Or.inl ⟨by rfl, ?_⟩) ?_ ?_
          rotate_left
          · intro w'
            go_simp
            with_reducible rfl
          rotate_left
          · simp only [Act.put, List.setIfInBounds_toArray, List.set_cons_zero, List.set_cons_succ, i64_w, i32_w]
            rfl
          refine pure_ (i := 15) (N := some 31) (v := ?_) (a' := ?_) #[true, true, true, true, true, true, true, true, true, true, true, true, true, true, true, true, false, false, false, false, false, false, false, false, false] rfl rfl (any_of HT_.out (by kernel_rfl)) (fun _ _ _ h => h) (Or.inl ⟨by rfl, ?_⟩) ?_ ?_
          rotate_left
          · intro w'
            go_simp
            with_reducible rfl
          rotate_left
          · simp only [Act.put, List.setIfInBounds_toArray, List.set_cons_zero, List.set_cons_succ, i64_w, i32_w]
            rfl
          refine pure_ (i := 16) (N := some 32) (v := ?_) (a' := ?_) #[true, true, true, true, true, true, true, true, true, true, true, true, true, true, true, true, true, false, false, false, false, false, false, false, false] rfl rfl (any_of HT_.out (by kernel_rfl)) (fun _ _ _ h => h) (Or.inl ⟨by rfl, ?_⟩) ?_ ?_
          rotate_left
          · intro w'
            go_simp
            with_reducible rfl
          rotate_left
          · simp only [Act.put, List.setIfInBounds_toArray, List.set_cons_zero, List.set_cons_succ, i64_w, i32_w]
            rfl
          refine pure_ (i := 17) (N := some 33) (v := ?_) (a' := ?_) #[true, true, true, true, true, true, true, true, true, true, true, true, true, true, true, true, true, true, false, false, false, false, false, false, false] rfl rfl (any_of HT_.out (by kernel_rfl)) (fun _ _ _ h => h) (Or.inl ⟨by rfl, ?_⟩) ?_ ?_
          rotate_left
          · intro w'
            go_simp
            with_reducible rfl
          rotate_left
          · simp only [Act.put, List.setIfInBounds_toArray, List.set_cons_zero, List.set_cons_succ, i64_w, i32_w]
            rfl
          refine pure_ (i := 18) (N := some 34) (v := ?_) (a' := ?_) #[true, true, true, true, true, true, true, true, true, true, true, true, true, true, true, true, true, true, true, false, false, false, false, false, false] rfl rfl (any_of HT_.out (by kernel_rfl)) (fun _ _ _ h => h) (Or.inl ⟨by rfl, ?_⟩) ?_ ?_
          rotate_left
          · intro w'
            go_simp
            with_reducible rfl
          rotate_left
          · simp only [Act.put, List.setIfInBounds_toArray, List.set_cons_zero, List.set_cons_succ, i64_w, i32_w]
            rfl
          refine take_ (i := 19) (N := some 35) (v := ?_) (a' := ?_) #[true, true, true, true, true, true, true, true, true, true, true, true, true, true, true, true, true, true, true, true, false, false, false, false, false] rfl rfl (take_ofW HT_.out HW_.out (by kernel_rfl)) (fun _ _ _ h => h) (Or.inl ⟨by rfl, ?_⟩) hHeld ?_ ?_
          rotate_left
          · intro w' hSt
            obtain ⟨ad_, A0_, c0_, hA_, x0, x1, hl_, hC_⟩ := row_cf (Kd.C_below HR.out (below_step HB.out hSt)) j (by omega) _ HPV.out
            cases hA_
            go_simp
            with_reducible rfl
          rotate_left
          · simp only [Act.put, List.setIfInBounds_toArray, List.set_cons_zero, List.set_cons_succ, i64_w, i32_w]
            rfl
          refine pure_ (i := 20) (N := some 36) (v := ?_) (a' := ?_) #[true, true, true, true, true, true, true, true, true, true, true, true, true, true, true, true, true, true, true, true, true, false, false, false, false] rfl rfl (any_of HT_.out (by kernel_rfl)) (fun _ _ _ h => h) (Or.inl ⟨by rfl, ?_⟩) ?_ ?_
          rotate_left
          · intro w'
            go_simp
            with_reducible rfl
          rotate_left
          · simp only [Act.put, List.setIfInBounds_toArray, List.set_cons_zero, List.set_cons_succ, i64_w, i32_w]
            rfl
          refine take_ (i := 21) (N := some 37) (v := ?_) (a' := ?_) #[true, true, true, true, true, true, true, true, true, true, true, true, true, true, true, true, true, true, true, true, true, true, false, false, false] rfl rfl (take_ofW HT_.out HW_.out (by kernel_rfl)) (fun _ _ _ h => h) (Or.inl ⟨by rfl, ?_⟩) hHeld ?_ ?_
          rotate_left
          · intro w' hSt
            obtain ⟨o0, o1⟩ := HX.out.below hSt |>.cu
            go_simp
            with_reducible rfl
          rotate_left
          · simp only [Act.put, List.setIfInBounds_toArray, List.set_cons_zero, List.set_cons_succ, i64_w, i32_w]
            rfl
          refine pure_ (i := 22) (N := some 38) (v := ?_) (a' := ?_) #[true, true, true, true, true, true, true, true, true, true, true, true, true, true, true, true, true, true, true, true, true, true, true, false, false] rfl rfl (any_of HT_.out (by kernel_rfl)) (fun _ _ _ h => h) (Or.inl ⟨by rfl, ?_⟩) ?_ ?_
          rotate_left
          · intro w'
            go_simp
            with_reducible rfl
          rotate_left
          · simp only [Act.put, List.setIfInBounds_toArray, List.set_cons_zero, List.set_cons_succ, i64_w, i32_w]
            rfl
          refine pure_ (i := 23) (N := some 39) (v := ?_) (a' := ?_) #[true, true, true, true, true, true, true, true, true, true, true, true, true, true, true, true, true, true, true, true, true, true, true, true, false] rfl rfl (any_of HT_.out (by kernel_rfl)) (fun _ _ _ h => h) (Or.inl ⟨by rfl, ?_⟩) ?_ ?_
          rotate_left
          · intro w'
            go_simp
            with_reducible rfl
          rotate_left
          · simp only [Act.put, List.setIfInBounds_toArray, List.set_cons_zero, List.set_cons_succ, i64_w, i32_w]
            rfl
          refine pure_ (i := 24) (N := some 40) (v := ?_) (a' := ?_) #[true, true, true, true, true, true, true, true, true, true, true, true, true, true, true, true, true, true, true, true, true, true, true, true, true] rfl rfl (any_of HT_.out (by kernel_rfl)) (fun _ _ _ h => h) (Or.inl ⟨by rfl, ?_⟩) ?_ ?_
          rotate_left
          · intro w'
            go_simp
            with_reducible rfl
          rotate_left
          · simp only [Act.put, List.setIfInBounds_toArray, List.set_cons_zero, List.set_cons_succ, i64_w, i32_w]
            rfl
          refine done_ (done_of HT_.out (by kernel_rfl)) ?_
          have HBN := Aside0.mk (below_step HB.out hHeld)
          clear hS0 hHeld HT_ HW_
          go_wp2
          go_ret
          exact ⟨by rw [← hMT.out, HF.out]; rfl, HBN.out⟩
        | true =>
          have HO1 := Aside0.mk (show okFs xs (j + 1 + 1) = true by show (okFs xs (j + 1) && okF xs (j + 1) (xs.getD (j + 1) fl0)) = true; rw [HGD.out, HOK.out]; unfold okF ltS; rw [hp, decide_eq_true h2, show j + 1 - 1 = j from rfl, hy, hlt2]; rfl)
          have HS1 : Aside0 (sumF xs (j + 1 + 1) = sumF xs (j + 1) + x.2.length) := ⟨by show sumF xs (j + 1) + (xs.getD (j + 1) fl0).2.length = _; rw [HGD.out]⟩
          clear hp hy
          refine start_ (n := 25) (S := fun w' => Below w3.heap.size w3 w') (ds := []) #[false, false, false, false, false, false, false, false, false, false, false, false, false, false, false, false, false, false, false, false, false, false, false, false, false] (by kernel_rfl) rfl rfl (by exact hS0) (fun hHeld => ?_)
          refine with_tabW tmay_tab7 tmay_bits7 (fun HT_ HW_ => ?_)
          refine pure_ (i := 0) (N := some 16) (v := ?_) (a' := ?_) #[true, false, false, false, false, false, false, false, false, false, false, false, false, false, false, false, false, false, false, false, false, false, false, false, false] rfl rfl (any_of HT_.out (by kernel_rfl)) (fun _ _ _ h => h) (Or.inl ⟨by rfl, ?_⟩) ?_ ?_
          rotate_left
          · intro w'
            go_simp
            with_reducible rfl
          rotate_left
          · simp only [Act.put, List.setIfInBounds_toArray, List.set_cons_zero, List.set_cons_succ, i64_w, i32_w]
            rfl
          refine take_ (i := 1) (N := some 17) (v := ?_) (a' := ?_) #[true, true, false, false, false, false, false, false, false, false, false, false, false, false, false, false, false, false, false, false, false, false, false, false, false] rfl rfl (take_ofW HT_.out HW_.out (by kernel_rfl)) (fun _ _ _ h => h) (Or.inl ⟨by rfl, ?_⟩) hHeld ?_ ?_
          rotate_left
          · intro w' hSt
            obtain ⟨o0, o1⟩ := HX.out.below hSt |>.cu
            go_simp
            with_reducible rfl
          rotate_left
          · simp only [Act.put, List.setIfInBounds_toArray, List.set_cons_zero, List.set_cons_succ, i64_w, i32_w]
            rfl
          refine one_ (i := 2) (N := some 18) #[true, true, true, false, false, false, false, false, false, false, false, false, false, false, false, false, false, false, false, false, false, false, false, false, false] rfl rfl (one_of HT_.out (by kernel_rfl)) (by decide) (fun K hK => ?_)
          refine goes_ Tryd.func45 (by kernel_rfl) rfl #[.string x.1] (by rfl) rfl rfl (by (try simp only [List.map_toArray, List.map_cons, List.map_nil]); first | done | rfl) ?_
          refine (isPath_at x.1 _ HSZ.out HIP.out).mono ?_
          rintro e v1 ⟨rfl, hb⟩
          refine ⟨_, rfl, ?_⟩
          have hS1 := below_step hHeld hb
          clear hb
          refine hK.out _ _ (by exact hS1) (fun hHeld => ?_)
          clear hK K
          refine norm_ (a' := ?_) ?_ ?_
          rotate_left
          · first
            | (show Act.put _ (some 18) _ = _; simp only [Act.put, List.setIfInBounds_toArray, List.set_cons_zero, List.set_cons_succ, i64_w, i32_w]; rfl)
            | rfl
          refine pure_ (i := 3) (N := some 19) (v := ?_) (a' := ?_) #[true, true, true, true, false, false, false, false, false, false, false, false, false, false, false, false, false, false, false, false, false, false, false, false, false] rfl rfl (any_of HT_.out (by kernel_rfl)) (fun _ _ _ h => h) (Or.inl ⟨by rfl, ?_⟩) ?_ ?_
          rotate_left
          · intro w'
            go_simp
            with_reducible rfl
          rotate_left
          · simp only [Act.put, List.setIfInBounds_toArray, List.set_cons_zero, List.set_cons_succ, i64_w, i32_w]
            rfl
          refine pure_ (i := 4) (N := some 20) (v := ?_) (a' := ?_) #[true, true, true, true, true, false, false, false, false, false, false, false, false, false, false, false, false, false, false, false, false, false, false, false, false] rfl rfl (any_of HT_.out (by kernel_rfl)) (fun _ _ _ h => h) (Or.inl ⟨by rfl, ?_⟩) ?_ ?_
          rotate_left
          · intro w'
            go_simp
            with_reducible rfl
          rotate_left
          · simp only [Act.put, List.setIfInBounds_toArray, List.set_cons_zero, List.set_cons_succ, i64_w, i32_w]
            rfl
          refine pure_ (i := 5) (N := some 21) (v := ?_) (a' := ?_) #[true, true, true, true, true, true, false, false, false, false, false, false, false, false, false, false, false, false, false, false, false, false, false, false, false] rfl rfl (any_of HT_.out (by kernel_rfl)) (fun _ _ _ h => h) (Or.inl ⟨by rfl, ?_⟩) ?_ ?_
          rotate_left
          · intro w'
            go_simp
            with_reducible rfl
          rotate_left
          · simp only [Act.put, List.setIfInBounds_toArray, List.set_cons_zero, List.set_cons_succ, i64_w, i32_w]
            rfl
          refine take_ (i := 6) (N := some 22) (v := ?_) (a' := ?_) #[true, true, true, true, true, true, true, false, false, false, false, false, false, false, false, false, false, false, false, false, false, false, false, false, false] rfl rfl (take_ofW HT_.out HW_.out (by kernel_rfl)) (fun _ _ _ h => h) (Or.inl ⟨by rfl, ?_⟩) hHeld ?_ ?_
          rotate_left
          · intro w' hSt
            obtain ⟨o0, o1⟩ := HX.out.below hSt |>.cu
            go_simp
            with_reducible rfl
          rotate_left
          · simp only [Act.put, List.setIfInBounds_toArray, List.set_cons_zero, List.set_cons_succ, i64_w, i32_w]
            rfl
          refine pure_ (i := 7) (N := some 23) (v := ?_) (a' := ?_) #[true, true, true, true, true, true, true, true, false, false, false, false, false, false, false, false, false, false, false, false, false, false, false, false, false] rfl rfl (any_of HT_.out (by kernel_rfl)) (fun _ _ _ h => h) (Or.inl ⟨by rfl, ?_⟩) ?_ ?_
          rotate_left
          · intro w'
            go_simp
            with_reducible rfl
          rotate_left
          · simp only [Act.put, List.setIfInBounds_toArray, List.set_cons_zero, List.set_cons_succ, i64_w, i32_w]
            rfl
          refine pure_ (i := 8) (N := some 24) (v := ?_) (a' := ?_) #[true, true, true, true, true, true, true, true, true, false, false, false, false, false, false, false, false, false, false, false, false, false, false, false, false] rfl rfl (any_of HT_.out (by kernel_rfl)) (fun _ _ _ h => h) (Or.inl ⟨by rfl, ?_⟩) ?_ ?_
          rotate_left
          · intro w'
            go_simp
            with_reducible rfl
          rotate_left
          · simp only [Act.put, List.setIfInBounds_toArray, List.set_cons_zero, List.set_cons_succ, i64_w, i32_w]
            rfl
          refine pure_ (i := 9) (N := some 25) (v := ?_) (a' := ?_) #[true, true, true, true, true, true, true, true, true, true, false, false, false, false, false, false, false, false, false, false, false, false, false, false, false] rfl rfl (any_of HT_.out (by kernel_rfl)) (fun _ _ _ h => h) (Or.inl ⟨by rfl, ?_⟩) ?_ ?_
          rotate_left
          · intro w'
            go_simp
            with_reducible rfl
          rotate_left
          · simp only [Act.put, List.setIfInBounds_toArray, List.set_cons_zero, List.set_cons_succ, i64_w, i32_w]
            rfl
          refine pure_ (i := 10) (N := some 26) (v := ?_) (a' := ?_) #[true, true, true, true, true, true, true, true, true, true, true, false, false, false, false, false, false, false, false, false, false, false, false, false, false] rfl rfl (any_of HT_.out (by kernel_rfl)) (fun _ _ _ h => h) (Or.inl ⟨by rfl, ?_⟩) ?_ ?_
          rotate_left
          · intro w'
            go_simp
            with_reducible rfl
          rotate_left
          · simp only [Act.put, List.setIfInBounds_toArray, List.set_cons_zero, List.set_cons_succ, i64_w, i32_w]
            rfl
          refine pure_ (i := 11) (N := some 27) (v := ?_) (a' := ?_) #[true, true, true, true, true, true, true, true, true, true, true, true, false, false, false, false, false, false, false, false, false, false, false, false, false] rfl rfl (any_of HT_.out (by kernel_rfl)) (fun _ _ _ h => h) (Or.inl ⟨by rfl, ?_⟩) ?_ ?_
          rotate_left
          · intro w'
            go_simp
            with_reducible rfl
          rotate_left
          · simp only [Act.put, List.setIfInBounds_toArray, List.set_cons_zero, List.set_cons_succ, i64_w, i32_w]
            rfl
          refine pure_ (i := 12) (N := some 28) (v := ?_) (a' := ?_) #[true, true, true, true, true, true, true, true, true, true, true, true, true, false, false, false, false, false, false, false, false, false, false, false, false] rfl rfl (any_of HT_.out (by kernel_rfl)) (fun _ _ _ h => h) (Or.inl ⟨by rfl, ?_⟩) ?_ ?_
          rotate_left
          · intro w'
            go_simp
            with_reducible rfl
          rotate_left
          · simp only [Act.put, List.setIfInBounds_toArray, List.set_cons_zero, List.set_cons_succ, i64_w, i32_w]
            rfl
          refine pure_ (i := 13) (N := some 29) (v := ?_) (a' := ?_) #[true, true, true, true, true, true, true, true, true, true, true, true, true, true, false, false, false, false, false, false, false, false, false, false, false] rfl rfl (any_of HT_.out (by kernel_rfl)) (fun _ _ _ h => h) (Or.inl ⟨by rfl, ?_⟩) ?_ ?_
          rotate_left
          · intro w'
            go_simp
            with_reducible rfl
          rotate_left
          · simp only [Act.put, List.setIfInBounds_toArray, List.set_cons_zero, List.set_cons_succ, i64_w, i32_w]
            rfl
          refine pure_ (i := 14) (N := some 30) (v := ?_) (a' := ?_) #[true, true, true, true, true, true, true, true, true, true, true, true, true, true, true, false, false, false, false, false, false, false, false, false, false] rfl rfl (any_of HT_.out (by kernel_rfl)) (fun _ _ _ h => h) (Or.inl ⟨by rfl, ?_⟩) ?_ ?_
          rotate_left
          · intro w'
            go_simp
            with_reducible rfl
          rotate_left
          · simp only [Act.put, List.setIfInBounds_toArray, List.set_cons_zero, List.set_cons_succ, i64_w, i32_w]
            rfl
          refine pure_ (i := 15) (N := some 31) (v := ?_) (a' := ?_) #[true, true, true, true, true, true, true, true, true, true, true, true, true, true, true, true, false, false, false, false, false, false, false, false, false] rfl rfl (any_of HT_.out (by kernel_rfl)) (fun _ _ _ h => h) (Or.inl ⟨by rfl, ?_⟩) ?_ ?_
          rotate_left
          · intro w'
            go_simp
            with_reducible rfl
          rotate_left
          · simp only [Act.put, List.setIfInBounds_toArray, List.set_cons_zero, List.set_cons_succ, i64_w, i32_w]
            rfl
          refine pure_ (i := 16) (N := some 32) (v := ?_) (a' := ?_) #[true, true, true, true, true, true, true, true, true, true, true, true, true, true, true, true, true, false, false, false, false, false, false, false, false] rfl rfl (any_of HT_.out (by kernel_rfl)) (fun _ _ _ h => h) (Or.inl ⟨by rfl, ?_⟩) ?_ ?_
          rotate_left
          · intro w'
            go_simp
            with_reducible rfl
          rotate_left
          · simp only [Act.put, List.setIfInBounds_toArray, List.set_cons_zero, List.set_cons_succ, i64_w, i32_w]
            rfl
          refine pure_ (i := 17) (N := some 33) (v := ?_) (a' := ?_) #[true, true, true, true, true, true, true, true, true, true, true, true, true, true, true, true, true, true, false, false, false, false, false, false, false] rfl rfl (any_of HT_.out (by kernel_rfl)) (fun _ _ _ h => h) (Or.inl ⟨by rfl, ?_⟩) ?_ ?_
          rotate_left
          · intro w'
            go_simp
            with_reducible rfl
          rotate_left
          · simp only [Act.put, List.setIfInBounds_toArray, List.set_cons_zero, List.set_cons_succ, i64_w, i32_w]
            rfl
          refine pure_ (i := 18) (N := some 34) (v := ?_) (a' := ?_) #[true, true, true, true, true, true, true, true, true, true, true, true, true, true, true, true, true, true, true, false, false, false, false, false, false] rfl rfl (any_of HT_.out (by kernel_rfl)) (fun _ _ _ h => h) (Or.inl ⟨by rfl, ?_⟩) ?_ ?_
          rotate_left
          · intro w'
            go_simp
            with_reducible rfl
          rotate_left
          · simp only [Act.put, List.setIfInBounds_toArray, List.set_cons_zero, List.set_cons_succ, i64_w, i32_w]
            rfl
          refine take_ (i := 19) (N := some 35) (v := ?_) (a' := ?_) #[true, true, true, true, true, true, true, true, true, true, true, true, true, true, true, true, true, true, true, true, false, false, false, false, false] rfl rfl (take_ofW HT_.out HW_.out (by kernel_rfl)) (fun _ _ _ h => h) (Or.inl ⟨by rfl, ?_⟩) hHeld ?_ ?_
          rotate_left
          · intro w' hSt
            obtain ⟨ad_, A0_, c0_, hA_, x0, x1, hl_, hC_⟩ := row_cf (Kd.C_below HR.out (below_step HB.out hSt)) j (by omega) _ HPV.out
            cases hA_
            go_simp
            with_reducible rfl
          rotate_left
          · simp only [Act.put, List.setIfInBounds_toArray, List.set_cons_zero, List.set_cons_succ, i64_w, i32_w]
            rfl
          refine pure_ (i := 20) (N := some 36) (v := ?_) (a' := ?_) #[true, true, true, true, true, true, true, true, true, true, true, true, true, true, true, true, true, true, true, true, true, false, false, false, false] rfl rfl (any_of HT_.out (by kernel_rfl)) (fun _ _ _ h => h) (Or.inl ⟨by rfl, ?_⟩) ?_ ?_
          rotate_left
          · intro w'
            go_simp
            with_reducible rfl
          rotate_left
          · simp only [Act.put, List.setIfInBounds_toArray, List.set_cons_zero, List.set_cons_succ, i64_w, i32_w]
            rfl
          refine take_ (i := 21) (N := some 37) (v := ?_) (a' := ?_) #[true, true, true, true, true, true, true, true, true, true, true, true, true, true, true, true, true, true, true, true, true, true, false, false, false] rfl rfl (take_ofW HT_.out HW_.out (by kernel_rfl)) (fun _ _ _ h => h) (Or.inl ⟨by rfl, ?_⟩) hHeld ?_ ?_
          rotate_left
          · intro w' hSt
            obtain ⟨o0, o1⟩ := HX.out.below hSt |>.cu
            go_simp
            with_reducible rfl
          rotate_left
          · simp only [Act.put, List.setIfInBounds_toArray, List.set_cons_zero, List.set_cons_succ, i64_w, i32_w]
            rfl
          refine pure_ (i := 22) (N := some 38) (v := ?_) (a' := ?_) #[true, true, true, true, true, true, true, true, true, true, true, true, true, true, true, true, true, true, true, true, true, true, true, false, false] rfl rfl (any_of HT_.out (by kernel_rfl)) (fun _ _ _ h => h) (Or.inl ⟨by rfl, ?_⟩) ?_ ?_
          rotate_left
          · intro w'
            go_simp
            with_reducible rfl
          rotate_left
          · simp only [Act.put, List.setIfInBounds_toArray, List.set_cons_zero, List.set_cons_succ, i64_w, i32_w]
            rfl
          refine pure_ (i := 23) (N := some 39) (v := ?_) (a' := ?_) #[true, true, true, true, true, true, true, true, true, true, true, true, true, true, true, true, true, true, true, true, true, true, true, true, false] rfl rfl (any_of HT_.out (by kernel_rfl)) (fun _ _ _ h => h) (Or.inl ⟨by rfl, ?_⟩) ?_ ?_
          rotate_left
          · intro w'
            go_simp
            with_reducible rfl
          rotate_left
          · simp only [Act.put, List.setIfInBounds_toArray, List.set_cons_zero, List.set_cons_succ, i64_w, i32_w]
            rfl
          refine pure_ (i := 24) (N := some 40) (v := ?_) (a' := ?_) #[true, true, true, true, true, true, true, true, true, true, true, true, true, true, true, true, true, true, true, true, true, true, true, true, true] rfl rfl (any_of HT_.out (by kernel_rfl)) (fun _ _ _ h => h) (Or.inl ⟨by rfl, ?_⟩) ?_ ?_
          rotate_left
          · intro w'
            go_simp
            with_reducible rfl
          rotate_left
          · simp only [Act.put, List.setIfInBounds_toArray, List.set_cons_zero, List.set_cons_succ, i64_w, i32_w]
            rfl
          refine done_ (done_of HT_.out (by kernel_rfl)) ?_
          have HBN := Aside0.mk (below_step HB.out hHeld)
          obtain ⟨o0, o1⟩ := (HX.out.below hHeld).cu
          clear hS0 hHeld HT_ HW_
          generalize x.2.length = xl at h2 o1 HS1
          generalize sumF xs (j + 1) = sm at hsum HS1 ⊢
          go_wp2
          go_roundw
          case rel => exact ⟨j + 1 + 1, by omega, by first | rfl | go_num, by first | (rw [HS1.out]; done) | (rw [HS1.out]; go_num), by rw [HS1.out]; omega, HO1, HBN⟩
          case measure => simp [intOf]; omega
    · obtain rfl : k = xs.length := by omega
      have HV := Aside0.mk (show decide (((sumF xs xs.length : Nat) : Int) ≤ 4000) = MT by
        rw [← hMT.out]
        unfold mayT
        rw [decide_eq_true hlen, HOK.out, Bool.true_and, Bool.true_and]
        exact decide_eq_decide.2 (by omega))
      generalize sumF xs xs.length = sm at HV hsum ⊢
      have hv := HV.out
      have hv2 : decide (sm ≤ 4000) = MT := by rw [← hv]; exact decide_eq_decide.2 (by omega)
      go_wp2
      go_ret
      exact ⟨rfl, HB.out⟩
end Go.Proofs.YtlojemnmdakfiaaDoor.Tr
end
section
namespace Go.Proofs.YtlojemnmdakfiaaDoor.Hand
open Go.RowKit Go.Proofs.YtlojemnmdakfiaaDoorW.PrintWords Go.Proofs.YtlojemnmdakfiaaDoorW.PrintLast Go.Proofs.YtlojemnmdakfiaaDoorW.PrintMore
set_option linter.unusedVariables false
set_option linter.unusedSimpArgs false
def valP : List Int → Nat
  | [] => 0
  | x :: l => x.toNat * 256 ^ l.length + valP l
theorem valP_digsF : ∀ (k m : Nat) (acc : List Int), m < 256 ^ k → valP (digsF k m acc) = m * 256 ^ acc.length + valP acc
  | 0, m, acc, h => by
    have : m = 0 := by simpa using h
    subst this
    rw [digsF_zero]
    simp
  | k + 1, m, acc, h => by
    by_cases h0 : m = 0
    · subst h0
      rw [digsF_zero]
      simp
    · have e : digsF (k + 1) m acc = digsF k (m / 256) (((m % 256 : Nat) : Int) :: acc) := by
        rw [digsF]
        first | rw [if_neg h0] | rw [if_pos (by omega)] | simp [h0]
      rw [e, valP_digsF k _ _ (by rw [Nat.pow_succ] at h; omega)]
      show m / 256 * 256 ^ (acc.length + 1) + (((m % 256 : Nat) : Int).toNat * 256 ^ acc.length + valP acc) = _
      rw [Int.toNat_natCast, Nat.pow_succ, ← Nat.add_assoc]
      congr 1
      have hm := Nat.div_add_mod m 256
      calc m / 256 * (256 ^ acc.length * 256) + m % 256 * 256 ^ acc.length = (256 * (m / 256) + m % 256) * 256 ^ acc.length := by rw [Nat.add_mul]; congr 1; rw [Nat.mul_comm (256 ^ acc.length) 256, ← Nat.mul_assoc, Nat.mul_comm (m / 256) 256]
        _ = _ := by rw [hm]
theorem digs_inj {n m : Nat} (hn : n < 18446744073709551616) (hm : m < 18446744073709551616) (h : digs n = digs m) : n = m := by
  have a := valP_digsF 8 n [] (by simpa using hn)
  have b := valP_digsF 8 m [] (by simpa using hm)
  have h' : digsF 8 n [] = digsF 8 m [] := h
  rw [h', b] at a
  simpa [valP] using a.symm
theorem formL_pre {n m : Nat} {a b : List Int} (hn : n < 18446744073709551616) (hm : m < 18446744073709551616) (h : formL n ++ a = formL m ++ b) : n = m ∧ a = b := by
  unfold formL at h
  rw [List.cons_append, List.cons_append, List.cons.injEq] at h
  obtain ⟨h1, h2⟩ := h
  obtain ⟨h3, h4⟩ := List.append_inj h2 (by omega)
  exact ⟨digs_inj hn hm h3, h4⟩
theorem formL_inj {n m : Nat} (hn : n < 18446744073709551616) (hm : m < 18446744073709551616) (h : formL n = formL m) : n = m :=
  (formL_pre (a := []) (b := []) hn hm (by rw [h])).1
theorem rowL_pre {x y a b : List Int} (hn : x.length < 18446744073709551616) (hm : y.length < 18446744073709551616) (h : rowL x ++ a = rowL y ++ b) : x = y ∧ a = b := by
  unfold rowL at h
  rw [List.append_assoc, List.append_assoc] at h
  obtain ⟨h1, h2⟩ := formL_pre hn hm h
  exact List.append_inj h2 h1
end Go.Proofs.YtlojemnmdakfiaaDoor.Hand
end
section
namespace Go.Proofs.YtlojemnmdakfiaaDoor.Prog6
open Go.RowKit Go.Proofs.YtlojemnmdakfiaaDoorW.PrintWords Go.Proofs.YtlojemnmdakfiaaDoorW.PrintLast Go.Proofs.YtlojemnmdakfiaaDoorW.PrintMore
set_option linter.unusedVariables false
set_option linter.unusedSimpArgs false
abbrev Ins := Int × ByteArray × ByteArray × ByteArray × Int × Int
theorem cell_of {w : World} {g : Nat} {cur : Array Value} {t : TypeId} (h : w.heap[g]? = some (.cells cur t (0, 0))) {j : Nat} {u : Value} : w.cell? ⟨g, j, none⟩ = some u ↔ cur[j]? = some u := by
  simp [World.cell?, h]
theorem heap_keep {w w' : World} {h : Nat} {o : Obj} (hh : w.heap[h]? = some o) (hb : Below w.heap.size w w') : w'.heap[h]? = some o := (hb.block h (Array.getElem?_eq_some_iff.1 hh).1).trans hh
theorem heap_new (w : World) (o : Obj) : (w.alloc o).heap[w.heap.size]? = some o := by
  show (w.heap.push o)[w.heap.size]? = some o
  simp
def BoxI (w : World) (b : Nat) (x : Ins) : Prop := w.heap[b]? = some (.cells #[.int .u8 x.1, .string x.2.1, .string x.2.2.1, .string x.2.2.2.1, .int .i64 x.2.2.2.2.1, .int .i64 x.2.2.2.2.2] 68 (0, 0))
theorem BoxI.below {w w' : World} {b : Nat} {x : Ins} (h : BoxI w b x) (hb : Below w.heap.size w w') : BoxI w' b x := heap_keep h hb
theorem BoxI.cu {w : World} {b : Nat} {x : Ins} (h : BoxI w b x) : w.cell? ⟨b, 0, none⟩ = some (.int .u8 x.1) ∧ w.cell? ⟨b, 1, none⟩ = some (.string x.2.1) ∧ w.cell? ⟨b, 2, none⟩ = some (.string x.2.2.1) ∧ w.cell? ⟨b, 3, none⟩ = some (.string x.2.2.2.1) ∧ w.cell? ⟨b, 4, none⟩ = some (.int .i64 x.2.2.2.2.1) ∧ w.cell? ⟨b, 5, none⟩ = some (.int .i64 x.2.2.2.2.2) :=
  ⟨(cell_of h).2 rfl, (cell_of h).2 rfl, (cell_of h).2 rfl, (cell_of h).2 rfl, (cell_of h).2 rfl, (cell_of h).2 rfl⟩
def flds (op : Nat) : List UInt8 := ([[], [112, 112, 46, 46, 46], [112, 112, 112, 46, 46], [112, 112, 46, 110, 110], [112, 87, 119, 46, 46], [112, 46, 46, 46, 46], [112, 112, 46, 46, 46], [112, 112, 46, 46, 46], [46, 46, 46, 106, 46], [112, 46, 46, 106, 46], [112, 112, 46, 106, 46], [46, 46, 46, 46, 46]] : List (List UInt8)).getD op []
def fieldB (op : Nat) : ByteArray := ⟨(flds op).toArray⟩
def chr (op k : Nat) : Nat := ((flds op).getD k 0).toNat
def txt (x : Ins) (k : Nat) : ByteArray := ([x.2.1, x.2.2.1, x.2.2.2.1] : List ByteArray).getD k ⟨#[]⟩
def num (x : Ins) (k : Nat) : Int := ([x.2.2.2.2.1, x.2.2.2.2.2] : List Int).getD (k - 3) 0
def okAt (x : Ins) (many : Int) (k c : Nat) : Bool :=
  if c = 112 then isPath (txt x k)
  else if c = 119 then decide ((txt x k).size ≤ 40)
  else if c = 87 then decide ((txt x k).size ≤ 40) && !(txt x k).toList.isEmpty
  else if c = 110 then decide (0 ≤ num x k) && decide (num x k ≤ 2000)
  else if c = 106 then decide (0 ≤ num x k) && decide (num x k ≤ many)
  else if k < 3 then (txt x k).toList.isEmpty else (num x k == 0)
def okFrom (x : Ins) (many : Int) : Nat → Nat → Bool
  | 0, _ => true
  | f + 1, k => okAt x many k (chr x.1.toNat k) && okFrom x many f (k + 1)
def one (x : Ins) (many : Int) : Bool := if x.1 < 1 ∨ 11 < x.1 then false else okFrom x many 5 0
def Tab (w : World) : Prop := 1 < w.heap.size ∧ ∀ op, op < 12 → w.cell? ⟨1, op, none⟩ = some (.string (fieldB op))
theorem Tab.below {w w' : World} (h : Tab w) (hb : Below w.heap.size w w') : Tab w' := by
  refine ⟨Nat.lt_of_lt_of_le h.1 hb.size, fun op hop => ?_⟩
  rw [← h.2 op hop]
  simp only [World.cell?]
  rw [hb.block 1 h.1]
theorem fsize : ∀ op, op < 12 → 1 ≤ op → (flds op).length = 5 := by decide
theorem fchrB : ((List.range 12).all fun op => op == 0 || (List.range 5).all fun k => decide (chr op k < 128) && (if k < 3 then (chr op k == 112 || chr op k == 119 || chr op k == 87 || chr op k == 46) else (chr op k == 110 || chr op k == 106 || chr op k == 46))) = true := by decide
theorem fchr (op : Nat) (h12 : op < 12) (h1 : 1 ≤ op) (k : Nat) (hk : k < 5) : chr op k < 128 ∧ (k < 3 → chr op k = 112 ∨ chr op k = 119 ∨ chr op k = 87 ∨ chr op k = 46) ∧ (3 ≤ k → chr op k = 110 ∨ chr op k = 106 ∨ chr op k = 46) := by
  have h := List.all_eq_true.1 fchrB op (List.mem_range.2 h12)
  simp only [Bool.or_eq_true, beq_iff_eq] at h
  rcases h with h | h
  · omega
  · have h2 := List.all_eq_true.1 h k (List.mem_range.2 hk)
    simp only [Bool.and_eq_true, decide_eq_true_eq] at h2
    refine ⟨h2.1, fun h3 => ?_, fun h3 => ?_⟩
    · have h4 := h2.2
      rw [if_pos h3] at h4
      simp only [Bool.or_eq_true, beq_iff_eq] at h4
      rcases h4 with ((h4 | h4) | h4) | h4 <;> simp [h4]
    · have h4 := h2.2
      rw [if_neg (by omega)] at h4
      simp only [Bool.or_eq_true, beq_iff_eq] at h4
      rcases h4 with (h4 | h4) | h4 <;> simp [h4]
theorem fdec (op k : Nat) (h12 : op < 12) (h1 : 1 ≤ op) (hk : k < 5) : Utf8.decode (fieldB op) k = (chr op k, 1) := by
  have hs : (fieldB op).size = 5 := fsize op h12 h1
  have hc := (fchr op h12 h1 k hk).1
  have e : ((fieldB op)[k]'(by omega)).toNat = chr op k := by
    unfold chr
    have hl : k < (flds op).length := by rw [fsize op h12 h1]; exact hk
    rw [List.getD_eq_getElem?_getD, List.getElem?_eq_getElem hl]
    rfl
  rw [decode_ascii (fieldB op) k (by omega) (by omega), e]
theorem txt_at (x : Ins) (k : Nat) (hk : k < 3) : (#[.string x.2.1, .string x.2.2.1, .string x.2.2.2.1] : Array Value)[k]? = some (.string (txt x k)) := by
  rcases k with _ | _ | _ | k
  · rfl
  · rfl
  · rfl
  · omega
def one_T3 : Bool × List (List Nat × List Nat) := (true, [([], []), ([0], [0]), ([], []), ([2], [2]), ([], []), ([4], [4]), ([1, 3, 5], [1, 3, 5]), ([], []), ([7], [7]), ([], []), ([9], [9]), ([8, 10], [8, 10]), ([], []), ([], []), ([12, 6, 0, 1, 2, 3, 4, 5, 6, 12, 13], [6, 12]), ([13, 11, 14, 0, 1, 2, 3, 4, 5, 6, 7, 8, 9, 10, 11, 12, 13, 14], [11, 13])])
def one_B3 : List Nat := [0, 1, 0, 4, 0, 16, 63, 0, 128, 0, 512, 1920, 0, 0, 12415, 32767]
theorem one_tab3 : rtab .any (opsOf Tryd.f44 3) = one_T3 := by kernel_rfl
theorem one_bits3 : waitsOk one_T3.2 one_B3 = true := by kernel_rfl
set_option maxHeartbeats 3200000 in
set_option maxRecDepth 100000 in
theorem one_calls (x : Ins) (many : Int) (w : World) (hT : Tab w) (hsz : ∀ k, (txt x k).size ≤ 9223372036854775807) :
    Calls Tryd.prog 44 #[.agg #[.int .u8 x.1, .string x.2.1, .string x.2.2.1, .string x.2.2.2.1, .int .i64 x.2.2.2.2.1, .int .i64 x.2.2.2.2.2], .int .i64 many] w fun e w' => e = .returned (.bool (one x many)) ∧ Below w.heap.size w w' := by
  have HTAB := Aside0.mk hT
  have HSZ := Aside0.mk hsz
  clear hT hsz
  generalize hgo : one x many = R
  by_cases h1 : x.1 < 1
  · have e1 : decide (x.1 < 1) = true := decide_eq_true h1
    have HV := Aside0.mk (show R = false by rw [← hgo]; unfold one; rw [if_pos (Or.inl h1)])
    clear h1 hgo
    go_enter Tryd.func44, Tryd.ntmps44
    go_upto_region 1 with (fail)
    have HB := Aside0.mk ((Below.refl w.heap.size w).alloc (Nat.le_refl _) (.cells #[.int .u8 x.1, .string x.2.1, .string x.2.2.1, .string x.2.2.2.1, .int .i64 x.2.2.2.2.1, .int .i64 x.2.2.2.2.2] 68 (0, 0)))
    have HX := Aside0.mk (show BoxI (w.alloc (.cells #[.int .u8 x.1, .string x.2.1, .string x.2.2.1, .string x.2.2.2.1, .int .i64 x.2.2.2.2.1, .int .i64 x.2.2.2.2.2] 68 (0, 0))) w.heap.size x from heap_new _ _)
    generalize w.alloc _ = wa at HB HX ⊢
    generalize w.heap.size = b at HX ⊢
    obtain ⟨b0, b1, b2, b3, b4, b5⟩ := HX.out.cu
    go_wp2
    go_ret
    exact ⟨by rw [HV.out]; rfl, HB.out⟩
  have e1 : decide (x.1 < 1) = false := decide_eq_false h1
  by_cases h2 : x.1 > 11
  · have e2 : decide (x.1 > 11) = true := decide_eq_true h2
    have HV := Aside0.mk (show R = false by rw [← hgo]; unfold one; rw [if_pos (Or.inr h2)])
    clear h1 h2 hgo
    go_enter Tryd.func44, Tryd.ntmps44
    go_upto_region 1 with (fail)
    have HB := Aside0.mk ((Below.refl w.heap.size w).alloc (Nat.le_refl _) (.cells #[.int .u8 x.1, .string x.2.1, .string x.2.2.1, .string x.2.2.2.1, .int .i64 x.2.2.2.2.1, .int .i64 x.2.2.2.2.2] 68 (0, 0)))
    have HX := Aside0.mk (show BoxI (w.alloc (.cells #[.int .u8 x.1, .string x.2.1, .string x.2.2.1, .string x.2.2.2.1, .int .i64 x.2.2.2.2.1, .int .i64 x.2.2.2.2.2] 68 (0, 0))) w.heap.size x from heap_new _ _)
    generalize w.alloc _ = wa at HB HX ⊢
    generalize w.heap.size = b at HX ⊢
    obtain ⟨b0, b1, b2, b3, b4, b5⟩ := HX.out.cu
    go_wp2
    go_ret
    exact ⟨by rw [HV.out]; rfl, HB.out⟩
  have e2 : decide (x.1 > 11) = false := decide_eq_false h2
  have HOK := Aside0.mk (show okFrom x many 5 0 = R by rw [← hgo]; unfold one; rw [if_neg (by omega)])
  have HOP := Aside0.mk (show x.1.toNat < 12 ∧ 1 ≤ x.1.toNat by omega)
  clear hgo
  go_enter Tryd.func44, Tryd.ntmps44
  go_upto_region 1 with (fail)
  have HB := Aside0.mk ((Below.refl w.heap.size w).alloc (Nat.le_refl _) (.cells #[.int .u8 x.1, .string x.2.1, .string x.2.2.1, .string x.2.2.2.1, .int .i64 x.2.2.2.2.1, .int .i64 x.2.2.2.2.2] 68 (0, 0)))
  have HX := Aside0.mk (show BoxI (w.alloc (.cells #[.int .u8 x.1, .string x.2.1, .string x.2.2.1, .string x.2.2.2.1, .int .i64 x.2.2.2.2.1, .int .i64 x.2.2.2.2.2] 68 (0, 0))) w.heap.size x from heap_new _ _)
  generalize w.alloc _ = wa at HB HX ⊢
  generalize hgb : w.heap.size = b at HX ⊢
  have hwb : w.heap.size ≤ b := Nat.le_of_eq hgb
  clear hgb
  obtain ⟨b0, b1, b2, b3, b4, b5⟩ := HX.out.cu
  go_upto_region 3 with (fail)
  clear b0 b1 b2 b3 b4 b5
  go_cut [5, 6] (fun v5 v6 wc => ∃ bt bn, v5 = .pointer (some ⟨bt, 0, none⟩) ∧ v6 = .pointer (some ⟨bn, 0, none⟩) ∧ Aside0 (wc.heap[bt]? = some (.cells #[.string x.2.1, .string x.2.2.1, .string x.2.2.2.1] 73 (0, 0))) ∧ Aside0 (wc.heap[bn]? = some (.cells #[.int .i64 x.2.2.2.2.1, .int .i64 x.2.2.2.2.2] 98 (0, 0))) ∧ Aside0 (Below wa.heap.size wa wc))
  case first =>
    refine start_ (n := 16) (S := fun w' => Below wa.heap.size wa w') (ds := []) #[false, false, false, false, false, false, false, false, false, false, false, false, false, false, false, false] (by kernel_rfl) rfl rfl (below_drew1 (Below.refl _ _)) (fun hHeld => ?_)
    refine with_tabW one_tab3 one_bits3 (fun HT_ HW_ => ?_)
    generalize wa.drew = W0 at hHeld ⊢
    refine pure_ (i := 0) (N := some 18) (v := ?_) (a' := ?_) #[true, false, false, false, false, false, false, false, false, false, false, false, false, false, false, false] rfl rfl (any_of HT_.out (by kernel_rfl)) (fun _ _ _ h => h) (Or.inl ⟨by rfl, ?_⟩) ?_ ?_
    rotate_left
    · intro w'
      go_simp
      with_reducible rfl
    rotate_left
    · simp only [Act.put, List.setIfInBounds_toArray, List.set_cons_zero, List.set_cons_succ, i64_w, i32_w]
      rfl
    refine take_ (i := 1) (N := some 19) (v := ?_) (a' := ?_) #[true, true, false, false, false, false, false, false, false, false, false, false, false, false, false, false] rfl rfl (take_ofW HT_.out HW_.out (by kernel_rfl)) (fun _ _ _ h => h) (Or.inl ⟨by rfl, ?_⟩) hHeld ?_ ?_
    rotate_left
    · intro w' hSt
      obtain ⟨b0, b1, b2, b3, b4, b5⟩ := (HX.out.below hSt).cu
      go_simp
      with_reducible rfl
    rotate_left
    · simp only [Act.put, List.setIfInBounds_toArray, List.set_cons_zero, List.set_cons_succ, i64_w, i32_w]
      rfl
    refine pure_ (i := 2) (N := some 20) (v := ?_) (a' := ?_) #[true, true, true, false, false, false, false, false, false, false, false, false, false, false, false, false] rfl rfl (any_of HT_.out (by kernel_rfl)) (fun _ _ _ h => h) (Or.inl ⟨by rfl, ?_⟩) ?_ ?_
    rotate_left
    · intro w'
      go_simp
      with_reducible rfl
    rotate_left
    · simp only [Act.put, List.setIfInBounds_toArray, List.set_cons_zero, List.set_cons_succ, i64_w, i32_w]
      rfl
    refine take_ (i := 3) (N := some 21) (v := ?_) (a' := ?_) #[true, true, true, true, false, false, false, false, false, false, false, false, false, false, false, false] rfl rfl (take_ofW HT_.out HW_.out (by kernel_rfl)) (fun _ _ _ h => h) (Or.inl ⟨by rfl, ?_⟩) hHeld ?_ ?_
    rotate_left
    · intro w' hSt
      obtain ⟨b0, b1, b2, b3, b4, b5⟩ := (HX.out.below hSt).cu
      go_simp
      with_reducible rfl
    rotate_left
    · simp only [Act.put, List.setIfInBounds_toArray, List.set_cons_zero, List.set_cons_succ, i64_w, i32_w]
      rfl
    refine pure_ (i := 4) (N := some 22) (v := ?_) (a' := ?_) #[true, true, true, true, true, false, false, false, false, false, false, false, false, false, false, false] rfl rfl (any_of HT_.out (by kernel_rfl)) (fun _ _ _ h => h) (Or.inl ⟨by rfl, ?_⟩) ?_ ?_
    rotate_left
    · intro w'
      go_simp
      with_reducible rfl
    rotate_left
    · simp only [Act.put, List.setIfInBounds_toArray, List.set_cons_zero, List.set_cons_succ, i64_w, i32_w]
      rfl
    refine take_ (i := 5) (N := some 23) (v := ?_) (a' := ?_) #[true, true, true, true, true, true, false, false, false, false, false, false, false, false, false, false] rfl rfl (take_ofW HT_.out HW_.out (by kernel_rfl)) (fun _ _ _ h => h) (Or.inl ⟨by rfl, ?_⟩) hHeld ?_ ?_
    rotate_left
    · intro w' hSt
      obtain ⟨b0, b1, b2, b3, b4, b5⟩ := (HX.out.below hSt).cu
      go_simp
      with_reducible rfl
    rotate_left
    · simp only [Act.put, List.setIfInBounds_toArray, List.set_cons_zero, List.set_cons_succ, i64_w, i32_w]
      rfl
    refine pure_ (i := 6) (N := some 24) (v := ?_) (a' := ?_) #[true, true, true, true, true, true, true, false, false, false, false, false, false, false, false, false] rfl rfl (any_of HT_.out (by kernel_rfl)) (fun _ _ _ h => h) (Or.inl ⟨by rfl, ?_⟩) ?_ ?_
    rotate_left
    · intro w'
      go_simp
      with_reducible rfl
    rotate_left
    · simp only [Act.put, List.setIfInBounds_toArray, List.set_cons_zero, List.set_cons_succ, i64_w, i32_w]
      rfl
    refine pure_ (i := 7) (N := some 25) (v := ?_) (a' := ?_) #[true, true, true, true, true, true, true, true, false, false, false, false, false, false, false, false] rfl rfl (any_of HT_.out (by kernel_rfl)) (fun _ _ _ h => h) (Or.inl ⟨by rfl, ?_⟩) ?_ ?_
    rotate_left
    · intro w'
      go_simp
      with_reducible rfl
    rotate_left
    · simp only [Act.put, List.setIfInBounds_toArray, List.set_cons_zero, List.set_cons_succ, i64_w, i32_w]
      rfl
    refine take_ (i := 8) (N := some 26) (v := ?_) (a' := ?_) #[true, true, true, true, true, true, true, true, true, false, false, false, false, false, false, false] rfl rfl (take_ofW HT_.out HW_.out (by kernel_rfl)) (fun _ _ _ h => h) (Or.inl ⟨by rfl, ?_⟩) hHeld ?_ ?_
    rotate_left
    · intro w' hSt
      obtain ⟨b0, b1, b2, b3, b4, b5⟩ := (HX.out.below hSt).cu
      go_simp
      with_reducible rfl
    rotate_left
    · simp only [Act.put, List.setIfInBounds_toArray, List.set_cons_zero, List.set_cons_succ, i64_w, i32_w]
      rfl
    refine pure_ (i := 9) (N := some 27) (v := ?_) (a' := ?_) #[true, true, true, true, true, true, true, true, true, true, false, false, false, false, false, false] rfl rfl (any_of HT_.out (by kernel_rfl)) (fun _ _ _ h => h) (Or.inl ⟨by rfl, ?_⟩) ?_ ?_
    rotate_left
    · intro w'
      go_simp
      with_reducible rfl
    rotate_left
    · simp only [Act.put, List.setIfInBounds_toArray, List.set_cons_zero, List.set_cons_succ, i64_w, i32_w]
      rfl
    refine take_ (i := 10) (N := some 28) (v := ?_) (a' := ?_) #[true, true, true, true, true, true, true, true, true, true, true, false, false, false, false, false] rfl rfl (take_ofW HT_.out HW_.out (by kernel_rfl)) (fun _ _ _ h => h) (Or.inl ⟨by rfl, ?_⟩) hHeld ?_ ?_
    rotate_left
    · intro w' hSt
      obtain ⟨b0, b1, b2, b3, b4, b5⟩ := (HX.out.below hSt).cu
      go_simp
      with_reducible rfl
    rotate_left
    · simp only [Act.put, List.setIfInBounds_toArray, List.set_cons_zero, List.set_cons_succ, i64_w, i32_w]
      rfl
    refine pure_ (i := 11) (N := some 29) (v := ?_) (a' := ?_) #[true, true, true, true, true, true, true, true, true, true, true, true, false, false, false, false] rfl rfl (any_of HT_.out (by kernel_rfl)) (fun _ _ _ h => h) (Or.inl ⟨by rfl, ?_⟩) ?_ ?_
    rotate_left
    · intro w'
      go_simp
      with_reducible rfl
    rotate_left
    · simp only [Act.put, List.setIfInBounds_toArray, List.set_cons_zero, List.set_cons_succ, i64_w, i32_w]
      rfl
    have hHeld0 := hHeld
    refine two_ (i := 12) (j := 13) (Ni := some 5) (Nj := some 6) #[true, true, true, true, true, true, true, true, true, true, true, true, true, false, false, false] #[true, true, true, true, true, true, true, true, true, true, true, true, false, true, false, false] rfl rfl rfl rfl (two_of HT_.out (by kernel_rfl)) (by decide) (by decide) (fun K hK => ?_) (fun K hK => ?_)
    · skip
      refine value_ (w1 := ?_) (v := ?_) (by rfl) rfl ?_ ?_
      rotate_left 2
      · go_simp
        constructor
        · rfl
        · rfl
      refine hK.out _ _ (hHeld.alloc hHeld.size _) (fun hHeld => ?_)
      clear hK K
      refine norm_ (a' := ?_) ?_ ?_
      rotate_left
      · show Act.put _ (some 5) _ = _
        simp only [Act.put, List.setIfInBounds_toArray, List.set_cons_zero, List.set_cons_succ, i64_w, i32_w]
        rfl
      have h12 := heap_new W0 (.cells #[.string ⟨#[]⟩, .string ⟨#[]⟩, .string ⟨#[]⟩] 73 (0, 0))
      have hge12 := hHeld0.size
      replace hHeld0 := hHeld0.alloc hHeld0.size (.cells #[.string ⟨#[]⟩, .string ⟨#[]⟩, .string ⟨#[]⟩] 73 (0, 0))
      generalize hgen : W0.alloc (.cells #[.string ⟨#[]⟩, .string ⟨#[]⟩, .string ⟨#[]⟩] 73 (0, 0)) = W1 at h12 hHeld hHeld0 ⊢
      clear hgen
      generalize W0.heap.size = b12 at h12 hge12 ⊢
      refine one_ (i := 13) (N := (some 6)) #[true, true, true, true, true, true, true, true, true, true, true, true, true, true, false, false] rfl rfl (one_of HT_.out (by kernel_rfl)) (by decide) (fun K hK => ?_)
      refine value_ (w1 := ?_) (v := ?_) (by rfl) rfl ?_ ?_
      rotate_left 2
      · go_simp
        constructor
        · rfl
        · rfl
      refine hK.out _ _ (hHeld.alloc hHeld.size _) (fun hHeld => ?_)
      clear hK K
      refine norm_ (a' := ?_) ?_ ?_
      rotate_left
      · show Act.put _ (some 6) _ = _
        simp only [Act.put, List.setIfInBounds_toArray, List.set_cons_zero, List.set_cons_succ, i64_w, i32_w]
        rfl
      have h13 := heap_new W1 (.cells #[.int .i64 0, .int .i64 0] 98 (0, 0))
      have hge13 := hHeld0.size
      replace hHeld0 := hHeld0.alloc hHeld0.size (.cells #[.int .i64 0, .int .i64 0] 98 (0, 0))
      have hne : b12 ≠ W1.heap.size := Nat.ne_of_lt (Array.getElem?_eq_some_iff.1 h12).1
      replace h12 := heap_keep h12 ((Below.refl W1.heap.size W1).alloc (Nat.le_refl _) (.cells #[.int .i64 0, .int .i64 0] 98 (0, 0)))
      generalize hgen : W1.alloc (.cells #[.int .i64 0, .int .i64 0] 98 (0, 0)) = W2 at h13 hHeld hHeld0 h12 ⊢
      clear hgen
      generalize W1.heap.size = b13 at h13 hge13 hne ⊢
      refine one_ (i := 14) (N := none) #[true, true, true, true, true, true, true, true, true, true, true, true, true, true, true, false] rfl rfl (one_of HT_.out (by kernel_rfl)) (by decide) (fun K hK => ?_)
      have y0 := (cell_of h12 (j := 0)).2 rfl
      have z0 : W2.frozen? ⟨b12, 0, none⟩ = false := by simp [World.frozen?, h12]
      have y1 := (cell_of h12 (j := 1)).2 rfl
      have z1 : W2.frozen? ⟨b12, 1, none⟩ = false := by simp [World.frozen?, h12]
      have y2 := (cell_of h12 (j := 2)).2 rfl
      have z2 : W2.frozen? ⟨b12, 2, none⟩ = false := by simp [World.frozen?, h12]
      refine skip_ (w1 := ?_) (by rfl) rfl ?_ ?_
      rotate_left
      · go_simp
        rfl
      clear y0 z0 y1 z1 y2 z2
      refine hK.out _ _ (((hHeld.setCell (p := ⟨b12, 0, none⟩) hge12 (.string x.2.1)).setCell (p := ⟨b12, 1, none⟩) hge12 (.string x.2.2.1)).setCell (p := ⟨b12, 2, none⟩) hge12 (.string x.2.2.2.1)) (fun hHeld => ?_)
      clear hK K
      replace hHeld0 := (((hHeld0.setCell (p := ⟨b12, 0, none⟩) hge12 (.string x.2.1)).setCell (p := ⟨b12, 1, none⟩) hge12 (.string x.2.2.1)).setCell (p := ⟨b12, 2, none⟩) hge12 (.string x.2.2.2.1))
      replace h12 := (blk_set (blk_set (blk_set h12 0 (.string x.2.1)) 1 (.string x.2.2.1)) 2 (.string x.2.2.2.1))
      replace h13 := (blk_far (blk_far (blk_far h13 (p := ⟨b12, 0, none⟩) (fun e => hne e.symm) (.string x.2.1)) (p := ⟨b12, 1, none⟩) (fun e => hne e.symm) (.string x.2.2.1)) (p := ⟨b12, 2, none⟩) (fun e => hne e.symm) (.string x.2.2.2.1))
      generalize hgen : ((W2.setCell ⟨b12, 0, none⟩ (.string x.2.1)).setCell ⟨b12, 1, none⟩ (.string x.2.2.1)).setCell ⟨b12, 2, none⟩ (.string x.2.2.2.1) = W2s at h12 h13 hHeld hHeld0 ⊢
      clear hgen
      refine one_ (i := 15) (N := none) #[true, true, true, true, true, true, true, true, true, true, true, true, true, true, true, true] rfl rfl (one_of HT_.out (by kernel_rfl)) (by decide) (fun K hK => ?_)
      have y0 := (cell_of h13 (j := 0)).2 rfl
      have z0 : W2s.frozen? ⟨b13, 0, none⟩ = false := by simp [World.frozen?, h13]
      have y1 := (cell_of h13 (j := 1)).2 rfl
      have z1 : W2s.frozen? ⟨b13, 1, none⟩ = false := by simp [World.frozen?, h13]
      refine skip_ (w1 := ?_) (by rfl) rfl ?_ ?_
      rotate_left
      · go_simp
        rfl
      clear y0 z0 y1 z1
      refine hK.out _ _ ((hHeld.setCell (p := ⟨b13, 0, none⟩) hge13 (.int .i64 x.2.2.2.2.1)).setCell (p := ⟨b13, 1, none⟩) hge13 (.int .i64 x.2.2.2.2.2)) (fun hHeld => ?_)
      clear hK K
      replace hHeld0 := ((hHeld0.setCell (p := ⟨b13, 0, none⟩) hge13 (.int .i64 x.2.2.2.2.1)).setCell (p := ⟨b13, 1, none⟩) hge13 (.int .i64 x.2.2.2.2.2))
      replace h13 := (blk_set (blk_set h13 0 (.int .i64 x.2.2.2.2.1)) 1 (.int .i64 x.2.2.2.2.2))
      replace h12 := (blk_far (blk_far h12 (p := ⟨b13, 0, none⟩) (fun e => hne e) (.int .i64 x.2.2.2.2.1)) (p := ⟨b13, 1, none⟩) (fun e => hne e) (.int .i64 x.2.2.2.2.2))
      generalize hgen : (W2s.setCell ⟨b13, 0, none⟩ (.int .i64 x.2.2.2.2.1)).setCell ⟨b13, 1, none⟩ (.int .i64 x.2.2.2.2.2) = W2ss at h12 h13 hHeld hHeld0 ⊢
      clear hgen
      refine done_ (done_of HT_.out (by kernel_rfl)) ?_
      go_wp2
      go_meet
      case rel => exact ⟨b12, b13, rfl, rfl, ⟨h12⟩, ⟨h13⟩, ⟨hHeld0⟩⟩
    · skip
      refine value_ (w1 := ?_) (v := ?_) (by rfl) rfl ?_ ?_
      rotate_left 2
      · go_simp
        constructor
        · rfl
        · rfl
      refine hK.out _ _ (hHeld.alloc hHeld.size _) (fun hHeld => ?_)
      clear hK K
      refine norm_ (a' := ?_) ?_ ?_
      rotate_left
      · show Act.put _ (some 6) _ = _
        simp only [Act.put, List.setIfInBounds_toArray, List.set_cons_zero, List.set_cons_succ, i64_w, i32_w]
        rfl
      have h13 := heap_new W0 (.cells #[.int .i64 0, .int .i64 0] 98 (0, 0))
      have hge13 := hHeld0.size
      replace hHeld0 := hHeld0.alloc hHeld0.size (.cells #[.int .i64 0, .int .i64 0] 98 (0, 0))
      generalize hgen : W0.alloc (.cells #[.int .i64 0, .int .i64 0] 98 (0, 0)) = W1 at h13 hHeld hHeld0 ⊢
      clear hgen
      generalize W0.heap.size = b13 at h13 hge13 ⊢
      refine one_ (i := 12) (N := (some 5)) #[true, true, true, true, true, true, true, true, true, true, true, true, true, true, false, false] rfl rfl (one_of HT_.out (by kernel_rfl)) (by decide) (fun K hK => ?_)
      refine value_ (w1 := ?_) (v := ?_) (by rfl) rfl ?_ ?_
      rotate_left 2
      · go_simp
        constructor
        · rfl
        · rfl
      refine hK.out _ _ (hHeld.alloc hHeld.size _) (fun hHeld => ?_)
      clear hK K
      refine norm_ (a' := ?_) ?_ ?_
      rotate_left
      · show Act.put _ (some 5) _ = _
        simp only [Act.put, List.setIfInBounds_toArray, List.set_cons_zero, List.set_cons_succ, i64_w, i32_w]
        rfl
      have h12 := heap_new W1 (.cells #[.string ⟨#[]⟩, .string ⟨#[]⟩, .string ⟨#[]⟩] 73 (0, 0))
      have hge12 := hHeld0.size
      replace hHeld0 := hHeld0.alloc hHeld0.size (.cells #[.string ⟨#[]⟩, .string ⟨#[]⟩, .string ⟨#[]⟩] 73 (0, 0))
      have hne : b13 ≠ W1.heap.size := Nat.ne_of_lt (Array.getElem?_eq_some_iff.1 h13).1
      replace h13 := heap_keep h13 ((Below.refl W1.heap.size W1).alloc (Nat.le_refl _) (.cells #[.string ⟨#[]⟩, .string ⟨#[]⟩, .string ⟨#[]⟩] 73 (0, 0)))
      generalize hgen : W1.alloc (.cells #[.string ⟨#[]⟩, .string ⟨#[]⟩, .string ⟨#[]⟩] 73 (0, 0)) = W2 at h12 hHeld hHeld0 h13 ⊢
      clear hgen
      generalize W1.heap.size = b12 at h12 hge12 hne ⊢
      refine one_ (i := 14) (N := none) #[true, true, true, true, true, true, true, true, true, true, true, true, true, true, true, false] rfl rfl (one_of HT_.out (by kernel_rfl)) (by decide) (fun K hK => ?_)
      have y0 := (cell_of h12 (j := 0)).2 rfl
      have z0 : W2.frozen? ⟨b12, 0, none⟩ = false := by simp [World.frozen?, h12]
      have y1 := (cell_of h12 (j := 1)).2 rfl
      have z1 : W2.frozen? ⟨b12, 1, none⟩ = false := by simp [World.frozen?, h12]
      have y2 := (cell_of h12 (j := 2)).2 rfl
      have z2 : W2.frozen? ⟨b12, 2, none⟩ = false := by simp [World.frozen?, h12]
      refine skip_ (w1 := ?_) (by rfl) rfl ?_ ?_
      rotate_left
      · go_simp
        rfl
      clear y0 z0 y1 z1 y2 z2
      refine hK.out _ _ (((hHeld.setCell (p := ⟨b12, 0, none⟩) hge12 (.string x.2.1)).setCell (p := ⟨b12, 1, none⟩) hge12 (.string x.2.2.1)).setCell (p := ⟨b12, 2, none⟩) hge12 (.string x.2.2.2.1)) (fun hHeld => ?_)
      clear hK K
      replace hHeld0 := (((hHeld0.setCell (p := ⟨b12, 0, none⟩) hge12 (.string x.2.1)).setCell (p := ⟨b12, 1, none⟩) hge12 (.string x.2.2.1)).setCell (p := ⟨b12, 2, none⟩) hge12 (.string x.2.2.2.1))
      replace h12 := (blk_set (blk_set (blk_set h12 0 (.string x.2.1)) 1 (.string x.2.2.1)) 2 (.string x.2.2.2.1))
      replace h13 := (blk_far (blk_far (blk_far h13 (p := ⟨b12, 0, none⟩) (fun e => hne e) (.string x.2.1)) (p := ⟨b12, 1, none⟩) (fun e => hne e) (.string x.2.2.1)) (p := ⟨b12, 2, none⟩) (fun e => hne e) (.string x.2.2.2.1))
      generalize hgen : ((W2.setCell ⟨b12, 0, none⟩ (.string x.2.1)).setCell ⟨b12, 1, none⟩ (.string x.2.2.1)).setCell ⟨b12, 2, none⟩ (.string x.2.2.2.1) = W2s at h12 h13 hHeld hHeld0 ⊢
      clear hgen
      refine one_ (i := 15) (N := none) #[true, true, true, true, true, true, true, true, true, true, true, true, true, true, true, true] rfl rfl (one_of HT_.out (by kernel_rfl)) (by decide) (fun K hK => ?_)
      have y0 := (cell_of h13 (j := 0)).2 rfl
      have z0 : W2s.frozen? ⟨b13, 0, none⟩ = false := by simp [World.frozen?, h13]
      have y1 := (cell_of h13 (j := 1)).2 rfl
      have z1 : W2s.frozen? ⟨b13, 1, none⟩ = false := by simp [World.frozen?, h13]
      refine skip_ (w1 := ?_) (by rfl) rfl ?_ ?_
      rotate_left
      · go_simp
        rfl
      clear y0 z0 y1 z1
      refine hK.out _ _ ((hHeld.setCell (p := ⟨b13, 0, none⟩) hge13 (.int .i64 x.2.2.2.2.1)).setCell (p := ⟨b13, 1, none⟩) hge13 (.int .i64 x.2.2.2.2.2)) (fun hHeld => ?_)
      clear hK K
      replace hHeld0 := ((hHeld0.setCell (p := ⟨b13, 0, none⟩) hge13 (.int .i64 x.2.2.2.2.1)).setCell (p := ⟨b13, 1, none⟩) hge13 (.int .i64 x.2.2.2.2.2))
      replace h13 := (blk_set (blk_set h13 0 (.int .i64 x.2.2.2.2.1)) 1 (.int .i64 x.2.2.2.2.2))
      replace h12 := (blk_far (blk_far h12 (p := ⟨b13, 0, none⟩) (fun e => hne e.symm) (.int .i64 x.2.2.2.2.1)) (p := ⟨b13, 1, none⟩) (fun e => hne e.symm) (.int .i64 x.2.2.2.2.2))
      generalize hgen : (W2s.setCell ⟨b13, 0, none⟩ (.int .i64 x.2.2.2.2.1)).setCell ⟨b13, 1, none⟩ (.int .i64 x.2.2.2.2.2) = W2ss at h12 h13 hHeld hHeld0 ⊢
      clear hgen
      refine done_ (done_of HT_.out (by kernel_rfl)) ?_
      go_wp2
      go_meet
      case rel => exact ⟨b12, b13, rfl, rfl, ⟨h12⟩, ⟨h13⟩, ⟨hHeld0⟩⟩
  case rest =>
    obtain ⟨bt, bn, rfl, rfl, HT, HN, HBC⟩ := hcut
    have htab := (HTAB.out.below (below_step HB.out HBC.out)).2 x.1.toNat HOP.out.1
    have b0 := (HX.out.below HBC.out).cu.1
    have hrange : 0 ≤ x.1 ∧ x.1 < 12 := by omega
    have hwa := HB.out.size
    replace HB := Aside0.mk (below_step HB.out HBC.out)
    have HBW := HB
    clear HX HTAB HBC h1 h2
    go_upto_block 0 with (fail)
    clear htab b0 hrange
    have HIT := Aside0.mk (World.iter_heap wc (fieldB x.1.toNat) 0)
    have hbt := (Array.getElem?_eq_some_iff.1 HT.out).1
    have hbn := (Array.getElem?_eq_some_iff.1 HN.out).1
    have HAL := (Below.refl wc.heap.size wc).alloc (Nat.le_refl _) (.stringIter (fieldB x.1.toNat) 0)
    replace HB := Aside0.mk (below_step HB.out HAL)
    replace HT := Aside0.mk (heap_keep HT.out HAL)
    replace HN := Aside0.mk (heap_keep HN.out HAL)
    clear HAL
    have hbi : wc.heap.size ≤ wc.heap.size := Nat.le_refl _
    change Code.wp _ _ _ _ (wc.iter (fieldB x.1.toNat) 0)
    have hwbi : w.heap.size ≤ wc.heap.size := by have := (Array.getElem?_eq_some_iff.1 HIT.out).1; have h := HBW.out.size; omega
    rw [show wc.alloc (.stringIter (fieldB x.1.toNat) 0) = wc.iter (fieldB x.1.toNat) 0 from rfl] at HB HT HN
    generalize wc.iter (fieldB x.1.toNat) 0 = wd at HB HT HN HIT ⊢
    generalize wc.heap.size = bi at HIT hbt hbn hwbi ⊢
    clear hbi
    go_wp2
    go_loopw [] (fun wr => ∃ k : Nat, k ≤ 5 ∧ Aside0 (wr.heap[bi]? = some (.stringIter (fieldB x.1.toNat) k)) ∧ Aside0 (Below w.heap.size w wr) ∧ Aside0 (wr.heap[bt]? = some (.cells #[.string x.2.1, .string x.2.2.1, .string x.2.2.2.1] 73 (0, 0))) ∧ Aside0 (wr.heap[bn]? = some (.cells #[.int .i64 x.2.2.2.2.1, .int .i64 x.2.2.2.2.2] 98 (0, 0))) ∧ Aside0 (okFrom x many (5 - k) k = R)) (fun wr => 5 - wr.iterPos bi)
    case atStart => exact ⟨0, by omega, HIT, HB, HT, HN, HOK⟩
    case round =>
      clear HIT HB HT HN HOK
      obtain ⟨k, hk, HIT, HB, HT, HN, HOK⟩ := hrel
      by_cases hk5 : k < 5
      · have hsz5 : (fieldB x.1.toNat).size = 5 := fsize _ HOP.out.1 HOP.out.2
        have hd := fdec x.1.toNat k HOP.out.1 HOP.out.2 hk5
        have hnx : ∀ ty, (Instr.next (.pointer (some ⟨bi, 0, none⟩)) true ty).run Tryd.prog wr = .ok (.tuple #[.bool true, .int .i64 k, .int .i32 (chr x.1.toNat k : Nat)]) (wr.iterAt bi (fieldB x.1.toNat) (k + 1)) := fun ty => by
          have h := Lib.run_next_any_at (P := Tryd.prog) wr bi (fieldB x.1.toNat) k ty HIT.out (by omega)
          rw [hd] at h
          exact h
        have HIT2 := Aside0.mk (Lib.iterAt_heap wr bi (fieldB x.1.toNat) k (k + 1) HIT.out)
        have HB2 := Aside0.mk (Lib.below_iterAt HB.out (k := bi) hwbi (fieldB x.1.toNat) (k + 1))
        have HT2 := Aside0.mk ((Lib.iterAt_other wr bi bt (fieldB x.1.toNat) (k + 1) (by omega)).trans HT.out)
        have HN2 := Aside0.mk ((Lib.iterAt_other wr bi bn (fieldB x.1.toNat) (k + 1) (by omega)).trans HN.out)
        have HPOS := Aside0.mk (show wr.iterPos bi = k by unfold World.iterPos; rw [HIT.out])
        have HOK2 := Aside0.mk (show (okAt x many k (chr x.1.toNat k) && okFrom x many (5 - (k + 1)) (k + 1)) = R by have h := HOK.out; rw [show 5 - k = (5 - (k + 1)) + 1 by omega] at h; exact h)
        have HCH := Aside0.mk (fchr x.1.toNat HOP.out.1 HOP.out.2 k hk5).2
        clear HIT HB HT HN HOK hd hsz5
        go_upto_block 2 with (fail)
        clear hnx
        generalize wr.iterAt bi (fieldB x.1.toNat) (k + 1) = wn at HIT2 HB2 HT2 HN2 ⊢
        generalize chr x.1.toNat k = c at HOK2 HCH ⊢
        go_cut [9] (fun v wc => v = .bool (okAt x many k c) ∧ Aside0 (Below wn.heap.size wn wc))
        case first =>
          by_cases hk3 : k < 3
          · have hx := (cell_of HT2.out (j := k)).2 (txt_at x k hk3)
            have hki : (k : Int) < 3 := by omega
            have hkd : decide (k < 3) = true := decide_eq_true hk3
            have hsk := HSZ.out k
            rcases HCH.out.1 hk3 with rfl | rfl | rfl | rfl
            · have HV := Aside0.mk (show okAt x many k 112 = isPath (txt x k) by unfold okAt; rw [if_pos rfl])
              go_wp2_with fail
              refine (isPath_calls (txt x k) _ hsk).mono ?_
              rintro e w7 ⟨rfl, hb⟩
              have HB7 := Aside0.mk hb
              clear hb hx
              go_wp2
              go_meet
              case rel => exact ⟨by rw [HV.out], HB7⟩
            · by_cases h40 : (txt x k).size ≤ 40
              · have e40 : decide (((txt x k).size : Int) ≤ 40) = true := decide_eq_true (by omega)
                have e40' : decide ((txt x k).size ≤ 40) = true := decide_eq_true h40
                have HV := Aside0.mk (show okAt x many k 119 = true by unfold okAt; simp [h40])
                clear h40
                go_wp2
                go_meet
                case rel => exact ⟨by rw [HV.out], ⟨Below.refl _ _⟩⟩
              · have e40 : decide (((txt x k).size : Int) ≤ 40) = false := decide_eq_false (by omega)
                have e40' : decide ((txt x k).size ≤ 40) = false := decide_eq_false h40
                have HV := Aside0.mk (show okAt x many k 119 = false by unfold okAt; simp; omega)
                clear h40
                go_wp2
                go_meet
                case rel => exact ⟨by rw [HV.out], ⟨Below.refl _ _⟩⟩
            · by_cases h40 : (txt x k).size ≤ 40
              · have e40 : decide (((txt x k).size : Int) ≤ 40) = true := decide_eq_true (by omega)
                have e40' : decide ((txt x k).size ≤ 40) = true := decide_eq_true h40
                have HV := Aside0.mk (show okAt x many k 87 = !(txt x k).toList.isEmpty by unfold okAt; simp [h40])
                clear h40
                go_wp2
                go_meet
                case rel => exact ⟨by rw [HV.out], ⟨Below.refl _ _⟩⟩
              · have e40 : decide (((txt x k).size : Int) ≤ 40) = false := decide_eq_false (by omega)
                have e40' : decide ((txt x k).size ≤ 40) = false := decide_eq_false h40
                have HV := Aside0.mk (show okAt x many k 87 = false by unfold okAt; simp; omega)
                clear h40
                go_wp2
                go_meet
                case rel => exact ⟨by rw [HV.out], ⟨Below.refl _ _⟩⟩
            · have HV := Aside0.mk (show okAt x many k 46 = (txt x k).toList.isEmpty by unfold okAt; simp [hk3])
              go_wp2
              go_meet
              case rel => exact ⟨by rw [HV.out], ⟨Below.refl _ _⟩⟩
          · have hk34 : k = 3 ∨ k = 4 := by omega
            rcases hk34 with rfl | rfl
            · have hx := (cell_of HN2.out (j := 0)).2 rfl
              rcases HCH.out.2 (by omega) with rfl | rfl | rfl
              · by_cases h0 : 0 ≤ x.2.2.2.2.1
                · have e0 : decide (x.2.2.2.2.1 ≥ 0) = true := decide_eq_true h0
                  have e0' : decide (0 ≤ x.2.2.2.2.1) = true := decide_eq_true h0
                  have HV := Aside0.mk (show okAt x many 3 110 = decide (x.2.2.2.2.1 ≤ 2000) by show (decide (0 ≤ x.2.2.2.2.1) && decide (x.2.2.2.2.1 ≤ 2000)) = _; rw [e0']; rfl)
                  clear h0
                  go_wp2
                  go_meet
                  case rel => exact ⟨by rw [HV.out], ⟨Below.refl _ _⟩⟩
                · have e0 : decide (x.2.2.2.2.1 ≥ 0) = false := decide_eq_false h0
                  have e0' : decide (0 ≤ x.2.2.2.2.1) = false := decide_eq_false h0
                  have HV := Aside0.mk (show okAt x many 3 110 = false by show (decide (0 ≤ x.2.2.2.2.1) && decide (x.2.2.2.2.1 ≤ 2000)) = _; rw [e0']; rfl)
                  clear h0
                  go_wp2
                  go_meet
                  case rel => exact ⟨by rw [HV.out], ⟨Below.refl _ _⟩⟩
              · by_cases h0 : 0 ≤ x.2.2.2.2.1
                · have e0 : decide (x.2.2.2.2.1 ≥ 0) = true := decide_eq_true h0
                  have e0' : decide (0 ≤ x.2.2.2.2.1) = true := decide_eq_true h0
                  have HV := Aside0.mk (show okAt x many 3 106 = decide (x.2.2.2.2.1 ≤ many) by show (decide (0 ≤ x.2.2.2.2.1) && decide (x.2.2.2.2.1 ≤ many)) = _; rw [e0']; rfl)
                  clear h0
                  go_wp2
                  go_meet
                  case rel => exact ⟨by rw [HV.out], ⟨Below.refl _ _⟩⟩
                · have e0 : decide (x.2.2.2.2.1 ≥ 0) = false := decide_eq_false h0
                  have e0' : decide (0 ≤ x.2.2.2.2.1) = false := decide_eq_false h0
                  have HV := Aside0.mk (show okAt x many 3 106 = false by show (decide (0 ≤ x.2.2.2.2.1) && decide (x.2.2.2.2.1 ≤ many)) = _; rw [e0']; rfl)
                  clear h0
                  go_wp2
                  go_meet
                  case rel => exact ⟨by rw [HV.out], ⟨Below.refl _ _⟩⟩
              · have HV := Aside0.mk (show okAt x many 3 46 = (x.2.2.2.2.1 == 0) from rfl)
                go_wp2
                go_meet
                case rel => exact ⟨by rw [HV.out], ⟨Below.refl _ _⟩⟩
            · have hx := (cell_of HN2.out (j := 1)).2 rfl
              rcases HCH.out.2 (by omega) with rfl | rfl | rfl
              · by_cases h0 : 0 ≤ x.2.2.2.2.2
                · have e0 : decide (x.2.2.2.2.2 ≥ 0) = true := decide_eq_true h0
                  have e0' : decide (0 ≤ x.2.2.2.2.2) = true := decide_eq_true h0
                  have HV := Aside0.mk (show okAt x many 4 110 = decide (x.2.2.2.2.2 ≤ 2000) by show (decide (0 ≤ x.2.2.2.2.2) && decide (x.2.2.2.2.2 ≤ 2000)) = _; rw [e0']; rfl)
                  clear h0
                  go_wp2
                  go_meet
                  case rel => exact ⟨by rw [HV.out], ⟨Below.refl _ _⟩⟩
                · have e0 : decide (x.2.2.2.2.2 ≥ 0) = false := decide_eq_false h0
                  have e0' : decide (0 ≤ x.2.2.2.2.2) = false := decide_eq_false h0
                  have HV := Aside0.mk (show okAt x many 4 110 = false by show (decide (0 ≤ x.2.2.2.2.2) && decide (x.2.2.2.2.2 ≤ 2000)) = _; rw [e0']; rfl)
                  clear h0
                  go_wp2
                  go_meet
                  case rel => exact ⟨by rw [HV.out], ⟨Below.refl _ _⟩⟩
              · by_cases h0 : 0 ≤ x.2.2.2.2.2
                · have e0 : decide (x.2.2.2.2.2 ≥ 0) = true := decide_eq_true h0
                  have e0' : decide (0 ≤ x.2.2.2.2.2) = true := decide_eq_true h0
                  have HV := Aside0.mk (show okAt x many 4 106 = decide (x.2.2.2.2.2 ≤ many) by show (decide (0 ≤ x.2.2.2.2.2) && decide (x.2.2.2.2.2 ≤ many)) = _; rw [e0']; rfl)
                  clear h0
                  go_wp2
                  go_meet
                  case rel => exact ⟨by rw [HV.out], ⟨Below.refl _ _⟩⟩
                · have e0 : decide (x.2.2.2.2.2 ≥ 0) = false := decide_eq_false h0
                  have e0' : decide (0 ≤ x.2.2.2.2.2) = false := decide_eq_false h0
                  have HV := Aside0.mk (show okAt x many 4 106 = false by show (decide (0 ≤ x.2.2.2.2.2) && decide (x.2.2.2.2.2 ≤ many)) = _; rw [e0']; rfl)
                  clear h0
                  go_wp2
                  go_meet
                  case rel => exact ⟨by rw [HV.out], ⟨Below.refl _ _⟩⟩
              · have HV := Aside0.mk (show okAt x many 4 46 = (x.2.2.2.2.2 == 0) from rfl)
                go_wp2
                go_meet
                case rel => exact ⟨by rw [HV.out], ⟨Below.refl _ _⟩⟩
        case rest =>
          obtain ⟨rfl, HBC⟩ := hcut
          replace HIT2 := Aside0.mk (heap_keep HIT2.out HBC.out)
          replace HB2 := Aside0.mk (below_step HB2.out HBC.out)
          replace HT2 := Aside0.mk (heap_keep HT2.out HBC.out)
          replace HN2 := Aside0.mk (heap_keep HN2.out HBC.out)
          have HPOS2 := Aside0.mk (show wc.iterPos bi = k + 1 by unfold World.iterPos; rw [HIT2.out])
          cases hok : okAt x many k c with
          | true =>
            have HOK3 := Aside0.mk (show okFrom x many (5 - (k + 1)) (k + 1) = R by have h := HOK2.out; rw [hok] at h; simpa using h)
            clear HOK2 hok
            go_wp2
            go_roundw
            case rel => exact ⟨k + 1, by omega, HIT2, HB2, HT2, HN2, HOK3⟩
            case measure => rw [HPOS.out, HPOS2.out]; omega
          | false =>
            have HRF := Aside0.mk (show R = false by have h := HOK2.out; rw [hok] at h; simpa using h.symm)
            clear HOK2 hok
            go_wp2
            go_ret
            exact ⟨by rw [HRF.out]; rfl, HB2.out⟩
      · obtain rfl : k = 5 := by omega
        have hsz5 : (fieldB x.1.toNat).size = 5 := fsize _ HOP.out.1 HOP.out.2
        have hnx : ∀ ty, (Instr.next (.pointer (some ⟨bi, 0, none⟩)) true ty).run Tryd.prog wr = _ := fun ty => Lib.run_next_end_at (P := Tryd.prog) wr bi (fieldB x.1.toNat) 5 ty HIT.out (by omega)
        have HR_ := Aside0.mk (show R = true from HOK.out.symm)
        clear HIT HOK hsz5
        go_wp2
        go_ret
        exact ⟨by rw [HR_.out]; rfl, HB.out⟩
end Go.Proofs.YtlojemnmdakfiaaDoor.Prog6
end
section
namespace Go.Proofs.YtlojemnmdakfiaaDoor.Prog6
open Go.RowKit Go.Proofs.YtlojemnmdakfiaaDoorW.PrintWords Go.Proofs.YtlojemnmdakfiaaDoorW.PrintLast Go.Proofs.YtlojemnmdakfiaaDoorW.PrintMore
set_option linter.unusedVariables false
set_option linter.unusedSimpArgs false
abbrev KP : Kd Ins := Kd.pair (Kd.int .u8) (Kd.pair Kd.string (Kd.pair Kd.string (Kd.pair Kd.string (Kd.pair (Kd.int .i64) (Kd.int .i64)))))
theorem KP_cells {w : World} {x : Ins} {cs : List Value} (h : KP.K w x cs) : cs = [.int .u8 x.1, .string x.2.1, .string x.2.2.1, .string x.2.2.2.1, .int .i64 x.2.2.2.2.1, .int .i64 x.2.2.2.2.2] := by
  obtain ⟨a0, r0, rfl, h0, a1, r1, rfl, h1, a2, r2, rfl, h2, a3, r3, rfl, h3, a4, a5, rfl, h4, h5⟩ := h
  have e0 : a0 = [.int .u8 x.1] := h0
  have e1 : a1 = [.string x.2.1] := h1
  have e2 : a2 = [.string x.2.2.1] := h2
  have e3 : a3 = [.string x.2.2.2.1] := h3
  have e4 : a4 = [.int .i64 x.2.2.2.2.1] := h4
  have e5 : a5 = [.int .i64 x.2.2.2.2.2] := h5
  subst e0 e1 e2 e3 e4 e5
  rfl
theorem KP_of (w : World) (x : Ins) : KP.K w x [.int .u8 x.1, .string x.2.1, .string x.2.2.1, .string x.2.2.2.1, .int .i64 x.2.2.2.2.1, .int .i64 x.2.2.2.2.2] :=
  ⟨[.int .u8 x.1], _, rfl, rfl, [.string x.2.1], _, rfl, rfl, [.string x.2.2.1], _, rfl, rfl, [.string x.2.2.2.1], _, rfl, rfl, [.int .i64 x.2.2.2.2.1], _, rfl, rfl, rfl⟩
theorem row_cp {w : World} {A : Option Addr} {n : Nat} {xs : List Ins} (h : KP.C w A n xs) (k : Nat) (hk : k < n) (x : Ins) (hx : xs[k]? = some x) :
    ∃ ad, A = some ad ∧ w.cell? (ad.add (k * 6)) = some (.int .u8 x.1) ∧ w.cell? ⟨(ad.add (k * 6)).block, (ad.add (k * 6)).off + 1, none⟩ = some (.string x.2.1) ∧ w.cell? ⟨(ad.add (k * 6)).block, (ad.add (k * 6)).off + 2, none⟩ = some (.string x.2.2.1) ∧
      w.cell? ⟨(ad.add (k * 6)).block, (ad.add (k * 6)).off + 3, none⟩ = some (.string x.2.2.2.1) ∧ w.cell? ⟨(ad.add (k * 6)).block, (ad.add (k * 6)).off + 4, none⟩ = some (.int .i64 x.2.2.2.2.1) ∧ w.cell? ⟨(ad.add (k * 6)).block, (ad.add (k * 6)).off + 5, none⟩ = some (.int .i64 x.2.2.2.2.2) := by
  obtain ⟨ad, c, e, _, hK, hc0⟩ := Kd.C_get h ((0, ⟨#[]⟩, ⟨#[]⟩, ⟨#[]⟩, 0, 0) : Ins) (k : Int) (by omega) (by omega)
  simp only [Int.toNat_natCast] at hK hc0
  rw [show xs.getD k ((0, ⟨#[]⟩, ⟨#[]⟩, ⟨#[]⟩, 0, 0) : Ins) = x by rw [List.getD_eq_getElem?_getD, hx]; rfl] at hK
  have hcs := KP_cells hK
  subst hcs
  have hsz : KP.sz = 6 := rfl
  rw [hsz] at hc0
  have a := fun j u hu => hc0 j u hu
  have f := fun j (hj : 0 < j) u (hu : ([.int .u8 x.1, .string x.2.1, .string x.2.2.1, .string x.2.2.2.1, .int .i64 x.2.2.2.2.1, .int .i64 x.2.2.2.2.2] : List Value)[j]? = some u) => (congrArg w.cell? (add_field ad (k * 6) j hj)).symm.trans (hc0 j u hu)
  exact ⟨ad, e, a 0 _ rfl, f 1 (by omega) _ rfl, f 2 (by omega) _ rfl, f 3 (by omega) _ rfl, f 4 (by omega) _ rfl, f 5 (by omega) _ rfl⟩
def szOk (x : Ins) : Prop := x.2.1.size ≤ 9223372036854775807 ∧ x.2.2.1.size ≤ 9223372036854775807 ∧ x.2.2.2.1.size ≤ 9223372036854775807
theorem szOk.txt {x : Ins} (h : szOk x) (k : Nat) : (txt x k).size ≤ 9223372036854775807 := by
  rcases k with _ | _ | _ | k
  · exact h.1
  · exact h.2.1
  · exact h.2.2
  · show (⟨#[]⟩ : ByteArray).size ≤ _
    simp [ByteArray.size]
theorem bad_calls (x : Ins) (bp : Nat) (A : Option Addr) (many c : Nat) (w : World) (hT : Tab w) (hx : szOk x) (hm : many ≤ 9223372036854775807) (hbp : w.heap[bp]? = some (.cells #[.slice A many c] 22 (0, 0))) :
    Calls Tryd.prog 43 #[.agg #[.int .u8 x.1, .string x.2.1, .string x.2.2.1, .string x.2.2.2.1, .int .i64 x.2.2.2.2.1, .int .i64 x.2.2.2.2.2], .pointer (some ⟨bp, 0, none⟩)] w fun e w' => e = .returned (.bool (!one x many)) ∧ Below w.heap.size w w' := by
  have HTAB := Aside0.mk hT
  have HBP := Aside0.mk hbp
  have HSZ := Aside0.mk hx
  clear hT hbp hx
  go_enter Tryd.func43, Tryd.ntmps43
  go_upto_region 1 with (fail)
  have HB := Aside0.mk ((Below.refl w.heap.size w).alloc (Nat.le_refl _) (.cells #[.int .u8 x.1, .string x.2.1, .string x.2.2.1, .string x.2.2.2.1, .int .i64 x.2.2.2.2.1, .int .i64 x.2.2.2.2.2] 68 (0, 0)))
  have HX := Aside0.mk (show BoxI (w.alloc (.cells #[.int .u8 x.1, .string x.2.1, .string x.2.2.1, .string x.2.2.2.1, .int .i64 x.2.2.2.2.1, .int .i64 x.2.2.2.2.2] 68 (0, 0))) w.heap.size x from heap_new _ _)
  replace HTAB := Aside0.mk (HTAB.out.below HB.out)
  replace HBP := Aside0.mk (heap_keep HBP.out HB.out)
  generalize w.alloc _ = wa at HB HX HTAB HBP ⊢
  generalize w.heap.size = b at HX ⊢
  obtain ⟨b0, b1, b2, b3, b4, b5⟩ := HX.out.cu
  have hs := (cell_of HBP.out (j := 0)).2 rfl
  go_wp2_with fail
  refine (one_calls x many _ HTAB.out (fun k => HSZ.out.txt k)).mono ?_
  rintro e w1 ⟨rfl, hb⟩
  have HB1 := Aside0.mk hb
  clear hb b0 b1 b2 b3 b4 b5 hs
  go_wp2
  go_ret
  exact ⟨rfl, below_step HB.out HB1.out⟩
def allOne (xs : List Ins) (many : Nat) : Bool := xs.all (fun x => one x many)
set_option maxHeartbeats 1600000 in
theorem idx_calls (A : Option Addr) (c : Nat) (xs : List Ins) (bp : Nat) (B : Option Addr) (many d : Nat) (w : World) (hr : KP.C w A xs.length xs) (hc : xs.length ≤ c) (hT : Tab w) (hx : ∀ x ∈ xs, szOk x) (hm : many ≤ 9223372036854775807) (hbp : w.heap[bp]? = some (.cells #[.slice B many d] 22 (0, 0))) :
    Calls Tryd.prog 61 #[.slice A xs.length c, .func (Fn.func 43) #[] #[.pointer (some ⟨bp, 0, none⟩)]] w fun e w' => ∃ z : Int, e = .returned (.int .i64 z) ∧ decide (0 ≤ z) = !allOne xs many ∧ Below w.heap.size w w' := by
  have HR := Aside0.mk hr
  have HTAB := Aside0.mk hT
  have HBP := Aside0.mk hbp
  have HSZ := Aside0.mk hx
  have hl63 : xs.length ≤ 9223372036854775807 := hr.2.1
  clear hr hT hbp hx
  go_enter Tryd.func61, Tryd.ntmps61
  go_wp2
  go_loopw [8] (fun i wr => ∃ k : Nat, k ≤ xs.length ∧ i = .int .i64 k ∧ Aside0 (Below w.heap.size w wr) ∧ Aside0 (allOne (xs.take k) many = true)) (fun i _ => xs.length - (intOf i).toNat)
  case atStart => exact ⟨0, Nat.zero_le _, rfl, ⟨Below.refl _ _⟩, ⟨rfl⟩⟩
  case round =>
    obtain ⟨k, hk, rfl, HB, HA⟩ := hrel
    by_cases hlt : k < xs.length
    · obtain ⟨ad, rfl, x0, x1, x2, x3, x4, x5⟩ := row_cp (Kd.C_below HR.out HB.out) k hlt xs[k] (List.getElem?_eq_getElem hlt)
      have HU := Aside0.mk (HSZ.out xs[k] (List.getElem_mem hlt))
      have HMEM := Aside0.mk (List.getElem_mem hlt)
      have HTK := Aside0.mk (List.take_succ_eq_append_getElem hlt)
      generalize xs[k] = x at x0 x1 x2 x3 x4 x5 HU HMEM HTK
      go_wp2_with fail
      refine (bad_calls x bp B many d _ (HTAB.out.below HB.out) HU.out hm (heap_keep HBP.out HB.out)).mono ?_
      rintro e w1 ⟨rfl, hb⟩
      have HB1 := Aside0.mk (below_step HB.out hb)
      clear hb x0 x1 x2 x3 x4 x5 HB
      cases ho : one x many with
      | true =>
        have HA1 := Aside0.mk (show allOne (xs.take (k + 1)) many = true by rw [HTK.out]; unfold allOne at HA ⊢; rw [List.all_append, HA.out]; simp [ho])
        clear ho
        go_wp2
        go_roundw
        case rel => exact ⟨k + 1, by omega, by go_num, HB1, HA1⟩
        case measure => simp [intOf]; omega
      | false =>
        have HF := Aside0.mk (show allOne xs many = false by unfold allOne; rw [List.all_eq_false]; exact ⟨x, HMEM.out, by simp [ho]⟩)
        clear ho
        go_wp2
        go_ret
        exact ⟨k, rfl, by rw [HF.out]; exact decide_eq_true (by omega), HB1.out⟩
    · obtain rfl : k = xs.length := by omega
      have HF := Aside0.mk (show allOne xs many = true by have h := HA.out; rwa [List.take_length] at h)
      clear hlt hk
      go_wp2
      go_ret
      exact ⟨-1, rfl, by rw [HF.out]; rfl, HB.out⟩
theorem contains_calls (A : Option Addr) (c : Nat) (xs : List Ins) (bp : Nat) (B : Option Addr) (many d : Nat) (w : World) (hr : KP.C w A xs.length xs) (hc : xs.length ≤ c) (hT : Tab w) (hx : ∀ x ∈ xs, szOk x) (hm : many ≤ 9223372036854775807) (hbp : w.heap[bp]? = some (.cells #[.slice B many d] 22 (0, 0))) :
    Calls Tryd.prog 42 #[.slice A xs.length c, .func (Fn.func 43) #[] #[.pointer (some ⟨bp, 0, none⟩)]] w fun e w' => e = .returned (.bool (!allOne xs many)) ∧ Below w.heap.size w w' := by
  have H := Aside0.mk (idx_calls A c xs bp B many d w hr hc hT hx hm hbp)
  clear hr hT hx hbp
  go_enter Tryd.func42, Tryd.ntmps42
  go_wp2_with fail
  refine H.out.mono ?_
  rintro e w1 ⟨z, rfl, hz, hb⟩
  have HZ := Aside0.mk hz
  clear hz
  go_wp2
  go_ret
  exact ⟨by rw [← HZ.out]; rfl, hb⟩
def mayP (xs : List Ins) : Bool := decide (xs.length ≤ 30) && allOne xs xs.length
theorem may_calls (A : Option Addr) (c : Nat) (xs : List Ins) (w : World) (hr : KP.C w A xs.length xs) (hc : xs.length ≤ c) (hT : Tab w) (hx : ∀ x ∈ xs, szOk x) :
    Calls Tryd.prog 26 #[.slice A xs.length c] w fun e w' => e = .returned (.bool (mayP xs)) ∧ Below w.heap.size w w' := by
  have HR := Aside0.mk hr
  have HTAB := Aside0.mk hT
  have HSZ := Aside0.mk hx
  have hl63 : xs.length ≤ 9223372036854775807 := hr.2.1
  clear hr hT hx
  by_cases h30 : xs.length ≤ 30
  · have e1 : decide ((xs.length : Int) ≤ 30) = true := decide_eq_true (by omega)
    have e1' : decide (xs.length ≤ 30) = true := decide_eq_true h30
    have HV := Aside0.mk (show mayP xs = allOne xs xs.length by unfold mayP; rw [e1']; rfl)
    clear h30
    go_enter Tryd.func26, Tryd.ntmps26
    go_wp2_with fail
    have hal := (Below.refl w.heap.size w).alloc (Nat.le_refl _) (.cells #[.slice A xs.length c] 22 (0, 0))
    refine (contains_calls A c xs w.heap.size A xs.length c _ (Kd.C_below HR.out hal) hc (HTAB.out.below hal) HSZ.out hl63 (heap_new _ _)).mono ?_
    rintro e w1 ⟨rfl, hb⟩
    have HB := Aside0.mk (below_step hal hb)
    clear hal hb
    go_wp2
    go_ret
    exact ⟨by rw [HV.out]; simp, HB.out⟩
  · have e1 : decide ((xs.length : Int) ≤ 30) = false := decide_eq_false (by omega)
    have e1' : decide (xs.length ≤ 30) = false := decide_eq_false h30
    have HV := Aside0.mk (show mayP xs = false by unfold mayP; rw [e1']; rfl)
    clear h30
    go_enter Tryd.func26, Tryd.ntmps26
    go_wp2
    go_ret
    exact ⟨by rw [HV.out]; rfl, (Below.refl _ _).alloc (Nat.le_refl _) _⟩
end Go.Proofs.YtlojemnmdakfiaaDoor.Prog6
end
section
namespace Go.Proofs.YtlojemnmdakfiaaDoor.Prog6
open Go.RowKit Go.Proofs.YtlojemnmdakfiaaDoorW.PrintWords Go.Proofs.YtlojemnmdakfiaaDoorW.PrintLast Go.Proofs.YtlojemnmdakfiaaDoorW.PrintMore
set_option linter.unusedVariables false
set_option linter.unusedSimpArgs false
theorem okFrom_iff (x : Ins) (m : Int) : ∀ f k, okFrom x m f k = true ↔ ∀ j, k ≤ j → j < k + f → okAt x m j (chr x.1.toNat j) = true
  | 0, k => ⟨fun _ j h1 h2 => by omega, fun _ => rfl⟩
  | f + 1, k => by
    unfold okFrom
    rw [Bool.and_eq_true, okFrom_iff x m f (k + 1)]
    constructor
    · rintro ⟨h1, h2⟩ j h3 h4
      by_cases e : j = k
      · subst e; exact h1
      · exact h2 j (by omega) (by omega)
    · intro h
      exact ⟨h k (by omega) (by omega), fun j h1 h2 => h j (by omega) (by omega)⟩
theorem one_iff (x : Ins) (m : Int) : one x m = true ↔ (1 ≤ x.1 ∧ x.1 ≤ 11) ∧ ∀ j, j < 5 → okAt x m j (chr x.1.toNat j) = true := by
  unfold one
  by_cases h : x.1 < 1 ∨ 11 < x.1
  · rw [if_pos h]
    constructor
    · intro h; cases h
    · rintro ⟨h1, _⟩; omega
  · rw [if_neg h, okFrom_iff]
    constructor
    · intro h2
      exact ⟨by omega, fun j hj => h2 j (by omega) (by omega)⟩
    · rintro ⟨_, h2⟩ j _ hj
      exact h2 j (by omega)
def insJ (n : Nat) : Ins := (8, ⟨#[]⟩, ⟨#[]⟩, ⟨#[]⟩, (n : Int), 0)
theorem emp : (⟨#[]⟩ : ByteArray).toList.isEmpty = true := by simp [ByteArray.toList, ByteArray.toList.loop, ByteArray.size]
theorem one_J (n : Nat) (m : Int) (h : (n : Int) ≤ m) : one (insJ n) m = true := by
  rw [one_iff]
  refine ⟨⟨by show (1 : Int) ≤ 8; omega, by show (8 : Int) ≤ 11; omega⟩, fun j hj => ?_⟩
  show okAt (insJ n) m j (chr 8 j) = true
  rcases j with _ | _ | _ | _ | _ | j
  · exact emp
  · exact emp
  · exact emp
  · show (decide (0 ≤ (n : Int)) && decide ((n : Int) ≤ m)) = true
    rw [decide_eq_true (by omega), decide_eq_true h]
    rfl
  · rfl
  · omega
theorem k1 : mayP [] = true := rfl
theorem k2 : mayP [((8, ⟨#[]⟩, ⟨#[]⟩, ⟨#[]⟩, 1, 0) : Ins)] = true := by
  unfold mayP allOne
  simp only [List.length_cons, List.length_nil, Nat.zero_add, List.all_cons, List.all_nil, Bool.and_true]
  rw [show one ((8, ⟨#[]⟩, ⟨#[]⟩, ⟨#[]⟩, 1, 0) : Ins) ((1 : Nat) : Int) = true from one_J 1 1 (by omega)]
  rfl
theorem one_bad {x : Ins} {m : Int} (j : Nat) (hj : j < 5) (h : okAt x m j (chr x.1.toNat j) = false) : one x m = false := by
  by_cases ho : one x m = true
  · have := ((one_iff x m).1 ho).2 j hj
    rw [h] at this
    cases this
  · simpa using ho
theorem may_bad {x : Ins} (h : one x ((1 : Nat) : Int) = false) : mayP [x] = false := by
  unfold mayP allOne
  simp only [List.length_cons, List.length_nil, Nat.zero_add, List.all_cons, List.all_nil, Bool.and_true]
  rw [h, Bool.and_false]
theorem k3 : mayP [((8, ⟨#[]⟩, ⟨#[]⟩, ⟨#[]⟩, 2, 0) : Ins)] = false := may_bad (one_bad 3 (by omega) (by rfl))
end Go.Proofs.YtlojemnmdakfiaaDoor.Prog6
end
section
namespace Go.Proofs.YtlojemnmdakfiaaDoor.Prog6
open Go.RowKit Go.Proofs.YtlojemnmdakfiaaDoorW.PrintWords Go.Proofs.YtlojemnmdakfiaaDoorW.PrintLast Go.Proofs.YtlojemnmdakfiaaDoorW.PrintMore
set_option linter.unusedVariables false
set_option linter.unusedSimpArgs false
open Go.Proofs.YtlojemnmdakfiaaDoor.Hand (formL rowL formL_len digs_len formL_pre rowL_pre)
abbrev RBy := Go.Proofs.YtlojemnmdakfiaaDoor.Hand.B
def insB (x : Ins) : List Int := formL x.1.toNat ++ (rowL (bytesOf x.2.1) ++ (rowL (bytesOf x.2.2.1) ++ (rowL (bytesOf x.2.2.2.1) ++ (formL x.2.2.2.2.1.toNat ++ formL x.2.2.2.2.2.toNat))))
def progB (p : List Ins) : List Int := formL p.length ++ (p.map insB).flatten
def okI (x : Ins) : Prop := (1 ≤ x.1 ∧ x.1 ≤ 11) ∧ x.2.1.size ≤ 40 ∧ x.2.2.1.size ≤ 40 ∧ x.2.2.2.1.size ≤ 40 ∧ (0 ≤ x.2.2.2.2.1 ∧ x.2.2.2.2.1 ≤ 2000) ∧ (0 ≤ x.2.2.2.2.2 ∧ x.2.2.2.2.2 ≤ 2000)
theorem isPath_sz {s : ByteArray} (h : isPath s = true) : s.size ≤ 40 := by
  unfold isPath at h
  split at h
  · rename_i h1; exact h1.2
  · cases h
theorem empty_sz {s : ByteArray} (h : s.toList.isEmpty = true) : s.size ≤ 40 := by
  rw [ByteArray.toList_eq] at h
  have : s.size = 0 := by
    obtain ⟨⟨l⟩⟩ := s
    simp at h
    subst h
    rfl
  omega
theorem okAt_sz {x : Ins} {m : Int} {k : Nat} (hk : k < 3) (hc : chr x.1.toNat k = 112 ∨ chr x.1.toNat k = 119 ∨ chr x.1.toNat k = 87 ∨ chr x.1.toNat k = 46) (h : okAt x m k (chr x.1.toNat k) = true) : (txt x k).size ≤ 40 := by
  unfold okAt at h
  rcases hc with hc | hc | hc | hc
  · rw [hc, if_pos rfl] at h; exact isPath_sz h
  · rw [hc, if_neg (by omega), if_pos rfl] at h; exact of_decide_eq_true h
  · rw [hc, if_neg (by omega), if_neg (by omega), if_pos rfl, Bool.and_eq_true] at h; exact of_decide_eq_true h.1
  · rw [hc, if_neg (by omega), if_neg (by omega), if_neg (by omega), if_neg (by omega), if_neg (by omega), if_pos hk] at h; exact empty_sz h
theorem okAt_num {x : Ins} {m : Int} {k : Nat} (hm : m ≤ 2000) (hk : 3 ≤ k) (hc : chr x.1.toNat k = 110 ∨ chr x.1.toNat k = 106 ∨ chr x.1.toNat k = 46) (h : okAt x m k (chr x.1.toNat k) = true) : 0 ≤ num x k ∧ num x k ≤ 2000 := by
  unfold okAt at h
  rcases hc with hc | hc | hc
  · rw [hc, if_neg (by omega), if_neg (by omega), if_neg (by omega), if_pos rfl, Bool.and_eq_true] at h; exact ⟨of_decide_eq_true h.1, of_decide_eq_true h.2⟩
  · rw [hc, if_neg (by omega), if_neg (by omega), if_neg (by omega), if_neg (by omega), if_pos rfl, Bool.and_eq_true] at h
    have := of_decide_eq_true h.2
    exact ⟨of_decide_eq_true h.1, by omega⟩
  · rw [hc, if_neg (by omega), if_neg (by omega), if_neg (by omega), if_neg (by omega), if_neg (by omega), if_neg (by omega), beq_iff_eq] at h; omega
theorem one_ok {x : Ins} {m : Int} (hm : m ≤ 2000) (h : one x m = true) : okI x := by
  obtain ⟨h1, h2⟩ := (one_iff x m).1 h
  have hc := fun k hk => fchr x.1.toNat (by omega) (by omega) k hk
  have hs := fun k (hk : k < 3) => okAt_sz hk ((hc k (by omega)).2.1 hk) (h2 k (by omega))
  have hn := fun k (hk : 3 ≤ k) (hk5 : k < 5) => okAt_num hm hk ((hc k hk5).2.2 hk) (h2 k hk5)
  exact ⟨h1, hs 0 (by omega), hs 1 (by omega), hs 2 (by omega), hn 3 (by omega) (by omega), hn 4 (by omega) (by omega)⟩
theorem may_ok {p : List Ins} (h : mayP p = true) : p.length ≤ 30 ∧ ∀ x ∈ p, okI x := by
  unfold mayP at h
  rw [Bool.and_eq_true, decide_eq_true_eq] at h
  refine ⟨h.1, fun x hx => one_ok (m := (p.length : Int)) (by omega) ?_⟩
  have h2 := h.2
  unfold allOne at h2
  exact List.all_eq_true.1 h2 x hx
theorem len_insB {x : Ins} (h : okI x) : (insB x).length ≤ 180 := by
  obtain ⟨h1, hA, hB, hC, hN, hM⟩ := h
  have e := fun s : ByteArray => bytesOf_length s
  have f := fun n h => Hand.formL_len n h
  have f1 := f x.1.toNat (by omega)
  have f2 := f x.2.2.2.2.1.toNat (by omega)
  have f3 := f x.2.2.2.2.2.toNat (by omega)
  have fA := f x.2.1.size (by omega)
  have fB := f x.2.2.1.size (by omega)
  have fC := f x.2.2.2.1.size (by omega)
  simp only [insB, rowL, List.length_append, e]
  omega
theorem len_flat {p : List Ins} (h : ∀ x ∈ p, okI x) : (p.map insB).flatten.length ≤ 180 * p.length := by
  induction p with
  | nil => simp
  | cons x p ih =>
    have h1 := len_insB (h x (by simp))
    have h2 := ih (fun y hy => h y (by simp [hy]))
    simp only [List.map_cons, List.flatten_cons, List.length_append, List.length_cons]
    omega
abbrev cI (x : Ins) : Array Value := #[.int .u8 x.1, .string x.2.1, .string x.2.2.1, .string x.2.2.2.1, .int .i64 x.2.2.2.2.1, .int .i64 x.2.2.2.2.2]
theorem str_inj {a b : ByteArray} (h : bytesOf a = bytesOf b) : a = b := by
  obtain ⟨⟨x⟩⟩ := a
  obtain ⟨⟨y⟩⟩ := b
  have e : x.map (fun u : UInt8 => (u.toNat : Int)) = y.map (fun u : UInt8 => (u.toNat : Int)) := h
  have hh : x = y := by
    refine List.map_inj_right (fun u v huv => ?_) |>.1 e
    have : u.toNat = v.toNat := Int.natCast_inj.1 huv
    exact UInt8.toNat_inj.1 this
  rw [hh]
theorem insB_pre {x y : Ins} {a b : List Int} (hx : okI x) (hy : okI y) (h : insB x ++ a = insB y ++ b) : x = y ∧ a = b := by
  obtain ⟨x0, x1, x2, x3, x4, x5⟩ := x
  obtain ⟨y0, y1, y2, y3, y4, y5⟩ := y
  obtain ⟨⟨p1, p2⟩, p3, p4, p5, ⟨p6, p7⟩, p8, p9⟩ := hx
  obtain ⟨⟨q1, q2⟩, q3, q4, q5, ⟨q6, q7⟩, q8, q9⟩ := hy
  simp only [] at p1 p2 p3 p4 p5 p6 p7 p8 p9 q1 q2 q3 q4 q5 q6 q7 q8 q9
  unfold insB at h
  simp only [List.append_assoc] at h
  obtain ⟨h0, h⟩ := formL_pre (by omega) (by omega) h
  obtain ⟨h1, h⟩ := rowL_pre (by rw [bytesOf_length]; omega) (by rw [bytesOf_length]; omega) h
  obtain ⟨h2, h⟩ := rowL_pre (by rw [bytesOf_length]; omega) (by rw [bytesOf_length]; omega) h
  obtain ⟨h3, h⟩ := rowL_pre (by rw [bytesOf_length]; omega) (by rw [bytesOf_length]; omega) h
  obtain ⟨h4, h⟩ := formL_pre (by omega) (by omega) h
  obtain ⟨h5, h⟩ := formL_pre (by omega) (by omega) h
  refine ⟨?_, h⟩
  rw [str_inj h1, str_inj h2, str_inj h3, show x0 = y0 by omega, show x4 = y4 by omega, show x5 = y5 by omega]
theorem flat_inj : ∀ (p q : List Ins), (∀ x ∈ p, okI x) → (∀ x ∈ q, okI x) → p.length = q.length → (p.map insB).flatten = (q.map insB).flatten → p = q
  | [], [], _, _, _, _ => rfl
  | [], _ :: _, _, _, h, _ => by simp at h
  | _ :: _, [], _, _, h, _ => by simp at h
  | x :: p, y :: q, hp, hq, hl, h => by
    simp only [List.map_cons, List.flatten_cons] at h
    obtain ⟨h1, h2⟩ := insB_pre (hp x (by simp)) (hq y (by simp)) h
    rw [h1, flat_inj p q (fun z hz => hp z (by simp [hz])) (fun z hz => hq z (by simp [hz])) (by simpa using hl) h2]
theorem progB_inj {p q : List Ins} (hp : mayP p = true) (hq : mayP q = true) : progB p = progB q ↔ p = q := by
  refine ⟨fun h => ?_, fun h => by rw [h]⟩
  obtain ⟨l1, o1⟩ := may_ok hp
  obtain ⟨l2, o2⟩ := may_ok hq
  unfold progB at h
  obtain ⟨h1, h2⟩ := formL_pre (by omega) (by omega) h
  exact flat_inj p q o1 o2 h1 h2
end Go.Proofs.YtlojemnmdakfiaaDoor.Prog6
end
