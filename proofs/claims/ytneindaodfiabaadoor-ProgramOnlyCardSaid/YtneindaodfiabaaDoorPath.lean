/- What calls of Go functions of this seat come to, as the rows need it: under the conditions that each theorem names. -/
import Derived.Test.YtneindaodfiabaaDoorWMore
import Derived.Test.YtneindaodfiabaaDoorProg
import Derived.Below
import Derived.Deep.Draws
import Derived.Deep.AppendLies
import Derived.Maps.AppendAt
import Derived.OwnWalk
import Derived.Laws.BytesArg
import Derived.Laws.MakeOwn
import Derived.Laws.OwnMore
import Derived.Deep.OwnRows
import Derived.Tactics
import Derived.Lib.ConvBytes
import Derived.Laws.Slices
import Derived.WalkKit
import Derived.KernelRfl
import Derived.RowKit3
import Derived.Deep.LoopGhost
import Derived.Deep.QuietTactic
import Derived.BigQuiet
import Derived.WideLaws
import Derived.Deep.DeepCutAuto
import Derived.Deep.CutBlock
import Derived.Deep.RegionHeld3
import Derived.Laws.Rows
import Derived.Lib.AppendStr
import Derived.ArgAppend
import Derived.Laws.IdiomCopy
import Derived.OrdersHeld
import Derived.Laws.BitsLemmas
import Derived.RowKit
import Derived.Outline
import Derived.Laws.RangeAny
import Derived.Lib.OthersKept
namespace Go.Proofs.YtneindaodfiabaaDoor.Prog6
open Go.RowKit Go.Proofs.YtneindaodfiabaaDoorW.PrintWords Go.Proofs.YtneindaodfiabaaDoorW.PrintLast Go.Proofs.YtneindaodfiabaaDoorW.PrintMore
set_option linter.unusedVariables false
set_option linter.unusedSimpArgs false
/-- What a path may hold beside strokes. -/
def plain (r : Int) : Bool := decide (97 ≤ r) && decide (r ≤ 122) || decide (48 ≤ r) && decide (r ≤ 57) || (r == 46) || (r == 95) || (r == 45)
def pathFrom (s : ByteArray) : Nat → Nat → Int → Bool
  | 0, _, _ => true
  | fuel + 1, pos, last => if pos < s.size then (if (!plain (Utf8.decode s pos).1 && (((Utf8.decode s pos).1 : Int) != 47 || last == 47)) = true then false else pathFrom s fuel (pos + (Utf8.decode s pos).2) (Utf8.decode s pos).1) else true
def isPath (s : ByteArray) : Bool := if h : 1 ≤ s.size ∧ s.size ≤ 40 then (if ((((s[s.size - 1]'(by omega)).toNat : Nat) : Int) == 47) = true then false else pathFrom s s.size 0 47) else false
theorem width_pos (s : ByteArray) (pos : Nat) (h : pos < s.size) : 1 ≤ (Utf8.decode s pos).2 := by
  by_cases ha : (s[pos]'h).toNat < 128
  · rw [decode_ascii s pos h ha]
    exact Nat.le_refl _
  · exact (decode_high s pos h (by omega)).2
theorem pathFrom_end (s : ByteArray) (fuel pos : Nat) (l : Int) (h : ¬ pos < s.size) : pathFrom s fuel pos l = true := by
  cases fuel with
  | zero => rfl
  | succ f => simp [pathFrom, h]
set_option maxHeartbeats 3200000 in
set_option maxRecDepth 100000 in
theorem isPath_calls (s : ByteArray) (w : World) (hs63 : s.size ≤ 9223372036854775807) :
    Calls Tryd.prog 30 #[.string s] w fun e w' => e = .returned (.bool (isPath s)) ∧ Below w.heap.size w w' := by
  by_cases h1 : s.size < 1
  · have e1 : decide ((s.size : Int) < 1) = true := decide_eq_true (by omega)
    have e1' : decide (s.size < 1) = true := decide_eq_true h1
    have HV := Aside0.mk (show isPath s = false by unfold isPath; rw [dif_neg (by omega)])
    rw [HV.out]
    clear h1
    go_enter Tryd.func30, Tryd.ntmps30
    go_wp2
    go_ret
    exact ⟨rfl, Below.refl _ _⟩
  have e1 : decide ((s.size : Int) < 1) = false := decide_eq_false (by omega)
  by_cases h2 : s.size > 40
  · have e2 : decide ((s.size : Int) > 40) = true := decide_eq_true (by omega)
    have HV := Aside0.mk (show isPath s = false by unfold isPath; rw [dif_neg (by omega)])
    rw [HV.out]
    clear h1 h2
    go_enter Tryd.func30, Tryd.ntmps30
    go_wp2
    go_ret
    exact ⟨rfl, Below.refl _ _⟩
  have e2 : decide ((s.size : Int) > 40) = false := decide_eq_false (by omega)
  by_cases hl : ((((s[s.size - 1]'(by omega)).toNat : Nat) : Int) == 47) = true
  · have HV := Aside0.mk (show isPath s = false by unfold isPath; rw [dif_pos ⟨by omega, by omega⟩, if_pos hl])
    rw [HV.out]
    go_enter Tryd.func30, Tryd.ntmps30
    go_wp2
    go_ret
    exact ⟨rfl, Below.refl _ _⟩
  have hl' : ((((s[s.size - 1]'(by omega)).toNat : Nat) : Int) == 47) = false := by simpa using hl
  have HV := Aside0.mk (show isPath s = pathFrom s s.size 0 47 by unfold isPath; rw [dif_pos ⟨by omega, by omega⟩, if_neg hl])
  clear hl
  rw [HV.out]
  generalize hgp : pathFrom s s.size 0 47 = R
  have HP := Aside0.mk hgp
  clear hgp HV
  go_enter Tryd.func30, Tryd.ntmps30
  go_wp2
  go_loopw [3] (fun l wr => ∃ (pos fuel : Nat) (last : Int), l = .int .i32 last ∧ Aside0 (wr.heap[w.heap.size]? = some (.stringIter s pos)) ∧ Aside0 (Below w.heap.size w wr) ∧ Aside0 (pathFrom s fuel pos last = R) ∧ s.size ≤ pos + fuel) (fun _ wr => s.size - wr.iterPos w.heap.size)
  case atStart => exact ⟨0, s.size, 47, rfl, ⟨World.iter_heap _ _ _⟩, ⟨(Below.refl _ _).alloc (Nat.le_refl _) _⟩, HP, by omega⟩
  case round =>
    obtain ⟨pos, fuel, last, rfl, HIT, HB, HPF, hfu⟩ := hrel
    by_cases hp : pos < s.size
    · have hnx : ∀ ty, (Instr.next (.pointer (some ⟨w.heap.size, 0, none⟩)) true ty).run Tryd.prog wr = _ := fun ty => Lib.run_next_any_at wr w.heap.size s pos ty HIT.out hp
      have hwd := width_pos s pos hp
      have HIT2 := Aside0.mk (Lib.iterAt_heap wr w.heap.size s pos (pos + (Utf8.decode s pos).2) HIT.out)
      have HB2 := Aside0.mk (Lib.below_iterAt HB.out (k := w.heap.size) (Nat.le_refl _) s (pos + (Utf8.decode s pos).2))
      obtain ⟨fuel, rfl⟩ : ∃ f, fuel = f + 1 := ⟨fuel - 1, by omega⟩
      have HPF2 := Aside0.mk (show (if (!plain (Utf8.decode s pos).1 && (((Utf8.decode s pos).1 : Int) != 47 || last == 47)) = true then false else pathFrom s fuel (pos + (Utf8.decode s pos).2) (Utf8.decode s pos).1) = R by have h := HPF.out; simp only [pathFrom, if_pos hp] at h; exact h)
      have HPOS := Aside0.mk (show wr.iterPos w.heap.size = pos by unfold World.iterPos; rw [HIT.out])
      have HPOS2 := Aside0.mk (show (wr.iterAt w.heap.size s (pos + (Utf8.decode s pos).2)).iterPos w.heap.size = pos + (Utf8.decode s pos).2 by unfold World.iterPos; rw [HIT2.out])
      clear HPF HIT HB
      go_upto_region 7 with (fail)
      clear hnx
      generalize wr.iterAt w.heap.size s (pos + (Utf8.decode s pos).2) = wn at HIT2 HB2 HPOS2 ⊢
      generalize hgr : (((Utf8.decode s pos).1 : Nat) : Int) = r at HPF2 ⊢
      clear hgr
      generalize (Utf8.decode s pos).2 = wd at HIT2 HPOS2 HPF2 hwd
      go_cut [6] (fun v wc => v = .bool (plain r) ∧ wc = wn)
      case first =>
        by_cases q1 : 97 ≤ r
        · skip
          by_cases q2 : r ≤ 122
          · skip
            have d10 : decide (r ≥ 97) = true := decide_eq_true (by omega)
            have d11 : decide (97 ≤ r) = true := decide_eq_true (by omega)
            have d20 : decide (r ≤ 122) = true := decide_eq_true (by omega)
            have d30 : decide (r ≥ 48) = true := decide_eq_true (by omega)
            have d31 : decide (48 ≤ r) = true := decide_eq_true (by omega)
            have d40 : decide (r ≤ 57) = false := decide_eq_false (by omega)
            have d5 : (r == 46) = false := by simp; omega
            have d6 : (r == 95) = false := by simp; omega
            have d7 : (r == 45) = false := by simp; omega
            have HV := Aside0.mk (show plain r = true by unfold plain; rw [d11, d20, d31, d40, d5, d6, d7]; rfl)
            go_wp2
            go_meet
            case rel => exact ⟨by rw [HV.out], rfl⟩
          · skip
            have d10 : decide (r ≥ 97) = true := decide_eq_true (by omega)
            have d11 : decide (97 ≤ r) = true := decide_eq_true (by omega)
            have d20 : decide (r ≤ 122) = false := decide_eq_false (by omega)
            have d30 : decide (r ≥ 48) = true := decide_eq_true (by omega)
            have d31 : decide (48 ≤ r) = true := decide_eq_true (by omega)
            have d40 : decide (r ≤ 57) = false := decide_eq_false (by omega)
            have d5 : (r == 46) = false := by simp; omega
            have d6 : (r == 95) = false := by simp; omega
            have d7 : (r == 45) = false := by simp; omega
            have HV := Aside0.mk (show plain r = false by unfold plain; rw [d11, d20, d31, d40, d5, d6, d7]; rfl)
            go_wp2
            go_meet
            case rel => exact ⟨by rw [HV.out], rfl⟩
        · skip
          by_cases q3 : 48 ≤ r
          · skip
            by_cases q4 : r ≤ 57
            · skip
              have d10 : decide (r ≥ 97) = false := decide_eq_false (by omega)
              have d11 : decide (97 ≤ r) = false := decide_eq_false (by omega)
              have d20 : decide (r ≤ 122) = true := decide_eq_true (by omega)
              have d30 : decide (r ≥ 48) = true := decide_eq_true (by omega)
              have d31 : decide (48 ≤ r) = true := decide_eq_true (by omega)
              have d40 : decide (r ≤ 57) = true := decide_eq_true (by omega)
              have d5 : (r == 46) = false := by simp; omega
              have d6 : (r == 95) = false := by simp; omega
              have d7 : (r == 45) = false := by simp; omega
              have HV := Aside0.mk (show plain r = true by unfold plain; rw [d11, d20, d31, d40, d5, d6, d7]; rfl)
              go_wp2
              go_meet
              case rel => exact ⟨by rw [HV.out], rfl⟩
            · skip
              by_cases q6 : r = 95
              · skip
                have d10 : decide (r ≥ 97) = false := decide_eq_false (by omega)
                have d11 : decide (97 ≤ r) = false := decide_eq_false (by omega)
                have d20 : decide (r ≤ 122) = true := decide_eq_true (by omega)
                have d30 : decide (r ≥ 48) = true := decide_eq_true (by omega)
                have d31 : decide (48 ≤ r) = true := decide_eq_true (by omega)
                have d40 : decide (r ≤ 57) = false := decide_eq_false (by omega)
                have d5 : (r == 46) = false := by simp; omega
                have d6 : (r == 95) = true := by simp; omega
                have d7 : (r == 45) = false := by simp; omega
                have HV := Aside0.mk (show plain r = true by unfold plain; rw [d11, d20, d31, d40, d5, d6, d7]; rfl)
                clear q6
                go_wp2
                go_meet
                case rel => exact ⟨by rw [HV.out], rfl⟩
              · skip
                have d10 : decide (r ≥ 97) = false := decide_eq_false (by omega)
                have d11 : decide (97 ≤ r) = false := decide_eq_false (by omega)
                have d20 : decide (r ≤ 122) = true := decide_eq_true (by omega)
                have d30 : decide (r ≥ 48) = true := decide_eq_true (by omega)
                have d31 : decide (48 ≤ r) = true := decide_eq_true (by omega)
                have d40 : decide (r ≤ 57) = false := decide_eq_false (by omega)
                have d5 : (r == 46) = false := by simp; omega
                have d6 : (r == 95) = false := by simp; omega
                have d7 : (r == 45) = false := by simp; omega
                have HV := Aside0.mk (show plain r = false by unfold plain; rw [d11, d20, d31, d40, d5, d6, d7]; rfl)
                go_wp2
                go_meet
                case rel => exact ⟨by rw [HV.out], rfl⟩
          · skip
            by_cases q5 : r = 46
            · skip
              have d10 : decide (r ≥ 97) = false := decide_eq_false (by omega)
              have d11 : decide (97 ≤ r) = false := decide_eq_false (by omega)
              have d20 : decide (r ≤ 122) = true := decide_eq_true (by omega)
              have d30 : decide (r ≥ 48) = false := decide_eq_false (by omega)
              have d31 : decide (48 ≤ r) = false := decide_eq_false (by omega)
              have d40 : decide (r ≤ 57) = true := decide_eq_true (by omega)
              have d5 : (r == 46) = true := by simp; omega
              have d6 : (r == 95) = false := by simp; omega
              have d7 : (r == 45) = false := by simp; omega
              have HV := Aside0.mk (show plain r = true by unfold plain; rw [d11, d20, d31, d40, d5, d6, d7]; rfl)
              clear q5
              go_wp2
              go_meet
              case rel => exact ⟨by rw [HV.out], rfl⟩
            · skip
              by_cases q7 : r = 45
              · skip
                have d10 : decide (r ≥ 97) = false := decide_eq_false (by omega)
                have d11 : decide (97 ≤ r) = false := decide_eq_false (by omega)
                have d20 : decide (r ≤ 122) = true := decide_eq_true (by omega)
                have d30 : decide (r ≥ 48) = false := decide_eq_false (by omega)
                have d31 : decide (48 ≤ r) = false := decide_eq_false (by omega)
                have d40 : decide (r ≤ 57) = true := decide_eq_true (by omega)
                have d5 : (r == 46) = false := by simp; omega
                have d6 : (r == 95) = false := by simp; omega
                have d7 : (r == 45) = true := by simp; omega
                have HV := Aside0.mk (show plain r = true by unfold plain; rw [d11, d20, d31, d40, d5, d6, d7]; rfl)
                clear q7
                go_wp2
                go_meet
                case rel => exact ⟨by rw [HV.out], rfl⟩
              · skip
                have d10 : decide (r ≥ 97) = false := decide_eq_false (by omega)
                have d11 : decide (97 ≤ r) = false := decide_eq_false (by omega)
                have d20 : decide (r ≤ 122) = true := decide_eq_true (by omega)
                have d30 : decide (r ≥ 48) = false := decide_eq_false (by omega)
                have d31 : decide (48 ≤ r) = false := decide_eq_false (by omega)
                have d40 : decide (r ≤ 57) = true := decide_eq_true (by omega)
                have d5 : (r == 46) = false := by simp; omega
                have d6 : (r == 95) = false := by simp; omega
                have d7 : (r == 45) = false := by simp; omega
                have HV := Aside0.mk (show plain r = false by unfold plain; rw [d11, d20, d31, d40, d5, d6, d7]; rfl)
                go_wp2
                go_meet
                case rel => exact ⟨by rw [HV.out], rfl⟩
      case rest =>
        obtain ⟨rfl, rfl⟩ := hcut
        have hd31 := decide_eq_true (p := True) trivial
        cases hpl : plain r with
        | true =>
          have HPF3 := Aside0.mk (show pathFrom s fuel (pos + wd) r = R by have h := HPF2.out; rw [hpl] at h; simpa using h)
          clear HPF2 hpl hd31
          go_wp2
          go_roundw
          case rel => exact ⟨pos + wd, fuel, r, rfl, HIT2, HB2, HPF3, by omega⟩
          case measure => rw [HPOS.out, HPOS2.out]; omega
        | false =>
          by_cases h47 : r = 47
          · have e47 : (r != 47) = false := by simp [h47]
            by_cases hl47 : last = 47
            · have el47 : (last == 47) = true := by simp [hl47]
              have HRF := Aside0.mk (show R = false by have h := HPF2.out; rw [hpl, e47, el47] at h; simpa using h.symm)
              clear HPF2 hpl hd31 h47 hl47
              go_wp2
              go_ret
              exact ⟨by rw [HRF.out]; rfl, HB2.out⟩
            · have el47 : (last == 47) = false := by simp [hl47]
              have HPF3 := Aside0.mk (show pathFrom s fuel (pos + wd) r = R by have h := HPF2.out; rw [hpl, e47, el47] at h; simpa using h)
              clear HPF2 hpl hd31 h47 hl47
              go_wp2
              go_roundw
              case rel => exact ⟨pos + wd, fuel, r, rfl, HIT2, HB2, HPF3, by omega⟩
              case measure => rw [HPOS.out, HPOS2.out]; omega
          · have e47 : (r != 47) = true := by simp [h47]
            have HRF := Aside0.mk (show R = false by have h := HPF2.out; rw [hpl, e47] at h; simpa using h.symm)
            clear HPF2 hpl hd31 h47
            go_wp2
            go_ret
            exact ⟨by rw [HRF.out]; rfl, HB2.out⟩
    · have hnx : ∀ ty, (Instr.next (.pointer (some ⟨w.heap.size, 0, none⟩)) true ty).run Tryd.prog wr = _ := fun ty => Lib.run_next_end_at wr w.heap.size s pos ty HIT.out hp
      have HR_ := Aside0.mk (show R = true by rw [← HPF.out]; exact pathFrom_end s fuel pos last hp)
      clear HIT HPF
      go_wp2
      go_ret
      exact ⟨by rw [HR_.out]; rfl, HB.out⟩
end Go.Proofs.YtneindaodfiabaaDoor.Prog6
