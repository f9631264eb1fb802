/- What calls of Go functions of this seat come to, as the rows need it: under the conditions that each theorem names. -/
import Derived.Test.YtebjibkgefgalaaDoorUint
import Derived.Deep.RegionWith
import Derived.OneCell
import Derived.Test.YtebjibkgefgalaaDoorWTab
import Derived.Test.YtebjibkgefgalaaDoorWLast
namespace Go.Proofs.YtebjibkgefgalaaDoor.Hand
open Go.RowKit Go.Proofs.YtebjibkgefgalaaDoorW.PrintWords Go.Proofs.YtebjibkgefgalaaDoorW.PrintLast Go.Proofs.YtebjibkgefgalaaDoorW.PrintMore
set_option linter.unusedVariables false
set_option linter.unusedSimpArgs false
/-- A row's form. -/
def rowL (x : List Int) : List Int := formL x.length ++ x
/-- A list's form. -/
def listL (l : List (List Int)) : List Int := formL l.length ++ (l.map rowL).flatten

/-- A row behind bytes. -/
theorem appendBytes_calls (A0 : Option Addr) (c0 : Nat) (l0 : List Int) (A1 : Option Addr) (c1 : Nat) (l1 : List Int) (w : World) (hr0 : B.C w A0 l0.length l0) (hc0 : l0.length ≤ c0) (hr1 : B.C w A1 l1.length l1) (hc1 : l1.length ≤ c1) (hL : l0.length + l1.length < 140737488355300) :
    Calls Tryd.prog 18 #[.slice A0 l0.length c0, .slice A1 l1.length c1] w fun e w' => ∃ v0_ : Value, e = .returned v0_ ∧ Kd.R B 5 w' w.heap.size (fun _ => True) v0_ (l0 ++ rowL l1) ∧ Below w.heap.size w w' := by
  have HR := Aside0.mk hr0
  have HR1 := Aside0.mk hr1
  have hn : l1.length < 18446744073709551616 := by omega
  have hf := formL_len l1.length hn
  clear hr0 hr1
  have hm : l1.length ≤ 18446744073709551615 := by omega
  go_enter Tryd.func18, Tryd.ntmps18
  go_wp2_with (go_at_call 26; refine (form_calls l1.length hn _).mono ?_; rintro e w' ⟨rfl, rfl⟩)
  refine (behind_calls (some ⟨_, 0, none⟩) 3 [l0, formL l1.length, l1] _ ?h1 (Nat.le_refl 3) ?h2).mono ?_
  case h1 =>
    refine C_rows_block _ (heap_new' _ _ _ (by simp)) [l0, formL l1.length, l1] (fun j x hj => ?_) (show 3 ≤ 9223372036854775807 by omega)
    rcases j with _ | _ | _ | j
    · obtain rfl : l0 = x := by simpa using hj
      exact ⟨A0, c0, rfl, hc0, Kd.C_alloc (Kd.C_alloc HR.out _) _⟩
    · obtain rfl : formL l1.length = x := by simpa using hj
      exact ⟨_, _, rfl, Nat.le_refl _, Kd.C_alloc (form_reads w _ l1.length hn) _⟩
    · obtain rfl : l1 = x := by simpa using hj
      exact ⟨A1, c1, rfl, hc1, Kd.C_alloc (Kd.C_alloc HR1.out _) _⟩
    · simp at hj
  case h2 => simp [flen]; omega
  rintro e w' ⟨v, rfl, hr, hb⟩
  go_wp2
  go_ret
  refine ⟨v, rfl, ?_, ?_⟩
  · have h9 : w.heap.size ≤ ((w.alloc (.cells (cells9 (formL l1.length)) 69)).alloc (.cells #[.slice A0 l0.length c0, .slice (some ⟨w.heap.size, 8 - (digs l1.length).length, none⟩) (formL l1.length).length (formL l1.length).length, .slice A1 l1.length c1] 22)).heap.size := by simp; omega
    have := Kd.R_lower hr h9
    simpa [rowL] using this
  · exact (((Below.refl w.heap.size w).alloc (Nat.le_refl _) _).alloc (by simp) _).trans (hb.mono (by simp; omega))

end Go.Proofs.YtebjibkgefgalaaDoor.Hand
