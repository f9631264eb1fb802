/- What calls of Go functions of this seat come to, as the rows need it: under the conditions that each theorem names. -/
import Derived.Test.YtaheoifjihkipaaOpOpen
import Derived.Laws.Alloc2
namespace Go.Proofs.Ytaheoifjihkipaa.As
open Go.RowKit Go.Proofs.YtaheoifjihkipaaW.PrintWords Go.Proofs.YtaheoifjihkipaaW.PrintLast Go.Proofs.YtaheoifjihkipaaW.PrintMore
set_option linter.unusedVariables false
set_option linter.unusedSimpArgs false
set_option maxHeartbeats 3200000 in
set_option maxRecDepth 100000 in
theorem none_walk (cs0 : Array Value) (x0 : Open.Op4) (w : World) (hx0 : Open.k_t37.K w x0 cs0.toList) (k0 : Open.okO x0) :
    Calls Try.prog 8 #[.agg cs0] w fun e w' => e = .returned (.bool true) ∧ Below w.heap.size w w' := by
  obtain rfl : cs0 = #[.int .i64 x0.1, .int .i64 x0.2.1, .int .i64 x0.2.2.1, .int .i64 x0.2.2.2] := by
    have := Open.op_cells hx0
    exact Array.toList_inj.1 (by simpa using this)
  clear hx0 k0
  obtain ⟨a, b, c, d⟩ := x0
  simp only []
  go_enter Try.func8, Try.ntmps8
  go_upto_region 3 with (fail)
  obtain ⟨w1, hw1⟩ : ∃ w1, ((w.alloc (.cells #[.int .i64 a, .int .i64 b, .int .i64 c, .int .i64 d] 37)).alloc (.cells #[.slice none 0 0, .slice none 0 0, .map none, .int .i64 0, .int .i64 0] 51)).alloc (.cells #[.pointer none, .pointer (some ⟨w.heap.size + 1, 0, none⟩)] 23) = w1 := ⟨_, rfl⟩
  have hx : w1.heap[w.heap.size]? = some (.cells #[.int .i64 a, .int .i64 b, .int .i64 c, .int .i64 d] 37 (0, 0)) := by rw [← hw1]; repeat (first | exact al_new (by simp) | refine al_old ?_)
  have hz : w1.heap[w.heap.size + 1]? = some (.cells #[.slice none 0 0, .slice none 0 0, .map none, .int .i64 0, .int .i64 0] 51 (0, 0)) := by rw [← hw1]; repeat (first | exact al_new (by simp) | refine al_old ?_)
  have hl : w1.heap[w.heap.size + 2]? = some (.cells #[.pointer none, .pointer (some ⟨w.heap.size + 1, 0, none⟩)] 23 (0, 0)) := by rw [← hw1]; repeat (first | exact al_new (by simp) | refine al_old ?_)
  have HB := Aside0.mk (show Below w.heap.size w w1 by rw [← hw1]; repeat (first | exact Below.refl _ _ | apply below_alloc))
  obtain ⟨gx, hgx⟩ : ∃ gx, w.heap.size = gx := ⟨_, rfl⟩
  simp only [Nat.reduceAdd, Nat.add_assoc]
  rw [hgx] at hx hz hl HB ⊢
  rw [hgx] at hw1
  rw [hw1]
  have HGX := Aside0.mk hgx
  have y1 := fun j u => (cell_of hx (j := j) (u := u))
  have x1 : w1.cell? ⟨gx, 1, none⟩ = some (.int .i64 b) := (cell_of hx).2 rfl
  have x2 : w1.cell? ⟨gx, 2, none⟩ = some (.int .i64 c) := (cell_of hx).2 rfl
  have x3 : w1.cell? ⟨gx, 3, none⟩ = some (.int .i64 d) := (cell_of hx).2 rfl
  have HL : Aside0 (∀ k, k < 2 → ∃ p, w1.cell? ⟨gx + 2, k, none⟩ = some (.pointer p) ∧ Nb w1 p) := ⟨by
    intro k hk
    rcases k with _ | _ | k
    · exact ⟨none, (cell_of hl).2 rfl, Or.inl rfl⟩
    · exact ⟨_, (cell_of hl).2 rfl, Or.inr ⟨_, rfl, hz⟩⟩
    · omega⟩
  clear y1 hx hz hl hgx hw1
  go_wp2
  go_loopw [16] (fun v wr => ∃ k : Nat, k ≤ 2 ∧ v = .int .i64 (k : Int) ∧ wr = w1) (fun v _ => 2 - (intOf v).toNat)
  case atStart => exact ⟨0, by omega, rfl, rfl⟩
  case round =>
    obtain ⟨k, hk, rfl, hww⟩ := hrel
    replace hww := hww.symm
    subst hww
    by_cases hlt : k < 2
    · obtain ⟨p, hp, hn⟩ := HL.out k hlt
      have HN := Aside0.mk hn
      have e1 : decide ((k : Int) < 2) = true := decide_eq_true (by omega)
      clear hn
      go_wp2_with (first
        | ((with_reducible refine (nnext p d w1 HN.out).mono ?_); rintro e w2 ⟨rfl, hw⟩; replace hw := hw.symm; subst hw)
        | ((with_reducible refine (nasked p b w1 HN.out).mono ?_); rintro e w2 ⟨rfl, hw⟩; replace hw := hw.symm; subst hw)
        | ((with_reducible refine (nhad p b w1 HN.out).mono ?_); rintro e w2 ⟨rfl, hw⟩; replace hw := hw.symm; subst hw)
        | ((with_reducible refine (nbad p b c w1 HN.out).mono ?_); rintro e w2 ⟨rfl, hw⟩; replace hw := hw.symm; subst hw)
        | ((with_reducible refine (nstate p b w1 HN.out).mono ?_); rintro e w2 ⟨rfl, hw⟩; replace hw := hw.symm; subst hw)
        | ((with_reducible refine (ndemerits p c w1 HN.out).mono ?_); rintro e w2 ⟨rfl, hw⟩; replace hw := hw.symm; subst hw)
        | ((with_reducible refine (nleft p w1 HN.out).mono ?_); rintro e w2 ⟨rfl, hw⟩; replace hw := hw.symm; subst hw)
        | ((with_reducible refine (nstuck p w1 HN.out).mono ?_); rintro e w2 ⟨rfl, hw⟩; replace hw := hw.symm; subst hw)
        | ((with_reducible refine (ncopy p w1 HN.out).mono ?_); rintro e w2 ⟨rfl, hw⟩; replace hw := hw.symm; subst hw))
      go_roundw
      case rel => exact ⟨k + 1, by omega, by first | rfl | go_num, by first | trivial | rfl⟩
      case measure => simp [intOf]; omega
    · obtain rfl : k = 2 := by omega
      go_wp2_with fail
      refine (known_calls _).mono ?_
      rintro e w2 ⟨rfl, hb⟩
      have HB2 := Aside0.mk hb
      clear hb
      go_wp2
      go_ret
      exact ⟨rfl, by rw [HGX.out]; exact HB.out.trans (HB2.out.mono (by have := HB.out.size; have := HGX.out; omega))⟩
end Go.Proofs.Ytaheoifjihkipaa.As
