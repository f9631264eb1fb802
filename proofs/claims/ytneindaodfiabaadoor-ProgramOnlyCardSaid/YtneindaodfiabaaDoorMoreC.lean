/- What calls of Go functions of this seat come to, as the rows need it: under the conditions that each theorem names. -/
import Derived.Test.YtneindaodfiabaaDoorMoreB
namespace Go.Proofs.YtneindaodfiabaaDoor.Prog6
open Go.RowKit Go.Proofs.YtneindaodfiabaaDoorW.PrintWords Go.Proofs.YtneindaodfiabaaDoorW.PrintLast Go.Proofs.YtneindaodfiabaaDoorW.PrintMore
set_option linter.unusedVariables false
set_option linter.unusedSimpArgs false
theorem infoP : (Tryd.prog.info? 26).map (fun i => (i.zero, i.size, i.bytes)) = some (some (.agg #[.int .u8 0, .string ⟨#[]⟩, .string ⟨#[]⟩, .string ⟨#[]⟩, .int .i64 0, .int .i64 0]), 6, 72) := by kernel_rfl
theorem mod_nat (x : Int) (L : Nat) (h0 : 0 < L) (h1 : L ≤ 61) : ∃ kk : Nat, kk < L ∧ wrap64 ((IntKind.u64.wrap x).tmod (L : Int)) = kk := by
  have hw : 0 ≤ IntKind.u64.wrap x := by
    simp only [IntKind.wrap, IntKind.bits, IntKind.signed]
    simp
    omega
  obtain ⟨y, hy⟩ := Int.eq_ofNat_of_zero_le hw
  rw [hy]
  have h2 : ((y : Int).tmod (L : Int)) = ((y % L : Nat) : Int) := by simp [Int.tmod]
  have h3 := Nat.mod_lt y h0
  rw [h2]
  exact ⟨y % L, h3, by unfold wrap64; omega⟩
theorem C_takeP {w : World} {A : Option Addr} {xs : List Ins} (h : KP.C w A xs.length xs) (m : Nat) (hm : m ≤ xs.length) : KP.C w A (xs.take m).length (xs.take m) := Kd.C_take h hm
def two (w : World) (n : Int) : World := w.alloc (.cells #[.int .u8 11, .string ⟨#[]⟩, .string ⟨#[]⟩, .string ⟨#[]⟩, .int .i64 0, .int .i64 0, .int .u8 8, .string ⟨#[]⟩, .string ⟨#[]⟩, .string ⟨#[]⟩, .int .i64 n, .int .i64 0] 26 (0, 0))
theorem C_twoP (w : World) (n : Nat) : KP.C (two w n) (some ⟨w.heap.size, 0, none⟩) 2 [insF, insJ n] := by
  refine ⟨rfl, by omega, fun _ => ⟨_, rfl, fun j p hj => ?_⟩⟩
  have hn := heap_new w (.cells #[.int .u8 11, .string ⟨#[]⟩, .string ⟨#[]⟩, .string ⟨#[]⟩, .int .i64 0, .int .i64 0, .int .u8 8, .string ⟨#[]⟩, .string ⟨#[]⟩, .string ⟨#[]⟩, .int .i64 n, .int .i64 0] 26 (0, 0))
  rcases j with _ | _ | j
  · have hp : insF = p := by simpa using hj
    subst hp
    refine ⟨_, rfl, KP_of _ _, fun i u hu => ?_⟩
    have e : (⟨w.heap.size, 0, none⟩ : Addr).add (0 * KP.sz + i) = ⟨w.heap.size, i, none⟩ := by simp [Addr.add_lit]
    rw [e]
    refine (cell_of hn).2 ?_
    rw [← hu]
    have hi : i < 6 := by
      by_cases h : i < 6
      · exact h
      · rw [List.getElem?_eq_none (by simp; omega)] at hu; cases hu
    rcases i with _ | _ | _ | _ | _ | _ | i <;> first | rfl | omega
  · have hp : insJ n = p := by simpa using hj
    subst hp
    refine ⟨_, rfl, KP_of _ _, fun i u hu => ?_⟩
    have e : (⟨w.heap.size, 0, none⟩ : Addr).add ((0 + 1) * KP.sz + i) = ⟨w.heap.size, 6 + i, none⟩ := by rw [show KP.sz = 6 from rfl]; simp [Addr.add_lit]
    rw [e]
    refine (cell_of hn).2 ?_
    rw [← hu]
    have hi : i < 6 := by
      by_cases h : i < 6
      · exact h
      · rw [List.getElem?_eq_none (by simp; omega)] at hu; cases hu
    rcases i with _ | _ | _ | _ | _ | _ | i <;> first | rfl | omega
  · simp at hj
end Go.Proofs.YtneindaodfiabaaDoor.Prog6
