/- Reading digests as data: what an argument's reading gives the walk. No condition. -/
import Derived.Test.YtllcofllnjgkcaaDoorMkOpen
namespace Go.Proofs.YtllcofllnjgkcaaDoor.Open
open Go.RowKit Go.Proofs.YtllcofllnjgkcaaDoorW.PrintWords Go.ChangeShapes Go.Deep Go.Proofs.YtllcofllnjgkcaaDoor.Sha
set_option linter.unusedVariables false
set_option linter.unusedSimpArgs false
abbrev k_t32 : Kd (List Int) := KD
def okD (D : List Int) : Prop := D.length = 32 ∧ ∀ x ∈ D, (Lit.int .u8 x).wf = true
theorem opn_t32 : Opn Tryd.prog 32 KD okD (fun _ => 0) := ⟨fun h => by
  obtain ⟨xs, m, rfl, hx, hc, hl, hf⟩ := DataW.trod_array Tryd.underlying32 h
  have e1 : Tryd.prog.cellsOf 5 = 1 := by kernel_rfl
  have hc32 : _ = 32 := hc.trans (by kernel_rfl)
  rename_i cs _ _
  obtain ⟨D, hD, hDx⟩ := pick (fun i x => cs[i]? = some (.int .u8 x) ∧ (Lit.int .u8 x).wf = true) 32 (fun i hi => by
    have h1 := hf i hi
    rw [List.getElem?_eq_getElem (by omega)] at h1
    obtain ⟨n, e, _, hw⟩ := DataW.trod_int Tryd.underlying5 h1
    rw [e1, Nat.mul_one] at e
    refine ⟨n, ?_, hw⟩
    have h2 : ((cs.drop i).take 1)[0]? = some (.int .u8 n) := by rw [e]; rfl
    rw [List.getElem?_take_of_lt (by omega), List.getElem?_drop] at h2
    simpa using h2)
  have hcs : cs = D.map (Value.int .u8) := by
    apply List.ext_getElem? 
    intro i
    rcases Nat.lt_or_ge i 32 with hi | hi
    · obtain ⟨h1, _⟩ := hDx i _ (List.getElem?_eq_getElem (by omega))
      rw [h1, List.getElem?_map, List.getElem?_eq_getElem (by omega)]
      rfl
    · rw [List.getElem?_eq_none (by omega), List.getElem?_eq_none (by simp; omega)]
  refine ⟨D, ?_, ⟨hD, fun x hx => ?_⟩, Nat.zero_le _⟩
  · rw [hcs]
    exact KD.K_of_M (base := 0) (ok := fun _ => True) (KD_of hD)
  · obtain ⟨i, hi, rfl⟩ := List.mem_iff_getElem.1 hx
    exact (hDx i _ (List.getElem?_eq_getElem hi)).2⟩
theorem okD.isD {D : List Int} (h : okD D) : Sha.isD D := ⟨h.1, fun x hx => by
  have := bounds_u8 (h.2 x hx)
  omega⟩
theorem okWide_array {P : Program} {t : TypeId} {n : Nat} {e : TypeId} {w : World} {r : Reach} {base : Nat} {v : Value} (ht : P.underlying t = some (.array n e)) (h : Value.okWide P w r base t v) : ∃ cs, v = .agg cs ∧ cs.size = P.cellsOf t := by
  simp only [Value.okWide, ht] at h
  obtain ⟨cs, h1, h2, _⟩ := h
  exact ⟨cs, h1, h2⟩
end Go.Proofs.YtllcofllnjgkcaaDoor.Open
