/- What calls of Go functions of this seat come to, as the rows need it: under the conditions that each theorem names. -/
import Derived.Test.YticpifhnfpnibaaMemB
namespace Go.Proofs.Yticpifhnfpnibaa.Mem
open Go.RowKit Go.Proofs.YticpifhnfpnibaaW.PrintWords Go.Proofs.YticpifhnfpnibaaW.PrintLast Go.Proofs.YticpifhnfpnibaaW.PrintMore
set_option linter.unusedVariables false
set_option linter.unusedSimpArgs false
abbrev KI : Kd Int := Kd.int .i64
theorem info3 : (Try.prog.info? 3).map (fun i => (i.zero, i.size, i.bytes)) = some (some (.int .i64 0), 1, 8) := by kernel_rfl
/-- All that are not dead, of the first ones. -/
def alv (f : Nat → U) (k : Nat) : List Int := ((lst f k).filter (fun u => u.2.1 != 3)).map (·.1)
theorem lst_succ (f : Nat → U) (k : Nat) : lst f (k + 1) = lst f k ++ [f k] := by simp [lst, List.range_succ]
theorem lst_len (f : Nat → U) (k : Nat) : (lst f k).length = k := by simp [lst]
theorem alv_len (f : Nat → U) (k : Nat) : (alv f k).length ≤ k := by
  unfold alv
  rw [List.length_map]
  have := List.length_filter_le (fun u : U => u.2.1 != 3) (lst f k)
  rw [lst_len] at this
  exact this
theorem alv_yes (f : Nat → U) (k : Nat) (h : ((f k).2.1 != 3) = true) : alv f (k + 1) = alv f k ++ [(f k).1] := by
  unfold alv
  rw [lst_succ, List.filter_append, List.map_append]
  simp [h]
theorem alv_no (f : Nat → U) (k : Nat) (h : ((f k).2.1 != 3) = false) : alv f (k + 1) = alv f k := by
  unfold alv
  rw [lst_succ, List.filter_append, List.map_append]
  simp [h]
theorem C_one (w : World) (x : Int) : KI.C (w.alloc (.cells #[.int .i64 x] 3 (0, 0))) (some ⟨w.heap.size, 0, none⟩) 1 [x] := by
  refine ⟨rfl, by omega, fun _ => ⟨_, rfl, fun j p hj => ?_⟩⟩
  have hj0 : j = 0 := by
    rcases j with _ | j
    · rfl
    · simp at hj
  subst hj0
  have hp : x = p := by simpa using hj
  subst hp
  refine ⟨[.int .i64 x], rfl, rfl, fun i u hu => ?_⟩
  have hi : i = 0 := by
    rcases i with _ | i
    · rfl
    · simp at hu
  subst hi
  have hu' : Value.int .i64 x = u := by simpa using hu
  subst hu'
  have := (cell_of (heap_new w (.cells #[.int .i64 x] 3 (0, 0))) (j := 0)).2 rfl
  simp [Addr.add_lit, this]
/-- An element of a row of updates. -/
theorem row_cu {w : World} {A : Option Addr} {n : Nat} {xs : List U} (h : KU.C w A n xs) (k : Nat) (hk : k < n) (u : U) (hu : xs[k]? = some u) :
    ∃ ad, A = some ad ∧ w.cell? (ad.add (k * 3)) = some (.int .i64 u.1) ∧ w.cell? ⟨(ad.add (k * 3)).block, (ad.add (k * 3)).off + 1, none⟩ = some (.int .u8 u.2.1) ∧ w.cell? ⟨(ad.add (k * 3)).block, (ad.add (k * 3)).off + 2, none⟩ = some (.int .u64 u.2.2) := by
  obtain ⟨ad, c, e, _, hK, hc0⟩ := Kd.C_get h ((0, 0, 0) : U) (k : Int) (by omega) (by omega)
  simp only [Int.toNat_natCast] at hK hc0
  have hu2 : xs.getD k (0, 0, 0) = u := by rw [List.getD_eq_getElem?_getD, hu]; rfl
  rw [hu2] at hK
  obtain ⟨c0, c1, rfl, h0, d0, d1, rfl, h1, h2⟩ := hK
  have h0' : c0 = [.int .i64 u.1] := h0
  have h1' : d0 = [.int .u8 u.2.1] := h1
  have h2' : d1 = [.int .u64 u.2.2] := h2
  subst h0' h1' h2'
  have a0 := hc0 0 _ rfl
  have a1 := hc0 1 _ rfl
  have a2 := hc0 2 _ rfl
  exact ⟨ad, e, a0, (congrArg w.cell? (add_field ad (k * 3) 1 (by omega))).symm.trans a1, (congrArg w.cell? (add_field ad (k * 3) 2 (by omega))).symm.trans a2⟩
set_option maxHeartbeats 1600000 in
theorem alive_calls (m s n : Nat) (f : Nat → U) (w : World) (h : Mem w m s n f) (hn : n ≤ 16) :
    Calls Try.prog 22 #[.pointer (some ⟨m, 0, none⟩)] w fun e w' => ∃ v, e = .returned v ∧ Kd.R KI 3 w' w.heap.size (fun _ => True) v (alv f n) ∧ Below w.heap.size w w' := by
  have HM := Aside0.mk h
  clear h
  go_enter Try.func22, Try.ntmps22
  go_wp2_with fail
  refine (all_calls m s n f _ HM.out hn).mono ?_
  rintro e w2 ⟨v, rfl, ho, hb⟩
  obtain ⟨A, c, rfl, hc, hr⟩ := Kd.R_reads ho
  have hlen : (lst f n).length = n := lst_len f n
  rw [hlen] at hc hr ⊢
  have HR := Aside0.mk hr
  have HB := Aside0.mk hb
  clear ho hr hb hlen
  have hn63 : n ≤ 9223372036854775807 := by omega
  go_wp2
  go_loopw [3, 9] (fun v i wr => ∃ k : Nat, k ≤ n ∧ i = .int .i64 k ∧ Aside0 (Kd.R KI 3 wr w2.heap.size (fun _ => True) v (alv f k)) ∧ Aside0 (Below w2.heap.size w2 wr)) (fun _ i _ => n - (intOf i).toNat)
  case atStart => exact ⟨0, Nat.zero_le _, rfl, ⟨Kd.R_nil _ _ _ _ _⟩, ⟨Below.refl _ _⟩⟩
  case round =>
    obtain ⟨k, hk, rfl, HL, HN⟩ := hrel
    by_cases hlt : k < n
    · obtain ⟨ad, rfl, x0, x1, x2⟩ := row_cu (Kd.C_below HR.out HN.out) k hlt (f k) (by simp [lst, hlt])
      go_upto_region 5 with (fail)
      have HB5 := Aside0.mk (HN.out.alloc HN.out.size (.cells #[.int .i64 (f k).1, .int .u8 (f k).2.1, .int .u64 (f k).2.2] 32 (0, 0)))
      have HL5 := Aside0.mk (Kd.R_alloc HL.out (.cells #[.int .i64 (f k).1, .int .u8 (f k).2.1, .int .u64 (f k).2.2] 32 (0, 0)))
      have HY := Aside0.mk (show Box (wr.alloc (.cells #[.int .i64 (f k).1, .int .u8 (f k).2.1, .int .u64 (f k).2.2] 32 (0, 0))) wr.heap.size (f k) from heap_new _ _)
      clear x0 x1 x2 HL HN
      generalize wr.alloc _ = w5 at HB5 HL5 HY ⊢
      generalize wr.heap.size = b at HY ⊢
      obtain ⟨y0, y1, y2⟩ := HY.out.cu
      have hal := alv_len f k
      by_cases hst : ((f k).2.1 != 3) = true
      · go_wp2_with ((with_reducible refine gate_builtin (b := .append) (xs := #[.tmp 16, .tmp 19]) rfl ?_); at_builtin; refine Kd.R_append_rows KI (w0 := w2) w2.heap.size rfl (.tmp 16) (.tmp 19) 24 3 (.int .i64 0) 8 rfl Try.underlying24 info3 rfl (by decide) (by omega) _ (alv f k) [(f k).1] _ _ _ (fun _ => True) (fun _ => False) rfl rfl (Kd.R_alloc HL5.out _) (C_one _ _) (fun _ _ h => h) (fun _ h => h.elim) (fun _ _ => trivial) (HB5.out.alloc HB5.out.size _) (HB5.out.alloc HB5.out.size _).size ?aL ?_; (case aL => omega); intro v2 w6 ho hb6 _ _; rw [← alv_yes f k hst] at ho; have HO := Aside0.mk ho; have HB6 := Aside0.mk hb6; clear ho hb6)
        go_roundw
        case rel => exact ⟨k + 1, by omega, by go_num, HO, HB6⟩
        case measure => simp [intOf]; omega
      · have hst' : ((f k).2.1 != 3) = false := by simpa using hst
        have HST := Aside0.mk hst'
        go_wp2
        go_roundw
        case rel => exact ⟨k + 1, by omega, by go_num, ⟨by rw [alv_no f k HST.out]; exact HL5.out⟩, HB5⟩
        case measure => simp [intOf]; omega
    · obtain rfl : k = n := by omega
      clear hlt hk
      go_wp2
      go_ret
      exact ⟨_, rfl, Kd.R_lower HL.out HB.out.size, below_step HB.out HN.out⟩
end Go.Proofs.Yticpifhnfpnibaa.Mem
