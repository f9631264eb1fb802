/- What calls of Go functions of this seat come to, as the rows need it: under the conditions that each theorem names. -/
import Derived.Test.YtoiblfmlahedlaaDoorH1961d90f4de8
import Derived.Great.BuildSlice
section
namespace Go.Proofs.YtoiblfmlahedlaaDoor.Sha
open Go.RowKit Go.Proofs.YtoiblfmlahedlaaDoorW.PrintWords Go.Proofs.YtoiblfmlahedlaaDoorW.PrintLast Go.Proofs.YtoiblfmlahedlaaDoorW.PrintMore
set_option linter.unusedVariables false
set_option linter.unusedSimpArgs false
set_option maxRecDepth 100000
abbrev KD : Kd (List Int) := Kd.arr 32 B (by decide)
theorem KD_of {w : World} {base : Nat} {ok : Nat → Prop} {D : List Int} (h : D.length = 32) : KD.M w base ok D (D.map (Value.int .u8)) := Kd.arr_of_cells h
theorem KD_cells {w : World} {D : List Int} {cs : List Value} (h : KD.K w D cs) : D.length = 32 ∧ cs = D.map (Value.int .u8) := Kd.arr_cells h
theorem infoDG : (Tryd.prog.info? 31).map (fun i => (i.zero, i.size, i.bytes)) = some (some (.agg #[.int .u8 0, .int .u8 0, .int .u8 0, .int .u8 0, .int .u8 0, .int .u8 0, .int .u8 0, .int .u8 0, .int .u8 0, .int .u8 0, .int .u8 0, .int .u8 0, .int .u8 0, .int .u8 0, .int .u8 0, .int .u8 0, .int .u8 0, .int .u8 0, .int .u8 0, .int .u8 0, .int .u8 0, .int .u8 0, .int .u8 0, .int .u8 0, .int .u8 0, .int .u8 0, .int .u8 0, .int .u8 0, .int .u8 0, .int .u8 0, .int .u8 0, .int .u8 0]), 32, 32) := by kernel_rfl
theorem u8_rng (x : Int) : 0 ≤ IntKind.u8.wrap x ∧ IntKind.u8.wrap x < 256 := by rw [IntKind.wrap_u8]; omega
theorem outs_bytes (s : S8) (k : Nat) : bytes (outs s k) := by
  induction k with
  | zero => exact bytes_rep 32
  | succ k ih =>
    intro x hx
    rcases List.mem_or_eq_of_mem_set hx with h | rfl
    · exact ih x h
    · exact u8_rng _
theorem shaI_bytes (l : List Int) : bytes (shaI l) := outs_bytes _ _
theorem bytes_take {l : List Int} (h : bytes l) (k : Nat) : bytes (l.take k) := fun x hx => h x (List.mem_of_mem_take hx)
theorem chunk_bytes {l : List Int} (h : bytes l) (i : Nat) : bytes (chunkL l i) := bytes_drop (bytes_take h _) _
theorem exp32 {D : List Int} (h : D.length = 32) : ∃ d0 d1 d2 d3 d4 d5 d6 d7 d8 d9 d10 d11 d12 d13 d14 d15 d16 d17 d18 d19 d20 d21 d22 d23 d24 d25 d26 d27 d28 d29 d30 d31 : Int, D = [d0, d1, d2, d3, d4, d5, d6, d7, d8, d9, d10, d11, d12, d13, d14, d15, d16, d17, d18, d19, d20, d21, d22, d23, d24, d25, d26, d27, d28, d29, d30, d31] := by
  match D, h with
  | [d0, d1, d2, d3, d4, d5, d6, d7, d8, d9, d10, d11, d12, d13, d14, d15, d16, d17, d18, d19, d20, d21, d22, d23, d24, d25, d26, d27, d28, d29, d30, d31], _ => exact ⟨d0, d1, d2, d3, d4, d5, d6, d7, d8, d9, d10, d11, d12, d13, d14, d15, d16, d17, d18, d19, d20, d21, d22, d23, d24, d25, d26, d27, d28, d29, d30, d31, rfl⟩
set_option maxRecDepth 100000 in
theorem fill32 {D : List Int} (h : D.length = 32) : Instr.fill (fun i => some (i * 32, 32)) ((Array.range (1 * 32)).map ((#[.int .u8 0, .int .u8 0, .int .u8 0, .int .u8 0, .int .u8 0, .int .u8 0, .int .u8 0, .int .u8 0, .int .u8 0, .int .u8 0, .int .u8 0, .int .u8 0, .int .u8 0, .int .u8 0, .int .u8 0, .int .u8 0, .int .u8 0, .int .u8 0, .int .u8 0, .int .u8 0, .int .u8 0, .int .u8 0, .int .u8 0, .int .u8 0, .int .u8 0, .int .u8 0, .int .u8 0, .int .u8 0, .int .u8 0, .int .u8 0, .int .u8 0, .int .u8 0] : Array Value)[· % (#[.int .u8 0, .int .u8 0, .int .u8 0, .int .u8 0, .int .u8 0, .int .u8 0, .int .u8 0, .int .u8 0, .int .u8 0, .int .u8 0, .int .u8 0, .int .u8 0, .int .u8 0, .int .u8 0, .int .u8 0, .int .u8 0, .int .u8 0, .int .u8 0, .int .u8 0, .int .u8 0, .int .u8 0, .int .u8 0, .int .u8 0, .int .u8 0, .int .u8 0, .int .u8 0, .int .u8 0, .int .u8 0, .int .u8 0, .int .u8 0, .int .u8 0, .int .u8 0] : Array Value).size]!)) [(0, vd D)] = some (cb D) := by
  obtain ⟨d0, d1, d2, d3, d4, d5, d6, d7, d8, d9, d10, d11, d12, d13, d14, d15, d16, d17, d18, d19, d20, d21, d22, d23, d24, d25, d26, d27, d28, d29, d30, d31, rfl⟩ := exp32 h
  kernel_rfl
theorem run_lit {D : List Int} (h : D.length = 32) (W : World) : (Instr.buildSlice 41 1 #[(0, vd D)]).run Tryd.prog W = .ok (.slice (some ⟨W.heap.size, 0, none⟩) 1 1) (W.alloc (.cells (cb D) 31)) := by
  obtain ⟨ie, hie, hz⟩ := Option.map_eq_some_iff.1 infoDG
  have hz' : ie.zero = some (.agg #[.int .u8 0, .int .u8 0, .int .u8 0, .int .u8 0, .int .u8 0, .int .u8 0, .int .u8 0, .int .u8 0, .int .u8 0, .int .u8 0, .int .u8 0, .int .u8 0, .int .u8 0, .int .u8 0, .int .u8 0, .int .u8 0, .int .u8 0, .int .u8 0, .int .u8 0, .int .u8 0, .int .u8 0, .int .u8 0, .int .u8 0, .int .u8 0, .int .u8 0, .int .u8 0, .int .u8 0, .int .u8 0, .int .u8 0, .int .u8 0, .int .u8 0, .int .u8 0]) ∧ ie.size = 32 ∧ ie.bytes = 32 := by simpa using hz
  refine run_buildSlice W 41 31 1 #[(0, vd D)] (cb D) ie (.agg #[.int .u8 0, .int .u8 0, .int .u8 0, .int .u8 0, .int .u8 0, .int .u8 0, .int .u8 0, .int .u8 0, .int .u8 0, .int .u8 0, .int .u8 0, .int .u8 0, .int .u8 0, .int .u8 0, .int .u8 0, .int .u8 0, .int .u8 0, .int .u8 0, .int .u8 0, .int .u8 0, .int .u8 0, .int .u8 0, .int .u8 0, .int .u8 0, .int .u8 0, .int .u8 0, .int .u8 0, .int .u8 0, .int .u8 0, .int .u8 0, .int .u8 0, .int .u8 0]) Tryd.underlying41 hie hz'.1 (by rw [hz'.2.1]; omega) (by rw [hz'.2.1]; omega) ?_
  rw [hz'.2.1]
  exact fill32 h
section
variable {ops : Array Oper} {rest : List Oper} {o : Oper} {a : Act} {Q : Exit → Act → World → Prop} {Kc : Act → World → Prop} {w : World}
theorem wp_lit {K : Act → World → Prop} (x : Operand) (ho : o.op = .buildSlice 41 1 #[(0, x)]) {D : List Int} (hD : D.length = 32) (hx : a.eval x = vd D)
    (h : K (a.put o.dst (.slice (some ⟨w.heap.size, 0, none⟩) 1 1)) (w.alloc (.cells (cb D) 31))) : Oper.wp Tryd.prog o a w K Q := by
  have h1 := run_lit hD w
  unfold Oper.wp execOp
  simp only [ho, List.map_toArray, List.map_cons, List.map_nil, hx, Sem.run_bind, Result.andThen_ok, h1]
  exact h
theorem wpList_lit (hg : o.guard = none) (x : Operand) (ho : o.op = .buildSlice 41 1 #[(0, x)]) {D : List Int} (hD : D.length = 32) (hx : a.eval x = vd D)
    (h : wpList Tryd.prog ops Q rest (a.put o.dst (.slice (some ⟨w.heap.size, 0, none⟩) 1 1)) (w.alloc (.cells (cb D) 31))) : wpList Tryd.prog ops Q (o :: rest) a w :=
  wpList_plain hg fun _ hK => wp_lit x ho hD hx (hK _ _ h)
theorem lit_step (hw : Region.wanted o (yielded ops a.tmps) = true) (x : Operand) (ho : o.op = .buildSlice 41 1 #[(0, x)]) {D : List Int} (hD : D.length = 32) (hx : a.eval x = vd D)
    (h : Kc (a.put o.dst (.slice (some ⟨w.heap.size, 0, none⟩) 1 1)) (w.alloc (.cells (cb D) 31))) : if Region.wanted o (yielded ops a.tmps) = true then Oper.wp Tryd.prog o a w Kc Q else Kc (a.put o.dst undef) w := by
  rw [if_pos hw]
  exact wp_lit x ho hD hx h
end
def isD (d : List Int) : Prop := d.length = 32 ∧ bytes d
theorem sha_D (l : List Int) : isD (shaI l) := ⟨shaI_len l, shaI_bytes l⟩
def leavesP (l : List Int) (k : Nat) : List (List Int) := (List.range k).map fun i => leafI i (chunkL l i)
theorem leavesP_succ (l : List Int) (k : Nat) : leavesP l k ++ [leafI k (chunkL l k)] = leavesP l (k + 1) := by simp [leavesP, List.range_succ]
theorem leavesP_len (l : List Int) (k : Nat) : (leavesP l k).length = k := by simp [leavesP]
def leavesL (l : List Int) : List (List Int) := leavesP l (countN l.length)
theorem leaves_D (l : List Int) : ∀ d ∈ leavesL l, isD d := by
  intro d hd
  obtain ⟨i, _, rfl⟩ := List.mem_map.1 hd
  exact sha_D _
set_option maxHeartbeats 1600000 in
set_option maxRecDepth 100000 in
theorem leaves_calls (A : Option Addr) (c : Nat) (l : List Int) (w : World) (hr : B.C w A l.length l) (hc : l.length ≤ c) (hb : bytes l) (hl : l.length < 10000000) (hT : Tab w) :
    Calls Tryd.prog 68 #[.slice A l.length c] w fun e w' => ∃ v, e = .returned v ∧ Kd.R KD 31 w' w.heap.size (fun _ => True) v (leavesL l) ∧ Below w.heap.size w w' := by
  have HR := Aside0.mk hr
  have HY := Aside0.mk hb
  have HTAB := Aside0.mk hT
  have HC := Aside0.mk (fun w => count_calls l.length w (by omega))
  have hN : countN l.length ≤ 1000000 := by unfold countN; omega
  have HLV := Aside0.mk (show leavesL l = leavesP l (countN l.length) from rfl)
  clear hr hb hT
  generalize hNN : countN l.length = N at HC hN HLV
  have HNN := Aside0.mk hNN
  clear hNN
  go_enter Tryd.func68, Tryd.ntmps68
  go_wp2_with fail
  refine (HC.out _).mono ?_
  rintro e w1 ⟨rfl, hw⟩
  replace hw := hw.symm
  subst hw
  go_wp2
  go_loopw [3, 10] (fun v i wr => ∃ k : Nat, k ≤ N ∧ i = .int .i64 (k : Int) ∧ Aside0 (Kd.R KD 31 wr w.heap.size (fun _ => True) v (leavesP l k)) ∧ Aside0 (Below w.heap.size w wr)) (fun _ i _ => N - (intOf i).toNat)
  case atStart => exact ⟨0, Nat.zero_le _, rfl, ⟨Kd.R_nil _ _ _ _ _⟩, ⟨Below.refl _ _⟩⟩
  case round =>
    obtain ⟨k, hk, rfl, HO, HB⟩ := hrel
    by_cases hlt : k < N
    · have hkN : (k : Int) < (N : Int) := by omega
      have HS := Aside0.mk (leavesP_succ l k)
      have HLP := Aside0.mk (leavesP_len l k)
      have hcl : (chunkL l k).length ≤ 64 := by rw [chunk_len (by rw [HNN.out]; exact hlt)]; omega
      have HCB := Aside0.mk (chunk_bytes HY.out k)
      have HDG := Aside0.mk (shaI_len (0 :: (be8 k ++ chunkL l k)))
      go_wp2_with fail
      refine (chunk_yes A c l k _ (Kd.C_below HR.out HB.out) hc hl (by rw [HNN.out]; exact hlt)).mono ?_
      rintro e w2 ⟨v, rfl, ho, hb⟩
      have HB2 := Aside0.mk (below_step HB.out hb)
      replace HO := Aside0.mk (Kd.R_below HO.out hb)
      obtain ⟨A2, c2, rfl, hc2, hr2⟩ := Kd.R_reads ho
      have HR2 := Aside0.mk hr2
      clear hb ho hr2 HB
      go_wp2_with fail
      refine (leaf_calls k A2 c2 (chunkL l k) _ HR2.out hc2 HCB.out (by omega) (by omega) (HTAB.out.below HB2.out)).mono ?_
      rintro e w3 ⟨rfl, hb⟩
      have HB3 := Aside0.mk (below_step HB2.out hb)
      replace HO := Aside0.mk (Kd.R_below HO.out hb)
      replace HDG := Aside0.mk (show (leafI k (chunkL l k)).length = 32 from HDG.out)
      clear hb HR2 HB2
      generalize leafI k (chunkL l k) = D at HS HDG ⊢
      go_wp2_with (first | ((with_reducible refine gate_dst (N := 23) rfl ?_); refine wpList_lit rfl (.tmp 22) rfl HDG.out rfl ?_) | ((with_reducible refine gate_builtin (b := .append) (xs := #[.tmp 19, .tmp 23]) rfl ?_); at_builtin; refine Kd.R_append KD (w0 := w) w.heap.size rfl (.tmp 19) (.tmp 23) 41 31 (.agg #[.int .u8 0, .int .u8 0, .int .u8 0, .int .u8 0, .int .u8 0, .int .u8 0, .int .u8 0, .int .u8 0, .int .u8 0, .int .u8 0, .int .u8 0, .int .u8 0, .int .u8 0, .int .u8 0, .int .u8 0, .int .u8 0, .int .u8 0, .int .u8 0, .int .u8 0, .int .u8 0, .int .u8 0, .int .u8 0, .int .u8 0, .int .u8 0, .int .u8 0, .int .u8 0, .int .u8 0, .int .u8 0, .int .u8 0, .int .u8 0, .int .u8 0, .int .u8 0]) 32 rfl Tryd.underlying41 infoDG rfl (by decide) (by omega) _ (leavesP l k) D (D.map (Value.int .u8)) (fun _ => True) (fun _ => False) rfl rfl (KD_of HDG.out) (fun _ h => h.elim) (fun _ _ => trivial) HO.out HB3.out HB3.out.size ?aL ?_; (case aL => rw [HLP.out]; omega); intro v2 w6 ho hb2 hg hat; rw [HS.out] at ho; have HO2 := Aside0.mk ho; have HB4 := Aside0.mk hb2; clear ho hb2 hg hat))
      go_roundw
      case rel => exact ⟨k + 1, by omega, by go_num, HO2, HB4⟩
      case measure => simp [intOf]; omega
    · obtain rfl : k = N := by omega
      rw [← HLV.out] at HO
      clear hlt hk
      go_wp2
      go_ret
      exact ⟨_, rfl, HO.out, HB.out⟩
end Go.Proofs.YtoiblfmlahedlaaDoor.Sha
end
