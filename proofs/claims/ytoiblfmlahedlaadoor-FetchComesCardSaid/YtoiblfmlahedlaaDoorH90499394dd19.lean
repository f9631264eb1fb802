/- What calls of Go functions of this seat come to, as the rows need it: under the conditions that each theorem names. -/
import Derived.Test.YtoiblfmlahedlaaDoorHa33247ebcd77
import Derived.Deep.Slices
section
namespace Go.Proofs.YtoiblfmlahedlaaDoor.Sha
open Go.RowKit Go.Proofs.YtoiblfmlahedlaaDoorW.PrintWords Go.Proofs.YtoiblfmlahedlaaDoorW.PrintLast Go.Proofs.YtoiblfmlahedlaaDoorW.PrintMore
set_option linter.unusedVariables false
set_option linter.unusedSimpArgs false
set_option maxRecDepth 100000
theorem row_ld {w : World} {A : Option Addr} {n : Nat} {rows : List (List Int)} (h : KD.C w A n rows) (k : Nat) (hk : k < n) : ∃ ad, A = some ad ∧ (loadCellsFrom (ad.add (k * 32)) 0 32 #[]).run Tryd.prog w = .ok (cb (rows.getD k [])) w ∧ (rows.getD k []).length = 32 := by
  obtain ⟨ad, c, e, _, hK, hc0⟩ := Kd.C_get h ([] : List Int) (k : Int) (by omega) (by omega)
  simp only [Int.toNat_natCast] at hK hc0
  obtain ⟨h1, h2⟩ := KD_cells hK
  refine ⟨ad, e, ?_, h1⟩
  have := run_loadCells_list (P := Tryd.prog) w (ad.add (k * 32)) c (fun j v hv => by
    rw [Deep.add_add]
    have h3 := hc0 j v hv
    have hsz : KD.sz = 32 := rfl
    rw [hsz] at h3
    exact h3)
  have hl : c.length = 32 := by rw [h2, List.length_map]; exact h1
  have hcb : cb (rows.getD k []) = c.toArray := by rw [h2]; rfl
  rw [hl] at this
  rw [hcb]
  simpa [loadCells] using this
theorem run_loadAt_cells {P : Program} (w : World) (ad : Addr) (ty : TypeId) (cs : Array Value) (d : TypeDesc) (h : (loadCellsFrom ad 0 cs.size #[]).run P w = .ok cs w)
    (hu : P.underlying ty = some d) (hd : (match d with | .struct _ | .array _ _ => true | _ => false) = true) (hi : (P.info? ty).map (·.size) = some cs.size) :
    (Instr.loadAt ty (.pointer (some ad))).run P w = .ok (.agg cs) w := by
  have hl : (loadCells ad cs.size).run P w = .ok cs w := by simpa [loadCells] using h
  have hv : (loadVar ty ad).run P w = .ok (.agg cs) w := by
    cases hq : P.info? ty with
    | none => simp [hq] at hi
    | some i =>
      have hs : i.size = cs.size := by simpa [hq] using hi
      have hagg : (isAgg ty).run P w = .ok true w := by
        unfold isAgg
        rw [Sem.run_bind, run_underlying hu w]
        cases d <;> simp_all
      simp [loadVar, Sem.run_bind, hagg, sizeOf, typeInfo, hq, hs, hl]
  simp only [Instr.loadAt, Instr.sureAddr, Sem.run_bind, Sem.run_pure, Result.andThen_ok, hv]
theorem row_load {w : World} {A : Option Addr} {n : Nat} {rows : List (List Int)} (h : KD.C w A n rows) (k : Nat) (hk : k < n) : ∃ ad, A = some ad ∧ (Instr.loadAt 31 (.pointer (some (ad.add (k * 32))))).run Tryd.prog w = .ok (vd (rows.getD k [])) w := by
  obtain ⟨ad, e, h1, h2⟩ := row_ld h k hk
  have hs : (cb (rows.getD k [])).size = 32 := by rw [cb_size]; exact h2
  exact ⟨ad, e, run_loadAt_cells w _ _ _ _ (by rw [hs]; exact h1) Tryd.underlying31 rfl (infoDg _ h2)⟩
theorem row_load' {w w' : World} {ad : Addr} {n : Nat} {rows : List (List Int)} (h : KD.C w (some ad) n rows) (hb : Below w.heap.size w w') (k : Nat) (hk : k < n) {D : List Int} (hD : rows.getD k [] = D) : (Instr.loadAt 31 (.pointer (some (ad.add (k * 32))))).run Tryd.prog w' = .ok (vd D) w' := by
  obtain ⟨ad', e, h1⟩ := row_load (Kd.C_below h hb) k hk
  cases e
  rw [← hD]
  exact h1
section
variable {P : Program} {ops : Array Oper} {rest : List Oper} {o : Oper} {a : Act} {Q : Exit → Act → World → Prop} {w : World}
theorem exec_load {ty : TypeId} {x : Operand} {p v : Value} (ho : o.op = .load ty x) (hx : a.eval x = p) (h : (Instr.loadAt ty p).run P w = .ok v w) : (execOp a.eval o).run P w = .ok (.value v) w := by
  unfold execOp
  simp only [ho, hx, Sem.run_bind, h, Result.andThen_ok]
  rfl
theorem wpList_load_at (hgd : o.guard = none) {ty : TypeId} {x : Operand} {p v : Value} (ho : o.op = .load ty x) (hx : a.eval x = p) (h : (Instr.loadAt ty p).run P w = .ok v w)
    (hr : wpList P ops Q rest (a.put o.dst v) w) : wpList P ops Q (o :: rest) a w :=
  wpList_plain hgd fun K hK => by
    unfold Oper.wp
    rw [exec_load ho hx h]
    exact hK _ _ hr
end
def isRow (rows : List (List Int)) : Prop := ∀ d ∈ rows, isD d
theorem isRow_getD {rows : List (List Int)} (h : isRow rows) (k : Nat) (hk : k < rows.length) : isD (rows.getD k []) := by
  rw [List.getD_eq_getElem?_getD, List.getElem?_eq_getElem hk]
  exact h _ (List.getElem_mem hk)
def upN (rows : List (List Int)) (k : Nat) : List (List Int) := (List.range k).map fun i => pairI (rows.getD (2 * i) []) (rows.getD (2 * i + 1) [])
def upL (rows : List (List Int)) : List (List Int) := if rows.length % 2 = 1 then upN rows (rows.length / 2) ++ [rows.getD (rows.length - 1) []] else upN rows (rows.length / 2)
theorem upN_len (rows : List (List Int)) (k : Nat) : (upN rows k).length = k := by simp [upN]
theorem upN_succ (rows : List (List Int)) (k : Nat) : upN rows k ++ [pairI (rows.getD (2 * k) []) (rows.getD (2 * k + 1) [])] = upN rows (k + 1) := by simp [upN, List.range_succ]
theorem upL_len (rows : List (List Int)) : (upL rows).length = (rows.length + 1) / 2 := by
  unfold upL
  split
  · rw [List.length_append, upN_len]; simp; omega
  · rw [upN_len]; omega
theorem upL_row {rows : List (List Int)} (h : isRow rows) : isRow (upL rows) := by
  have h1 : isRow (upN rows (rows.length / 2)) := by
    intro d hd
    obtain ⟨i, _, rfl⟩ := List.mem_map.1 hd
    exact sha_D _
  unfold upL
  split
  · intro d hd
    rcases List.mem_append.1 hd with h2 | h2
    · exact h1 d h2
    · obtain rfl := List.mem_singleton.1 h2
      exact isRow_getD h _ (by omega)
  · exact h1
def up_T5 : Bool × List (List Nat × List Nat) := (true, [([], []), ([], []), ([], []), ([2], [2]), ([1, 3], [1, 3]), ([4], [4]), ([], []), ([], []), ([7], [7]), ([8], [8]), ([6, 9], [6, 9]), ([10], [10]), ([5, 11], [5, 11]), ([12], [12]), ([0, 13, 12], [0, 13]), ([14, 14, 0, 1, 2, 3, 4, 5, 6, 7, 8, 9, 10, 11, 12, 13, 14], [0, 14])])
def up_B5 : List Nat := [0, 0, 0, 4, 14, 30, 0, 0, 128, 384, 960, 1984, 4094, 8190, 16383, 32767]
theorem up_tab5 : rtab .any (opsOf Tryd.f69 5) = up_T5 := by kernel_rfl
theorem up_bits5 : waitsOk up_T5.2 up_B5 = true := by kernel_rfl
set_option maxHeartbeats 1600000 in
set_option maxRecDepth 100000 in
theorem up_calls (A : Option Addr) (c : Nat) (rows : List (List Int)) (w : World) (hr : KD.C w A rows.length rows) (hc : rows.length ≤ c) (hb : isRow rows) (hl : rows.length < 10000000) (hT : Tab w) :
    Calls Tryd.prog 69 #[.slice A rows.length c] w fun e w' => ∃ v, e = .returned v ∧ Kd.R KD 31 w' w.heap.size (fun _ => True) v (upL rows) ∧ Below w.heap.size w w' := by
  have HR := Aside0.mk hr
  have HY := Aside0.mk hb
  have HTAB := Aside0.mk hT
  clear hr hb hT
  go_enter Tryd.func69, Tryd.ntmps69
  go_wp2
  go_loopw [3, 8] (fun v i wr => ∃ k : Nat, k ≤ rows.length / 2 ∧ i = .int .i64 (k : Int) ∧ Aside0 (Kd.R KD 31 wr w.heap.size (fun _ => True) v (upN rows k)) ∧ Aside0 (Below w.heap.size w wr)) (fun _ i _ => rows.length - (intOf i).toNat)
  case atStart => exact ⟨0, Nat.zero_le _, rfl, ⟨Kd.R_nil _ _ _ _ _⟩, ⟨Below.refl _ _⟩⟩
  case round =>
    obtain ⟨k, hk, rfl, HO, HB⟩ := hrel
    by_cases hlt : k < rows.length / 2
    · have hkN : (k : Int) < (rows.length : Int) / 2 := by omega
      obtain ⟨q0, hq0e⟩ : ∃ q, q = 2 * k := ⟨_, rfl⟩
      obtain ⟨q1, hq1e⟩ : ∃ q, q = 2 * k + 1 := ⟨_, rfl⟩
      have hq0 : q0 < rows.length := by omega
      have hq1 : q1 < rows.length := by omega
      have HW0 := Aside0.mk (show IntKind.i64.wrap (2 * (k : Int)) = (q0 : Int) by simp [IntKind.wrap, IntKind.bits, IntKind.signed]; omega)
      have HW1 := Aside0.mk (show IntKind.i64.wrap ((q0 : Int) + 1) = (q1 : Int) by simp [IntKind.wrap, IntKind.bits, IntKind.signed]; omega)
      have HS := Aside0.mk (show upN rows k ++ [pairI (rows.getD q0 []) (rows.getD q1 [])] = upN rows (k + 1) by rw [hq0e, hq1e]; exact upN_succ rows k)
      have HLP := Aside0.mk (upN_len rows k)
      have hk7 : k ≤ 10000000 := by omega
      have HA := Aside0.mk (isRow_getD HY.out q0 hq0)
      have HBB := Aside0.mk (isRow_getD HY.out q1 hq1)
      obtain ⟨ad, rfl, _, _⟩ := row_ld HR.out q0 hq0
      clear hq0e hq1e
      have hS0 : Below w.heap.size w wr.drew := below_drew1 HB.out
      have HOd := Aside0.mk (show Kd.R KD 31 wr.drew w.heap.size (fun _ => True) u3 (upN rows k) from Kd.R_drew HO.out)
      generalize hea : rows.getD q0 [] = a at *
      generalize heb : rows.getD q1 [] = b at *
      have HX0 := Aside0.mk (show ∀ w' : World, Below w.heap.size w w' → (Instr.loadAt 31 (.pointer (some (ad.add (q0 * 32))))).run Tryd.prog w' = .ok (vd a) w' from fun w' h => row_load' HR.out h q0 hq0 hea)
      have HX1 := Aside0.mk (show ∀ w' : World, Below w.heap.size w w' → (Instr.loadAt 31 (.pointer (some (ad.add (q1 * 32))))).run Tryd.prog w' = .ok (vd b) w' from fun w' h => row_load' HR.out h q1 hq1 heb)
      clear hea heb
      go_upto_region 5 with (fail)
      refine start_ (n := 16) (S := fun w' => Below w.heap.size w w') (ds := []) #[false, false, false, false, false, false, false, false, false, false, false, false, false, false, false, false] (by kernel_rfl) rfl rfl (by exact hS0) (fun hHeld => ?_)
      refine with_tabW up_tab5 up_bits5 (fun HT_ HW_ => ?_)
      refine pure_ (i := 0) (N := some 11) (v := ?_) (a' := ?_) #[true, false, false, false, false, false, false, false, false, false, false, false, false, false, false, false] rfl rfl (any_of HT_.out (by kernel_rfl)) (fun _ _ _ h => h) (Or.inl ⟨by rfl, ?_⟩) ?_ ?_
      rotate_left
      · intro w'
        go_simp
        with_reducible rfl
      rotate_left
      · simp only [Act.put, List.setIfInBounds_toArray, List.set_cons_zero, List.set_cons_succ, i64_w, i32_w]
        rfl
      refine pure_ (i := 1) (N := some 12) (v := ?_) (a' := ?_) #[true, true, false, false, false, false, false, false, false, false, false, false, false, false, false, false] rfl rfl (any_of HT_.out (by kernel_rfl)) (fun _ _ _ h => h) (Or.inl ⟨by rfl, ?_⟩) ?_ ?_
      rotate_left
      · intro w'
        go_simp
        with_reducible rfl
      rotate_left
      · simp only [Act.put, List.setIfInBounds_toArray, List.set_cons_zero, List.set_cons_succ, i64_w, i32_w]
        rfl
      refine pure_ (i := 2) (N := some 13) (v := ?_) (a' := ?_) #[true, true, true, false, false, false, false, false, false, false, false, false, false, false, false, false] rfl rfl (any_of HT_.out (by kernel_rfl)) (fun _ _ _ h => h) (Or.inl ⟨by rfl, ?_⟩) ?_ ?_
      rotate_left
      · intro w'
        go_simp
        with_reducible rfl
      rotate_left
      · simp only [Act.put, List.setIfInBounds_toArray, List.set_cons_zero, List.set_cons_succ, i64_w, i32_w]
        rfl
      refine pure_ (i := 3) (N := some 14) (v := ?_) (a' := ?_) #[true, true, true, true, false, false, false, false, false, false, false, false, false, false, false, false] rfl rfl (any_of HT_.out (by kernel_rfl)) (fun _ _ _ h => h) (Or.inl ⟨by rfl, ?_⟩) ?_ ?_
      rotate_left
      · intro w'
        go_simp
        rw [HW0.out]
      rotate_left
      · simp only [Act.put, List.setIfInBounds_toArray, List.set_cons_zero, List.set_cons_succ, i64_w, i32_w]
        rfl
      refine pure_ (i := 4) (N := some 15) (v := ?_) (a' := ?_) #[true, true, true, true, true, false, false, false, false, false, false, false, false, false, false, false] rfl rfl (any_of HT_.out (by kernel_rfl)) (fun _ _ _ h => h) (Or.inl ⟨by rfl, ?_⟩) ?_ ?_
      rotate_left
      · intro w'
        go_simp
        with_reducible rfl
      rotate_left
      · simp only [Act.put, List.setIfInBounds_toArray, List.set_cons_zero, List.set_cons_succ, i64_w, i32_w]
        rfl
      refine take_ (i := 5) (N := some 16) (v := ?_) (a' := ?_) #[true, true, true, true, true, true, false, false, false, false, false, false, false, false, false, false] rfl rfl (take_ofW HT_.out HW_.out (by kernel_rfl)) (fun _ _ _ h => h) (Or.inl ⟨by rfl, ?_⟩) hHeld ?_ ?_
      rotate_left
      · intro w' hSt
        refine (exec_load (p := .pointer (some (ad.add (q0 * 32)))) rfl rfl (HX0.out w' hSt)).trans ?_
        with_reducible rfl
      rotate_left
      · simp only [Act.put, List.setIfInBounds_toArray, List.set_cons_zero, List.set_cons_succ, i64_w, i32_w]
        rfl
      refine pure_ (i := 6) (N := some 17) (v := ?_) (a' := ?_) #[true, true, true, true, true, true, true, false, false, false, false, false, false, false, false, false] rfl rfl (any_of HT_.out (by kernel_rfl)) (fun _ _ _ h => h) (Or.inl ⟨by rfl, ?_⟩) ?_ ?_
      rotate_left
      · intro w'
        go_simp
        with_reducible rfl
      rotate_left
      · simp only [Act.put, List.setIfInBounds_toArray, List.set_cons_zero, List.set_cons_succ, i64_w, i32_w]
        rfl
      refine pure_ (i := 7) (N := some 18) (v := ?_) (a' := ?_) #[true, true, true, true, true, true, true, true, false, false, false, false, false, false, false, false] rfl rfl (any_of HT_.out (by kernel_rfl)) (fun _ _ _ h => h) (Or.inl ⟨by rfl, ?_⟩) ?_ ?_
      rotate_left
      · intro w'
        go_simp
        with_reducible rfl
      rotate_left
      · simp only [Act.put, List.setIfInBounds_toArray, List.set_cons_zero, List.set_cons_succ, i64_w, i32_w]
        rfl
      refine pure_ (i := 8) (N := some 19) (v := ?_) (a' := ?_) #[true, true, true, true, true, true, true, true, true, false, false, false, false, false, false, false] rfl rfl (any_of HT_.out (by kernel_rfl)) (fun _ _ _ h => h) (Or.inl ⟨by rfl, ?_⟩) ?_ ?_
      rotate_left
      · intro w'
        go_simp
        rw [HW0.out]
      rotate_left
      · simp only [Act.put, List.setIfInBounds_toArray, List.set_cons_zero, List.set_cons_succ, i64_w, i32_w]
        rfl
      refine pure_ (i := 9) (N := some 20) (v := ?_) (a' := ?_) #[true, true, true, true, true, true, true, true, true, true, false, false, false, false, false, false] rfl rfl (any_of HT_.out (by kernel_rfl)) (fun _ _ _ h => h) (Or.inl ⟨by rfl, ?_⟩) ?_ ?_
      rotate_left
      · intro w'
        go_simp
        rw [HW1.out]
      rotate_left
      · simp only [Act.put, List.setIfInBounds_toArray, List.set_cons_zero, List.set_cons_succ, i64_w, i32_w]
        rfl
      refine pure_ (i := 10) (N := some 21) (v := ?_) (a' := ?_) #[true, true, true, true, true, true, true, true, true, true, true, false, false, false, false, false] rfl rfl (any_of HT_.out (by kernel_rfl)) (fun _ _ _ h => h) (Or.inl ⟨by rfl, ?_⟩) ?_ ?_
      rotate_left
      · intro w'
        go_simp
        with_reducible rfl
      rotate_left
      · simp only [Act.put, List.setIfInBounds_toArray, List.set_cons_zero, List.set_cons_succ, i64_w, i32_w]
        rfl
      refine take_ (i := 11) (N := some 22) (v := ?_) (a' := ?_) #[true, true, true, true, true, true, true, true, true, true, true, true, false, false, false, false] rfl rfl (take_ofW HT_.out HW_.out (by kernel_rfl)) (fun _ _ _ h => h) (Or.inl ⟨by rfl, ?_⟩) hHeld ?_ ?_
      rotate_left
      · intro w' hSt
        refine (exec_load (p := .pointer (some (ad.add (q1 * 32)))) rfl rfl (HX1.out w' hSt)).trans ?_
        with_reducible rfl
      rotate_left
      · simp only [Act.put, List.setIfInBounds_toArray, List.set_cons_zero, List.set_cons_succ, i64_w, i32_w]
        rfl
      refine one_ (i := 12) (N := some 23) #[true, true, true, true, true, true, true, true, true, true, true, true, true, false, false, false] rfl rfl (one_of HT_.out (by kernel_rfl)) (by decide) (fun K hK => ?_)
      refine goes_ Tryd.func66 (by kernel_rfl) rfl #[vd a, vd b] (by rfl) rfl rfl (by (try simp only [List.map_toArray, List.map_cons, List.map_nil]); first | done | rfl) ?_
      refine (pair_calls a b _ HA.out.1 HBB.out.1 HA.out.2 HBB.out.2 (HTAB.out.below hHeld)).mono ?_
      rintro e w3 ⟨rfl, hb⟩
      refine ⟨_, rfl, ?_⟩
      have hS1 := below_step hHeld hb
      have HO3 := Aside0.mk (Kd.R_below HOd.out hb)
      have HDG := Aside0.mk (show (pairI a b).length = 32 from shaI_len _)
      clear hb
      refine hK.out _ _ (by exact hS1) (fun hHeld => ?_)
      clear hK K
      refine norm_ (a' := ?_) ?_ ?_
      rotate_left
      · first
        | (show Act.put _ (some 23) _ = _; simp only [Act.put, List.setIfInBounds_toArray, List.set_cons_zero, List.set_cons_succ, i64_w, i32_w]; rfl)
        | rfl
      refine one_ (i := 13) (N := some 24) #[true, true, true, true, true, true, true, true, true, true, true, true, true, true, false, false] rfl rfl (one_of HT_.out (by kernel_rfl)) (by decide) (fun K hK => ?_)
      refine lit_step (by rfl) (.tmp 23) rfl HDG.out rfl ?_
      have HHA := Aside0.mk hHeld
      have hS1 := hHeld.alloc hHeld.size (.cells (cb (pairI a b)) 31)
      refine hK.out _ _ (by exact hS1) (fun hHeld => ?_)
      clear hK K
      refine norm_ (a' := ?_) ?_ ?_
      rotate_left
      · first
        | (show Act.put _ (some 24) _ = _; simp only [Act.put, List.setIfInBounds_toArray, List.set_cons_zero, List.set_cons_succ, i64_w, i32_w]; rfl)
        | rfl
      refine one_ (i := 14) (N := some 25) #[true, true, true, true, true, true, true, true, true, true, true, true, true, true, true, false] rfl rfl (one_of HT_.out (by kernel_rfl)) (by decide) (fun K hK => ?_)
      refine Kd.R_append_step KD (w0 := w) w.heap.size (by rfl) (.tmp 11) (.tmp 24) 41 31 (.agg #[.int .u8 0, .int .u8 0, .int .u8 0, .int .u8 0, .int .u8 0, .int .u8 0, .int .u8 0, .int .u8 0, .int .u8 0, .int .u8 0, .int .u8 0, .int .u8 0, .int .u8 0, .int .u8 0, .int .u8 0, .int .u8 0, .int .u8 0, .int .u8 0, .int .u8 0, .int .u8 0, .int .u8 0, .int .u8 0, .int .u8 0, .int .u8 0, .int .u8 0, .int .u8 0, .int .u8 0, .int .u8 0, .int .u8 0, .int .u8 0, .int .u8 0, .int .u8 0]) 32 rfl Tryd.underlying41 infoDG rfl (by decide) (by omega) _ (upN rows k) (pairI a b) ((pairI a b).map (Value.int .u8)) (fun _ => True) (fun _ => False) rfl rfl (KD_of HDG.out) (fun _ h => h.elim) (fun _ _ => trivial) HO3.out HHA.out HHA.out.size ?aL ?_
      case aL => rw [HLP.out]; omega
      intro v2 w6 ho hb2 _ _
      rw [HS.out] at ho
      have HO2 := Aside0.mk ho
      clear ho
      have hS1 := hb2
      clear hb2
      refine hK.out _ _ (by exact hS1) (fun hHeld => ?_)
      clear hK K
      refine norm_ (a' := ?_) ?_ ?_
      rotate_left
      · first
        | (show Act.put _ (some 25) _ = _; simp only [Act.put, List.setIfInBounds_toArray, List.set_cons_zero, List.set_cons_succ, i64_w, i32_w]; rfl)
        | rfl
      refine pure_ (i := 15) (N := some 3) (v := ?_) (a' := ?_) #[true, true, true, true, true, true, true, true, true, true, true, true, true, true, true, true] rfl rfl (any_of HT_.out (by kernel_rfl)) (fun _ _ _ h => h) (Or.inl ⟨by rfl, ?_⟩) ?_ ?_
      rotate_left
      · intro w'
        go_simp
        with_reducible rfl
      rotate_left
      · simp only [Act.put, List.setIfInBounds_toArray, List.set_cons_zero, List.set_cons_succ, i64_w, i32_w]
        rfl
      refine done_ (done_of HT_.out (by kernel_rfl)) ?_
      have HB4 := Aside0.mk hHeld
      clear hS0 hHeld HT_ HW_
      go_wp2
      go_roundw
      case rel => exact ⟨k + 1, by omega, by go_num, HO2, HB4⟩
      case measure => simp [intOf]; omega
    · obtain rfl : k = rows.length / 2 := by omega
      clear hlt hk
      have HLP := Aside0.mk (upN_len rows (rows.length / 2))
      by_cases ho : rows.length % 2 = 1
      · have e1 : (((rows.length : Nat) : Int) % 2 == 1) = true := by simp; omega
        have HV := Aside0.mk (show upN rows (rows.length / 2) ++ [rows.getD (rows.length - 1) []] = upL rows by unfold upL; rw [if_pos ho])
        obtain ⟨q, hq⟩ : ∃ q, q = rows.length - 1 := ⟨_, rfl⟩
        have hqi : (rows.length : Int) - 1 = (q : Int) := by omega
        have hql : q < rows.length := by omega
        rw [← hq] at HV
        obtain ⟨ad, rfl, _, _⟩ := row_ld HR.out q hql
        have HDG := Aside0.mk (isRow_getD HY.out q hql).1
        generalize hD : rows.getD q [] = D at HV HDG
        have HX := Aside0.mk (row_load' HR.out HB.out q hql hD)
        have hlen2 : rows.length / 2 ≤ 10000000 := by omega
        clear hD hq ho
        go_wp2_with (first | ((with_reducible refine gate_dst (N := 37) rfl ?_); refine wpList_load_at rfl (ty := 31) (x := .tmp 36) (p := .pointer (some (ad.add (q * 32)))) (v := vd D) rfl rfl HX.out ?_) | ((with_reducible refine gate_dst (N := 38) rfl ?_); refine wpList_lit rfl (.tmp 37) rfl HDG.out rfl ?_) | ((with_reducible refine gate_builtin (b := .append) (xs := #[.tmp 31, .tmp 38]) rfl ?_); at_builtin; refine Kd.R_append KD (w0 := w) w.heap.size rfl (.tmp 31) (.tmp 38) 41 31 (.agg #[.int .u8 0, .int .u8 0, .int .u8 0, .int .u8 0, .int .u8 0, .int .u8 0, .int .u8 0, .int .u8 0, .int .u8 0, .int .u8 0, .int .u8 0, .int .u8 0, .int .u8 0, .int .u8 0, .int .u8 0, .int .u8 0, .int .u8 0, .int .u8 0, .int .u8 0, .int .u8 0, .int .u8 0, .int .u8 0, .int .u8 0, .int .u8 0, .int .u8 0, .int .u8 0, .int .u8 0, .int .u8 0, .int .u8 0, .int .u8 0, .int .u8 0, .int .u8 0]) 32 rfl Tryd.underlying41 infoDG rfl (by decide) (by omega) _ (upN rows (rows.length / 2)) D (D.map (Value.int .u8)) (fun _ => True) (fun _ => False) rfl rfl (KD_of HDG.out) (fun _ h => h.elim) (fun _ _ => trivial) HO.out HB.out HB.out.size ?aL ?_; (case aL => rw [HLP.out]; omega); intro v2 w6 ho hb2 _ _; rw [HV.out] at ho; have HO2 := Aside0.mk ho; have HB2 := Aside0.mk hb2; clear ho hb2))
        go_ret
        exact ⟨_, rfl, HO2.out, HB2.out⟩
      · have e1 : (((rows.length : Nat) : Int) % 2 == 1) = false := by simp; omega
        have HV := Aside0.mk (show upN rows (rows.length / 2) = upL rows by unfold upL; rw [if_neg ho])
        rw [HV.out] at HO
        clear ho
        go_wp2
        go_ret
        exact ⟨_, rfl, HO.out, HB.out⟩
end Go.Proofs.YtoiblfmlahedlaaDoor.Sha
end
section
namespace Go.Proofs.YtoiblfmlahedlaaDoor.Sha
open Go.RowKit Go.Proofs.YtoiblfmlahedlaaDoorW.PrintWords Go.Proofs.YtoiblfmlahedlaaDoorW.PrintLast Go.Proofs.YtoiblfmlahedlaaDoorW.PrintMore
set_option linter.unusedVariables false
set_option linter.unusedSimpArgs false
set_option maxRecDepth 100000
def climb (rows : List (List Int)) : List (List Int) := if h : rows.length ≤ 1 then rows else climb (upL rows)
termination_by rows.length
decreasing_by rw [upL_len]; omega
theorem climb_end {rows : List (List Int)} (h : rows.length ≤ 1) : climb rows = rows := by rw [climb, dif_pos h]
theorem climb_up {rows : List (List Int)} (h : ¬ rows.length ≤ 1) : climb rows = climb (upL rows) := by conv => lhs; rw [climb, dif_neg h]
def rootOf (l : List Int) : List Int := rootI l.length ((climb (leavesL l)).getD 0 [])
theorem count_pos (n : Nat) : 1 ≤ countN n := by unfold countN; omega
theorem leavesL_len (l : List Int) : (leavesL l).length = countN l.length := leavesP_len _ _
set_option maxHeartbeats 1600000 in
set_option maxRecDepth 100000 in
theorem Root_calls (A : Option Addr) (c : Nat) (l : List Int) (w : World) (hr : B.C w A l.length l) (hc : l.length ≤ c) (hb : bytes l) (hl : l.length < 10000000) (hT : Tab w) :
    Calls Tryd.prog 44 #[.slice A l.length c] w fun e w' => e = .returned (vd (rootOf l)) ∧ Below w.heap.size w w' := by
  have HR := Aside0.mk hr
  have HY := Aside0.mk hb
  have HTAB := Aside0.mk hT
  have hcp := count_pos l.length
  have hcm : countN l.length ≤ 1000000 := by unfold countN; omega
  have hll := leavesL_len l
  have HLD := Aside0.mk (leaves_D l)
  have HRO := Aside0.mk (show rootOf l = rootI l.length ((climb (leavesL l)).getD 0 []) from rfl)
  clear hr hb hT
  go_enter Tryd.func44, Tryd.ntmps44
  go_upto_region 1 with (fail)
  obtain ⟨w1, hw1, HB1, HD, HZ1⟩ := dg_start w
  rw [hw1]
  clear hw1
  go_wp2_with fail
  refine (leaves_calls A c l _ (Kd.C_below HR.out HB1.out) hc HY.out hl (HTAB.out.below HB1.out)).mono ?_
  rintro e w2 ⟨v, rfl, ho, hb⟩
  obtain ⟨A3, c3, rfl, hc3, hr3⟩ := Kd.R_reads ho
  have HR3 := Aside0.mk hr3
  have HB2 := Aside0.mk hb
  clear ho hb hr3
  generalize leavesL l = rows0 at *
  have h01 : 1 ≤ rows0.length := by omega
  have h06 : rows0.length ≤ 1000000 := by omega
  clear hll hcp hcm
  go_wp2
  go_loopw [3] (fun v wr => ∃ (rows : List (List Int)) (A3 : Option Addr) (c3 : Nat), v = .slice A3 rows.length c3 ∧ rows.length ≤ c3 ∧ Aside0 (KD.C wr A3 rows.length rows) ∧ Aside0 (isRow rows) ∧ 1 ≤ rows.length ∧ rows.length ≤ 1000000 ∧ Aside0 (climb rows = climb rows0) ∧ Aside0 (Below w1.heap.size w1 wr)) (fun v _ => slLen v)
  case atStart => exact ⟨rows0, A3, c3, rfl, hc3, HR3, ⟨HLD.out⟩, h01, h06, ⟨rfl⟩, HB2⟩
  case round =>
    clear HR3 HB2 HLD hc3 h01 h06
    obtain ⟨rows, A3, c3, rfl, hc3, HR3, HI, h1, h6, HC, HB⟩ := hrel
    by_cases hlt : 1 < rows.length
    · have hul := upL_len rows
      have hu2 : (upL rows).length < rows.length := by omega
      have hu1 : 1 ≤ (upL rows).length := by omega
      have HCU := Aside0.mk (climb_up (rows := rows) (by omega))
      have HIU := Aside0.mk (upL_row HI.out)
      clear hul
      go_wp2_with fail
      refine (up_calls A3 c3 rows _ HR3.out hc3 HI.out (by omega) (HTAB.out.below (below_step HB1.out HB.out))).mono ?_
      rintro e w3 ⟨v, rfl, ho, hb⟩
      obtain ⟨A4, c4, rfl, hc4, hr4⟩ := Kd.R_reads ho
      have HR4 := Aside0.mk hr4
      have HB3 := Aside0.mk (below_step HB.out hb)
      clear ho hb hr4
      generalize upL rows = rows2 at *
      go_wp2
      go_roundw
      case rel => exact ⟨rows2, A4, c4, rfl, hc4, HR4, HIU, hu1, by omega, ⟨by rw [← HCU.out]; exact HC.out⟩, HB3⟩
      case measure => exact hu2
    · have hl1 : rows.length = 1 := by omega
      obtain ⟨ad, rfl, _, _⟩ := row_ld HR3.out 0 (by omega)
      have HE := Aside0.mk (climb_end (rows := rows) (by omega))
      have HDG := Aside0.mk (isRow_getD HI.out 0 (by omega))
      have hx := row_load' HR3.out (Below.refl _ _) 0 (by omega) rfl
      rw [Nat.zero_mul, Addr.add_zero'] at hx
      have HX := Aside0.mk hx
      have HFR := Aside0.mk (show rootOf l = rootI l.length (rows.getD 0 []) by rw [HRO.out, ← HC.out, HE.out])
      generalize rows.getD 0 [] = D at HDG HX HFR
      have HSL := Aside0.mk (show (rootI l.length D).length = 32 from shaI_len _)
      clear hx hlt
      go_wp2_with (first | ((with_reducible refine gate_dst (N := 15) rfl ?_); refine wpList_load_at rfl (ty := 31) (x := .tmp 14) (p := .pointer (some ad)) (v := vd D) rfl rfl HX.out ?_))
      refine (root_calls l.length D _ (by omega) HDG.out.1 HDG.out.2 (HTAB.out.below (below_step HB1.out HB.out))).mono ?_
      rintro e w3 ⟨rfl, hb⟩
      have HD2 := Aside0.mk (heap_keep (heap_keep HD.out HB.out) hb)
      have HB3 := Aside0.mk (below_step (below_step HB1.out HB.out) hb)
      clear hb
      rw [← HFR.out]
      rw [← HFR.out] at HSL
      generalize hR : rootOf l = R at HSL ⊢
      have HRR := Aside0.mk hR
      clear hR
      go_wp2_with (first | (refine wpList_store_row rfl 31 (.tmp 2) (.tmp 16) rfl w.heap.size (cb R) rfl rfl 31 _ HD2.out (infoDg _ HSL.out) (by rw [cb_size, cb_size, HSL.out]; simp) (cb_one _) ?_))
      (try simp only [Exit.inBlock, Exit.then])
      exact dg_ret rfl rfl HSL.out (setRow_heap _ _ _ _ _ _ HD2.out) rfl ⟨by rw [HRR.out], below_setRow HB3.out (Nat.le_refl _) _⟩
end Go.Proofs.YtoiblfmlahedlaaDoor.Sha
end
section
namespace Go.Proofs.YtoiblfmlahedlaaDoor.Sha
open Go.RowKit Go.Proofs.YtoiblfmlahedlaaDoorW.PrintWords Go.Proofs.YtoiblfmlahedlaaDoorW.PrintLast Go.Proofs.YtoiblfmlahedlaaDoorW.PrintMore
set_option linter.unusedVariables false
set_option linter.unusedSimpArgs false
set_option maxRecDepth 100000
def oth (i : Nat) : Nat := if i % 2 = 0 then i + 1 else i - 1
theorem ofInt_i64 (a : Nat) (ha : a < 9223372036854775808) : (BitVec.ofInt 64 (a : Int)).toNat = a := by
  rw [BitVec.ofInt_natCast, BitVec.toNat_ofNat]; exact Nat.mod_eq_of_lt (by omega)
theorem xor_one (i : Nat) : i ^^^ 1 = oth i := by
  have h1 : (i ^^^ 1) / 2 = i / 2 := by rw [Nat.xor_div_two]; simp
  have h2 : (i ^^^ 1) % 2 = 1 ↔ ¬ (i % 2 = 1 ↔ 1 % 2 = 1) := Nat.xor_mod_two_eq_one
  unfold oth
  split <;> omega
theorem xor1 (i : Nat) (h : i < 4611686018427387904) : bits .xor .i64 (i : Int) 1 = ((oth i : Nat) : Int) := by
  have hx : oth i ≤ i + 1 := by unfold oth; split <;> omega
  show IntKind.i64.wrap ((BitVec.ofInt 64 (i : Int) ^^^ BitVec.ofInt 64 ((1 : Nat) : Int)).toNat : Int) = _
  rw [BitVec.toNat_xor, ofInt_i64 i (by omega), ofInt_i64 1 (by omega), xor_one, IntKind.wrap_i64]
  omega
def proofP (rows : List (List Int)) (i : Nat) : List (List Int) :=
  if h : rows.length ≤ 1 then [] else (if oth i < rows.length then [rows.getD (oth i) []] else []) ++ proofP (upL rows) (i / 2)
termination_by rows.length
decreasing_by rw [upL_len]; omega
theorem proofP_end {rows : List (List Int)} (i : Nat) (h : rows.length ≤ 1) : proofP rows i = [] := by rw [proofP, dif_pos h]
theorem proofP_up {rows : List (List Int)} (i : Nat) (h : ¬ rows.length ≤ 1) : proofP rows i = (if oth i < rows.length then [rows.getD (oth i) []] else []) ++ proofP (upL rows) (i / 2) := by conv => lhs; rw [proofP, dif_neg h]
def proofOf (l : List Int) (i : Nat) : List (List Int) := proofP (leavesL l) i
end Go.Proofs.YtoiblfmlahedlaaDoor.Sha
end
