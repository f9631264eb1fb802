/- What calls of Go functions of this seat come to, as the rows need it: under the conditions that each theorem names. -/
import Derived.Test.YtekhejpkmlhllaaFormsPure
import Derived.Test.YtekhejpkmlhllaaReads
import Derived.Test.YtekhejpkmlhllaaSwap
import Derived.Laws.OwnMore
namespace Go.Proofs.Ytekhejpkmlhllaa.Forms
open Go.RowKit Go.Proofs.YtekhejpkmlhllaaW.PrintWords Go.Proofs.YtekhejpkmlhllaaW.PrintLast Go.Proofs.YtekhejpkmlhllaaW.PrintMore
set_option linter.unusedVariables false
set_option linter.unusedSimpArgs false
open Go.Proofs.Ytekhejpkmlhllaa.MWireForms Go.Proofs.Ytekhejpkmlhllaa.Hand Go.Proofs.Ytekhejpkmlhllaa.FormsP
def sizeL (l : List (List Int)) : Nat := l.length + (l.map List.length).sum
theorem ev_size (l : List (List Int)) (hl : sizeL l < 9223372036854775807) : Ev (fun k => murmurationlaw03_size.f k l) (sizeL l : Int) := by
  have key : ∀ (d i : Nat), i + d = l.length → ∀ s : Nat, s = l.length + ((l.take i).map List.length).sum → Ev (fun k => murmurationlaw03_size.l0 k l (s : Int) (l.length : Int) (i : Int)) (sizeL l : Int) := by
    intro d
    induction d with
    | zero =>
      intro i hi s hs
      obtain rfl : i = l.length := by omega
      rw [List.take_length] at hs
      subst hs
      refine Ev.step (f := fun _ => some _) (fun k => ?_) (Ev.now _)
      simp only [murmurationlaw03_size.l0]
      rw [if_neg (by omega)]
      rfl
    | succ d ih =>
      intro i hi s hs
      have hlt : i < l.length := by omega
      have hsum : ((l.take (i + 1)).map List.length).sum = ((l.take i).map List.length).sum + (rd_L1 l i).length := by
        rw [List.take_succ_eq_append_getElem hlt, List.map_append, List.sum_append]
        unfold rd_L1
        rw [Int.toNat_natCast, List.getD_eq_getElem?_getD, List.getElem?_eq_getElem hlt]
        simp only [List.map_cons, List.map_nil, List.sum_cons, List.sum_nil, Option.getD_some, Nat.add_zero]
      have hle : ((l.take (i + 1)).map List.length).sum ≤ (l.map List.length).sum := by
        conv => rhs; rw [← List.take_append_drop (i + 1) l, List.map_append, List.sum_append]
        omega
      refine Ev.step (f := fun k => murmurationlaw03_size.l0 k l ((s + (rd_L1 l i).length : Nat) : Int) (l.length : Int) ((i + 1 : Nat) : Int)) (fun k => ?_) (ih (i + 1) (by omega) _ (by rw [hs, hsum]; omega))
      simp only [murmurationlaw03_size.l0]
      unfold sizeL at hl
      rw [if_pos (by omega), if_pos (by omega), if_pos (by omega)]
      congr 1
      · unfold wrap64; omega
      · unfold wrap64; omega
  have := key l.length 0 (by omega) l.length (by simp)
  exact this

theorem le_sum (l : List Nat) (n : Nat) (h : n ∈ l) : n ≤ l.sum := by
  induction l with
  | nil => cases h
  | cons m l ih =>
    rw [List.sum_cons]
    rcases List.mem_cons.1 h with rfl | h
    · omega
    · have := ih h
      omega
theorem size_mem {l : List (List Int)} {x : List Int} (h : x ∈ l) : x.length ≤ sizeL l := by
  unfold sizeL
  have := le_sum (l.map List.length) x.length (List.mem_map.2 ⟨x, h, rfl⟩)
  omega
theorem listL_len (l : List (List Int)) (h : sizeL l ≤ 2000) : (listL l).length ≤ 22000 := by
  have key : ∀ l : List (List Int), (∀ x ∈ l, x.length < 18446744073709551616) → ((l.map rowL).flatten).length ≤ 9 * l.length + (l.map List.length).sum := by
    intro l
    induction l with
    | nil => intro _; simp
    | cons x l ih =>
      intro hx
      have h1 := ih (fun y hy => hx y (by simp [hy]))
      have h2 := formL_len x.length (hx x (by simp))
      simp only [List.map_cons, List.flatten_cons, List.length_append, List.sum_cons, List.length_cons, rowL]
      omega
  have h1 := key l (fun x hx => by have := size_mem hx; omega)
  unfold sizeL at h
  have h2 := formL_len l.length (by omega)
  simp only [listL, List.length_append]
  omega

def forms_T9 : Bool × List (List Nat × List Nat) := (true, [([], []), ([], []), ([1], [1]), ([2], [2]), ([0, 3], [0, 3]), ([], []), ([], []), ([6, 2], [6]), ([7], [7]), ([5, 8], [5, 8]), ([], []), ([], []), ([11, 7], [11]), ([12], [12]), ([10, 13], [10, 13]), ([4, 9, 14], [4, 9, 14]), ([], []), ([16, 15, 12, 0, 1, 2, 3, 4, 5, 6, 7, 8, 9, 10, 11, 12, 13, 14, 15, 16], [15, 16])])
def forms_B9 : List Nat := [0, 0, 2, 6, 15, 0, 0, 70, 198, 486, 0, 0, 2246, 6342, 15558, 32767, 0, 131071]
theorem forms_tab9 : rtab .any (opsOf Try.f4 9) = forms_T9 := by kernel_rfl
theorem forms_bits9 : waitsOk forms_T9.2 forms_B9 = true := by kernel_rfl
def forms_T13 : Bool × List (List Nat × List Nat) := (true, [([], []), ([0], [0]), ([1], [1]), ([2], [2]), ([], []), ([4], [4]), ([5], [5]), ([3, 6], [3, 6])])
def forms_B13 : List Nat := [0, 1, 3, 7, 0, 16, 48, 127]
theorem forms_tab13 : rtab .any (opsOf Try.f4 13) = forms_T13 := by kernel_rfl
theorem forms_bits13 : waitsOk forms_T13.2 forms_B13 = true := by kernel_rfl
theorem drawn_below {w w' : World} (h : Drawn0 w w') : Below w.heap.size w w' := by
  obtain ⟨n, rfl⟩ := h
  exact pw_below_drewN (Below.refl _ _) n
/-- Bytes behind a row of the call's own that has room for them: the value is told. -/
theorem room_append {w : World} {base g cap : Nat} {A : Option Addr} {c : Nat} {l : List Int} (hown : w.ownsRow base 5 1 (.slice (some ⟨g, 0, none⟩) 0 cap) 0 []) (hr : B.C w A l.length l) (hroom : l.length ≤ cap) :
    ∃ w', (Builtin.append_ #[23, 23] 23 #[.slice (some ⟨g, 0, none⟩) 0 cap, .slice A l.length c]).run Try.prog w = .ok (.slice (some ⟨g, 0, none⟩) l.length cap) w' ∧ w'.ownsRow base 5 1 (.slice (some ⟨g, 0, none⟩) l.length cap) l.length (l.map (Value.int .u8)) ∧ w.grownBy w' (some g) := by
  obtain ⟨i0, hi, hz0, hz1, hz2⟩ := info_parts Hand.info5
  have ht := Try.underlying23
  rcases Nat.eq_zero_or_pos l.length with h0 | h0
  · obtain rfl := List.length_eq_zero_iff.1 h0
    rcases A with _ | ad
    · refine ⟨w, ?_, by simpa using hown, World.grownBy.refl w _⟩
      simp [Builtin.append_, run_underlying ht, sizeOf, typeInfo, hi, Builtin.lenOf, Builtin.firstCells, storeCells]
    · have := run_append_fits (P := Try.prog) w base 23 23 5 i0 1 ht hi hz1 g 0 cap [] hown ad 0 c [] rfl (by simp) (by simp) (by omega)
      simpa using this
  · obtain ⟨ad, hA, _⟩ := getB hr 0 h0
    subst hA
    have := run_append_fits (P := Try.prog) w base 23 23 5 i0 1 ht hi hz1 g 0 cap [] hown ad l.length c (l.map (Value.int .u8)) (by simp) (fun j u hu => ?_) (by intro u hu; obtain ⟨x, _, rfl⟩ := List.mem_map.1 hu; rfl) (by omega)
    · simpa using this
    · have hj : j < l.length := by have := (List.getElem?_eq_some_iff.1 hu).1; simpa using this
      obtain ⟨ad', e, hx⟩ := getB hr j hj
      injection e with e
      subst e
      rw [hx]
      rw [List.getElem?_map, List.getElem?_eq_getElem hj] at hu
      unfold rd
      rw [Int.toNat_natCast, List.getD_eq_getElem?_getD, List.getElem?_eq_getElem hj]
      exact hu
theorem str_app (a b : List Int) : strOfNums (a ++ b) = strOfNums a ++ strOfNums b := by
  apply ByteArray.ext
  apply Array.ext'
  simp [strOfNums, ByteArray.data_append]
theorem heap_keep {w w' : World} {h : Nat} {o : Obj} (hh : w.heap[h]? = some o) (hb : Below w.heap.size w w') : w'.heap[h]? = some o := (hb.block h (Array.getElem?_eq_some_iff.1 hh).1).trans hh
/-- A row of bytes in a block of its own, between two places of the heap. -/
def Rw (w : World) (A : Option Addr) (b : List Int) (lo hi : Nat) : Prop := b.length ≤ 9223372036854775807 ∧ (0 < b.length → ∃ (q : Nat) (cur : Array Value), A = some ⟨q, 0, none⟩ ∧ lo ≤ q ∧ q < hi ∧ w.heap[q]? = some (.cells cur 5 (0, 0)) ∧ ∀ (j : Nat) (x : Int), b[j]? = some x → cur[j]? = some (.int .u8 x))
theorem Rw.C {w : World} {A : Option Addr} {b : List Int} {lo hi : Nat} (h : Rw w A b lo hi) : B.C w A b.length b := by
  rcases Nat.eq_zero_or_pos b.length with h0 | h0
  · exact ⟨rfl, h.1, fun hp => absurd hp (by omega)⟩
  · obtain ⟨q, cur, rfl, _, _, hc, hv⟩ := h.2 h0
    exact C_block .u8 hc b (fun j x hj => by rw [Nat.zero_add]; exact hv j x hj) h.1
theorem Rw.below {w w' : World} {A : Option Addr} {b : List Int} {lo hi : Nat} (h : Rw w A b lo hi) (hb : Below w.heap.size w w') : Rw w' A b lo hi :=
  ⟨h.1, fun hp => by obtain ⟨q, cur, e, e1, e2, hc, hv⟩ := h.2 hp; exact ⟨q, cur, e, e1, e2, heap_keep hc hb, hv⟩⟩
theorem Rw.far {w : World} {A : Option Addr} {b : List Int} {lo hi : Nat} (h : Rw w A b lo hi) (q j : Nat) (v : Value) (hq : q < lo ∨ hi ≤ q) : Rw (w.setCell ⟨q, j, none⟩ v) A b lo hi :=
  ⟨h.1, fun hp => by obtain ⟨g, cur, e, e1, e2, hc, hv⟩ := h.2 hp; exact ⟨g, cur, e, e1, e2, blk_far hc (p := ⟨q, j, none⟩) (show g ≠ q by omega) _, hv⟩⟩
theorem Rw.of {w : World} {base : Nat} {ok : Nat → Prop} {A : Option Addr} {n c : Nat} {b : List Int} (h : Kd.R B 5 w base ok (.slice A n c) b) : Rw w A b base w.heap.size := by
  obtain ⟨rfl, _, hC⟩ := Kd.R_reads' h
  refine ⟨hC.2.1, fun hp => ?_⟩
  obtain ⟨g, cap, e, hb, _, cells, hc⟩ := Kd.R_form h hp
  injection e with e1 e2 e3
  subst e1
  refine ⟨g, cells, rfl, hb, (Array.getElem?_eq_some_iff.1 hc).1, hc, fun j x hj => ?_⟩
  obtain ⟨ad, e, hx⟩ := getB hC j (List.getElem?_eq_some_iff.1 hj).1
  injection e with e
  subst e
  rw [show (Addr.mk g 0 none).add j = ⟨g, j, none⟩ by simp [Addr.add_lit]] at hx
  have := (Reads.cell_of hc).1 hx
  rw [this]
  unfold rd
  rw [Int.toNat_natCast, List.getD_eq_getElem?_getD, hj]
  rfl
/-- The row being written over: whatever bytes. -/
def Cw (w : World) (A : Option Addr) (n lo hi : Nat) : Prop := 0 < n → ∃ q, A = some ⟨q, 0, none⟩ ∧ lo ≤ q ∧ q < hi ∧ Reads.Blk w q n
theorem Rw.cw {w : World} {A : Option Addr} {b : List Int} {lo hi : Nat} (h : Rw w A b lo hi) : Cw w A b.length lo hi := fun hp => by
  obtain ⟨q, cur, e, e1, e2, hc, hv⟩ := h.2 hp
  exact ⟨q, e, e1, e2, cur, hc, fun j hj => ⟨_, hv j _ (List.getElem?_eq_getElem hj)⟩⟩
theorem blk_ne {w : World} {q n t : Nat} {cur : Array Value} {ty : TypeId} (h : Reads.Blk w q n) (ht : w.heap[t]? = some (.cells cur ty (0, 0))) (hty : ty ≠ 5) : t ≠ q := by
  rintro rfl
  obtain ⟨c, h1, _⟩ := h
  rw [ht] at h1
  injection h1 with h1
  injection h1 with h1 h2
  exact hty h2
section
variable {P : Program} {ops : Array Oper} {rest : List Oper} {o : Oper} {a : Act} {Q : Exit → Act → World → Prop} {w : World}
/-- Stops go_wp2 here: an arm's last words, to see what it meets. -/
def Halt (p : Prop) : Prop := p
theorem halt_ (h : Halt (wpList P ops Q (o :: rest) a w)) : wpList P ops Q (o :: rest) a w := h
theorem plain_append {W w1 : World} {v : Value} (hgd : o.guard = none) (s x : Operand) (t : TypeId) (ho : o.op = .call { callee := .builtin .append, args := #[s, x], argTypes := #[t, t] }) (sv xv : Value) (hs : a.eval s = sv) (hx : a.eval x = xv)
    (hrun : (Builtin.append_ #[t, t] o.type #[sv, xv]).run P W = .ok v w1) (h : wpList P ops Q rest (a.put o.dst v) w1) : wpList P ops Q (o :: rest) a W := by
  refine wpList_plain hgd fun K hK => ?_
  unfold Oper.wp execOp
  simp only [ho, resolve, invoke, builtin, Sem.run_bind, Sem.run_pure, Result.andThen_ok, List.map_toArray, List.map_cons, List.map_nil, hs, hx, hrun]
  exact hK _ _ h
end
set_option maxHeartbeats 3200000 in
set_option maxRecDepth 100000 in
theorem wireForms_calls (A0 : Option Addr) (c0 : Nat) (l0 : List Int) (n : Nat) (A2 : Option Addr) (c2 : Nat) (l2 : List Int) (A3 : Option Addr) (c3 : Nat) (l3 : List (List Int)) (w : World)
    (hr0 : B.C w A0 l0.length l0) (hc0 : l0.length ≤ c0) (hn : n < 18446744073709551616) (hr2 : B.C w A2 l2.length l2) (hc2 : l2.length ≤ c2) (hr3 : Kd.C (Kd.slice 5 B) w A3 l3.length l3) (hc3 : l3.length ≤ c3)
    (hT : l0.length + l2.length + sizeL l3 ≤ 9000000) :
    Calls Try.prog 4 #[.slice A0 l0.length c0, .int .u64 n, .slice A2 l2.length c2, .slice A3 l3.length c3] w fun e w' => e = .returned (.bool true) ∧ Below w.heap.size w w' := by
  have HR := Aside0.mk hr0
  have HR2 := Aside0.mk hr2
  have HR3 := Aside0.mk hr3
  have hlen : l0.length ≤ 9223372036854775807 := hr0.2.1
  have hlen2 : l2.length ≤ 9223372036854775807 := hr2.2.1
  clear hr0 hr2 hr3
  obtain ⟨K1, G1⟩ := (ev_size l3 (by omega)).rounds
  have HW1 := Aside0.mk (show wrap64 ((l0.length : Int) + l2.length) = ((l0.length + l2.length : Nat) : Int) by unfold wrap64; omega)
  have HW2 := Aside0.mk (show wrap64 (((l0.length + l2.length : Nat) : Int) + (sizeL l3 : Nat)) = ((l0.length + l2.length + sizeL l3 : Nat) : Int) by unfold wrap64; omega)
  generalize hT' : l0.length + l2.length + sizeL l3 = T at hT HW2
  by_cases hbig : 2000 < T
  · have hb1 : decide ((T : Int) > 2000) = true := decide_eq_true (by omega)
    have hb2 : decide (wrap64 (wrap64 ((l0.length : Int) + l2.length) + (sizeL l3 : Nat)) > 2000) = true := by rw [HW1.out, HW2.out]; exact hb1
    clear hT' hT hb1
    go_enter Try.func4, Try.ntmps4
    go_wp2_with fail
    refine (murmurationlaw03_size.calls K1 _ _ l3 _ _ HR3.out hc3 G1).mono ?_
    rintro e w1 ⟨rfl, hd⟩
    have HB1 := Aside0.mk (drawn_below hd)
    go_wp2_with fail
    refine (known_calls _).mono ?_
    rintro e w' ⟨rfl, hb⟩
    go_wp2
    go_ret
    exact ⟨rfl, below_step HB1.out hb⟩
  have hb1 : decide ((T : Int) > 2000) = false := decide_eq_false (by omega)
  have hl0 : l0.length ≤ 2000 := by omega
  have hl1 : (l0.length + 40) * 1 ≤ 140737488355328 := by omega
  have HL2 := Aside0.mk (show l2.length ≤ 2000 by omega)
  have HL3 := Aside0.mk (show sizeL l3 ≤ 2000 by omega)
  have HW3 := Aside0.mk (show ((l0.length : Int) + 40) = ((l0.length + 40 : Nat) : Int) by omega)
  have hb2 : decide (wrap64 (wrap64 ((l0.length : Int) + l2.length) + (sizeL l3 : Nat)) > 2000) = false := by rw [HW1.out, HW2.out]; exact hb1
  clear hT' hT hbig hb1
  go_enter Try.func4, Try.ntmps4
  go_wp2_with fail
  refine (murmurationlaw03_size.calls K1 _ _ l3 _ _ HR3.out hc3 G1).mono ?_
  rintro e w1 ⟨rfl, hd⟩
  have HB1 := Aside0.mk (drawn_below hd)
  clear hd
  obtain ⟨i0, hi0, hz0, hz1, hz2⟩ := info_parts Hand.info5
  go_wp2_with ((with_reducible refine gate_dst (N := 30) rfl ?_); refine halt_ ?_)
  unfold Halt
  refine wpList_make_own w1 rfl _ _ 23 rfl w.heap.size 5 i0 (.int .u8 0) 1 Try.underlying23 hi0 hz0 hz1 .i64 .i64 _ (l0.length + 40) (by first | rfl | exact ival HW3.out) (by first | rfl | exact ival HW3.out) (by first | rfl | exact ival HW3.out) ?c1 ?c2 HB1.out.size ?_
  case c1 => rw [hz2]; omega
  case c2 => unfold maxLen; omega
  intro w2 hown hgrow
  have HB2 := Aside0.mk (HB1.out.grown hgrow HB1.out.size (fun _ h => by cases h))
  obtain ⟨w3, hrun, hown3, hg3⟩ := room_append hown (c := c0) (Kd.C_below HR.out HB2.out) (by omega)
  have HRUN := Aside0.mk hrun
  have HO := Aside0.mk hown3
  have HG3 := Aside0.mk hg3
  have HB3 := Aside0.mk (HB2.out.grown hg3 HB2.out.size (fun k h => by cases h; exact HB1.out.size))
  obtain ⟨cur, hh, hcs, htk⟩ : ∃ cur : Array Value, w3.heap[w1.heap.size]? = some (.cells cur 5 (0, 0)) ∧ cur.size = l0.length + 40 ∧ cur.toList.take l0.length = l0.map (Value.int .u8) := by
    rcases hown3.2 with ⟨e, _⟩ | ⟨g', cap', cur, e, _, hh, _, _, hcs, htk⟩
    · cases e
    · injection e with e1 e2 e3
      injection e1 with e1
      injection e1 with e1
      subst e1 e3
      exact ⟨cur, hh, by simpa using hcs, by simpa using htk⟩
  obtain ⟨v0, hv0⟩ : ∃ v0, cur[l0.length]? = some v0 := ⟨_, Array.getElem?_eq_getElem (by omega)⟩
  have hx := (Reads.cell_of hh).2 hv0
  have hf : w3.frozen? ⟨w1.heap.size, l0.length, none⟩ = false := by simp [World.frozen?, hh]
  clear hown hgrow hrun hown3 hg3
  have HH := Aside0.mk hh
  clear hh
  have HTK := Aside0.mk htk
  clear htk
  go_wp2_with (first | ((with_reducible refine gate_builtin (b := .append) (xs := #[.tmp 30, .tmp 31]) rfl ?_); at_builtin; refine plain_append rfl (.tmp 30) (.tmp 31) 23 rfl _ _ rfl rfl HRUN.out ?_) | ((with_reducible refine gate_dst (N := 42) rfl ?_); refine halt_ ?_))
  unfold Halt
  have HB4 := Aside0.mk (HB3.out.setCell (p := ⟨w1.heap.size, l0.length, none⟩) HB1.out.size (.int .u8 77))
  have HH4 := Aside0.mk (blk_set HH.out l0.length (.int .u8 77))
  have HRM := Aside0.mk (show B.C (w3.setCell ⟨w1.heap.size, l0.length, none⟩ (.int .u8 77)) (some ⟨w1.heap.size, 0, none⟩) l0.length l0 from C_block .u8 HH4.out l0 (fun j x hj => by
    have hjl : j < l0.length := (List.getElem?_eq_some_iff.1 hj).1
    have h1 : cur.toList[j]? = some (.int .u8 x) := by
      have := congrArg (fun l => l[j]?) HTK.out
      simp only [List.getElem?_take, if_pos hjl, List.getElem?_map, hj, Option.map_some] at this
      exact this
    rw [Nat.zero_add, Array.getElem?_setIfInBounds_ne (by omega)]
    simpa using h1) hlen)
  clear HB1 HB2 HB3 HRUN HO HG3 HTK hx hf hv0
  generalize w3.setCell ⟨w1.heap.size, l0.length, none⟩ (.int .u8 77) = w4 at HB4 HH4 HRM ⊢
  generalize w1.heap.size = g at HH4 HRM ⊢
  go_wp2_with (first | ((with_reducible refine gate_dst (N := 42) rfl ?_); refine Kd.R_lit B (w0 := w4) w4.heap.size 5 ?hg (N := 42) ?hd (xs := ([] : List Int)) (inner := []) (ok := fun _ => True) (okp := fun _ => True) ?hr ?hp (fun _ hk => hk) trivial (Below.refl _ _) (Nat.le_refl _) (by simp) ?_; (case hd => rfl); (case hg => rfl); (case hr => first | (go_simp; done) | (go_simp; rfl)); (case hp => exact Reps.none _ _); intro v1 w5 ho hb1 hg hnew; have HO := Aside0.mk ho; have HB1 := Aside0.mk hb1; clear ho hb1 hg hnew) | ((with_reducible refine gate_builtin (b := .append) (xs := #[.tmp 42, .tmp 43]) rfl ?_); at_builtin; refine Kd.R_append_rows B (w0 := w4) w4.heap.size rfl (.tmp 42) (.tmp 43) 23 5 (.int .u8 0) 1 rfl Try.underlying23 Hand.info5 rfl (by decide) (by omega) _ [] l2 _ _ _ (fun _ => True) (fun _ => False) rfl rfl HO.out (Kd.C_below HR2.out (below_step HB4.out HB1.out)) (fun _ _ h => h) (fun _ h => h.elim) (fun _ _ => trivial) HB1.out (HB1.out.size) ?aL ?_; (case aL => have := HL2.out; simp; omega); intro v2 w6 ho hb2 hg hat; rw [List.nil_append] at ho; have HOWN := Aside0.mk ho; have HN6 := Aside0.mk hb2; obtain ⟨A11, c11, hv11, hc11, hr11⟩ := Kd.R_reads ho; subst hv11; have HR11 := Aside0.mk hr11; have hs12 : (convert 23 9 (.slice A0 l0.length c0)).run Try.prog w6 = .ok (.string (strOfNums l0)) w6 := Kd.C_string Try.underlying23 Try.underlying5 Try.underlying9 (Kd.C_below HR.out (below_step HB4.out hb2)); clear ho hb2 hg hat HO HB1 hr11))
  clear hs12
  have HB6 := Aside0.mk (below_step HB4.out HN6.out)
  refine (appendUint_calls _ _ l0 n _ (Kd.C_below HRM.out HN6.out) (by omega) hn (by omega)).mono ?_
  rintro e w7 ⟨v49, rfl, ho, hb⟩
  have HB7 := Aside0.mk (below_step HB6.out hb)
  have HN7 := Aside0.mk (below_step HN6.out hb)
  have HM7 := Aside0.mk hb
  have HE49 := Aside0.mk (str_app l0 (formL n))
  have hfl := formL_len n hn
  have HS49 := Aside0.mk (show ¬ 9223372036854775807 < (strOfNums l0).size + (strOfNums (formL n)).size by rw [strOfNums_size, strOfNums_size]; omega)
  clear hfl
  generalize l0 ++ formL n = b1 at ho HE49
  obtain ⟨A49, c49, rfl, hc49, hr49⟩ := Kd.R_reads ho
  have HRW1 := Aside0.mk (Rw.of ho)
  have HZ1 := Aside0.mk hb.size
  clear hb ho hr49
  go_wp2_with fail
  refine (appendBytes_calls _ _ l0 _ _ l2 _ (Kd.C_below HRM.out HN7.out) (by omega) (Kd.C_below HR11.out HM7.out) hc11 (by have := HL2.out; omega)).mono ?_
  rintro e w8 ⟨v52, rfl, ho, hb⟩
  have HB8 := Aside0.mk (below_step HB7.out hb)
  have HN8 := Aside0.mk (below_step HN7.out hb)
  have HM8 := Aside0.mk (below_step HM7.out hb)
  have HE52 := Aside0.mk (str_app l0 (rowL l2))
  have HS52 := Aside0.mk (show ¬ 9223372036854775807 < (strOfNums l0).size + (strOfNums (rowL l2)).size by rw [strOfNums_size, strOfNums_size]; have h1 := HL2.out; have h2 := formL_len l2.length (by omega); unfold rowL; rw [List.length_append]; omega)
  generalize l0 ++ rowL l2 = b2 at ho HE52
  obtain ⟨A52, c52, rfl, hc52, hr52⟩ := Kd.R_reads ho
  have HRW2 := Aside0.mk (Rw.of ho)
  have HZ2 := Aside0.mk hb.size
  replace HRW1 := Aside0.mk (HRW1.out.below hb)
  clear hb ho HB7 HN7 HM7 hr52
  go_wp2_with fail
  refine (appendList_calls _ _ l0 _ _ l3 _ (Kd.C_below HRM.out HN8.out) (by omega) (Kd.C_below HR3.out HB8.out) hc3 ?aL ?aM).mono ?_
  case aL => have := listL_len l3 HL3.out; rw [List.length_append]; omega
  case aM => have := HL3.out; unfold sizeL at this; omega
  rintro e w9 ⟨v55, rfl, ho, hb⟩
  have HB9 := Aside0.mk (below_step HB8.out hb)
  have HN9 := Aside0.mk (below_step HN8.out hb)
  have HM9 := Aside0.mk (below_step HM8.out hb)
  have HE55 := Aside0.mk (str_app l0 (listL l3))
  have HS55 := Aside0.mk (show ¬ 9223372036854775807 < (strOfNums l0).size + (strOfNums (listL l3)).size by rw [strOfNums_size, strOfNums_size]; have h1 := listL_len l3 HL3.out; omega)
  generalize l0 ++ listL l3 = b3 at ho HE55
  obtain ⟨A55, c55, rfl, hc55, hr55⟩ := Kd.R_reads ho
  have HRW3 := Aside0.mk (Rw.of ho)
  have HZ3 := Aside0.mk hb.size
  replace HRW1 := Aside0.mk (HRW1.out.below hb)
  replace HRW2 := Aside0.mk (HRW2.out.below hb)
  clear hb ho HB8 HN8 HM8 hr55
  obtain ⟨KF, GF⟩ := (ev_form n hn).rounds
  obtain ⟨KR, GR⟩ := (ev_row l2 (by have := HL2.out; omega)).rounds
  obtain ⟨KL, GL⟩ := (ev_listform l3 (fun x hx => by have := size_mem hx; have := HL3.out; omega) (by have := HL3.out; unfold sizeL at this; omega)).rounds
  go_wp2_with fail
  obtain ⟨ob, hob⟩ : ∃ o, o = Obj.cells #[.slice A49 b1.length c49, .slice A52 b2.length c52, .slice A55 b3.length c55] 31 (0, 0) := ⟨_, rfl⟩
  have HBA := Aside0.mk (HB9.out.alloc (HB9.out.size) ob)
  have HNA := Aside0.mk (HN9.out.alloc (HN9.out.size) ob)
  have HMA := Aside0.mk (HM9.out.alloc (HM9.out.size) ob)
  have HT := Aside0.mk (heap_new w9 ob)
  have HTN := HN9.out.size
  replace HRW1 := Aside0.mk (HRW1.out.below ((Below.refl _ _).alloc (Nat.le_refl _) ob))
  replace HRW2 := Aside0.mk (HRW2.out.below ((Below.refl _ _).alloc (Nat.le_refl _) ob))
  replace HRW3 := Aside0.mk (HRW3.out.below ((Below.refl _ _).alloc (Nat.le_refl _) ob))
  rw [← hob]
  generalize w9.alloc ob = wA at HBA HNA HMA HT HRW1 HRW2 HRW3 ⊢
  subst hob
  generalize w9.heap.size = t at HT HTN HRW3 HZ3 ⊢
  clear HB9 HN9 HM9
  go_cut [14] (fun v wc => ∃ h, v = .pointer (some ⟨h, 0, none⟩) ∧ Aside0 (wc.heap[h]? = some (.cells #[.string (strOfNums l0 ++ strOfNums (formL n)), .string (strOfNums l0 ++ strOfNums (rowL l2)), .string (strOfNums l0 ++ strOfNums (listL l3))] 35 (0, 0))) ∧ Aside0 (Below wA.heap.size wA wc))
  case first =>
    refine start_ (n := 18) (S := fun w' => Below wA.heap.size wA w') (ds := [17]) #[false, false, false, false, false, false, false, false, false, false, false, false, false, false, false, false, false, false] (by kernel_rfl) rfl rfl (below_drew1 (Below.refl _ _)) (fun hHeld => ?_)
    refine with_tabW forms_tab9 forms_bits9 (fun HT_ HW_ => ?_)
    generalize wA.drew = W0 at hHeld ⊢
    refine pure_ (i := 0) (N := some 57) (v := ?_) (a' := ?_) #[true, false, false, false, false, false, false, false, false, false, false, false, false, false, false, false, false, false] rfl rfl (any_of HT_.out (by kernel_rfl)) (fun _ _ _ h => h) (Or.inl ⟨by rfl, ?_⟩) ?_ ?_
    rotate_left
    · intro w'
      skip
      go_simp
      with_reducible rfl
    rotate_left
    · simp only [Act.put, List.setIfInBounds_toArray, List.set_cons_zero, List.set_cons_succ, i64_w, i32_w]
      rfl
    refine pure_ (i := 1) (N := some 58) (v := ?_) (a' := ?_) #[true, true, false, false, false, false, false, false, false, false, false, false, false, false, false, false, false, false] rfl rfl (any_of HT_.out (by kernel_rfl)) (fun _ _ _ h => h) (Or.inl ⟨by rfl, ?_⟩) ?_ ?_
    rotate_left
    · intro w'
      skip
      go_simp
      with_reducible rfl
    rotate_left
    · simp only [Act.put, List.setIfInBounds_toArray, List.set_cons_zero, List.set_cons_succ, i64_w, i32_w]
      rfl
    refine pure_ (i := 5) (N := some 62) (v := ?_) (a' := ?_) #[true, true, false, false, false, true, false, false, false, false, false, false, false, false, false, false, false, false] rfl rfl (any_of HT_.out (by kernel_rfl)) (fun _ _ _ h => h) (Or.inl ⟨by rfl, ?_⟩) ?_ ?_
    rotate_left
    · intro w'
      skip
      go_simp
      with_reducible rfl
    rotate_left
    · simp only [Act.put, List.setIfInBounds_toArray, List.set_cons_zero, List.set_cons_succ, i64_w, i32_w]
      rfl
    refine pure_ (i := 6) (N := some 63) (v := ?_) (a' := ?_) #[true, true, false, false, false, true, true, false, false, false, false, false, false, false, false, false, false, false] rfl rfl (any_of HT_.out (by kernel_rfl)) (fun _ _ _ h => h) (Or.inl ⟨by rfl, ?_⟩) ?_ ?_
    rotate_left
    · intro w'
      skip
      go_simp
      with_reducible rfl
    rotate_left
    · simp only [Act.put, List.setIfInBounds_toArray, List.set_cons_zero, List.set_cons_succ, i64_w, i32_w]
      rfl
    refine pure_ (i := 10) (N := some 67) (v := ?_) (a' := ?_) #[true, true, false, false, false, true, true, false, false, false, true, false, false, false, false, false, false, false] rfl rfl (any_of HT_.out (by kernel_rfl)) (fun _ _ _ h => h) (Or.inl ⟨by rfl, ?_⟩) ?_ ?_
    rotate_left
    · intro w'
      skip
      go_simp
      with_reducible rfl
    rotate_left
    · simp only [Act.put, List.setIfInBounds_toArray, List.set_cons_zero, List.set_cons_succ, i64_w, i32_w]
      rfl
    refine pure_ (i := 11) (N := some 68) (v := ?_) (a' := ?_) #[true, true, false, false, false, true, true, false, false, false, true, true, false, false, false, false, false, false] rfl rfl (any_of HT_.out (by kernel_rfl)) (fun _ _ _ h => h) (Or.inl ⟨by rfl, ?_⟩) ?_ ?_
    rotate_left
    · intro w'
      skip
      go_simp
      with_reducible rfl
    rotate_left
    · simp only [Act.put, List.setIfInBounds_toArray, List.set_cons_zero, List.set_cons_succ, i64_w, i32_w]
      rfl
    have hHeld0 := hHeld
    refine two_ (i := 2) (j := 16) (Ni := some 59) (Nj := some 14) #[true, true, true, false, false, true, true, false, false, false, true, true, false, false, false, false, false, false] #[true, true, false, false, false, true, true, false, false, false, true, true, false, false, false, false, true, false] rfl rfl rfl rfl (two_of HT_.out (by kernel_rfl)) (by decide) (by decide) (fun K hK => ?_) (fun K hK => ?_)
    · skip
      refine goes_ Try.func13 (by kernel_rfl) rfl #[.int .u64 n] (by rfl) rfl rfl (by simp only [List.map_toArray, List.map_cons, List.map_nil]; rfl) ?_
      refine (murmurationref03_Form.calls KF _ _ _ GF).mono ?_
      rintro e W1 ⟨v1, rfl, ho, hb⟩
      refine ⟨_, rfl, ?_⟩
      obtain ⟨A102, c102, rfl, hc102, hr102⟩ := Kd.R_reads ho
      clear ho
      refine hK.out _ _ (below_step hHeld hb) (fun hHeld => ?_)
      clear hK K
      refine norm_ (a' := ?_) ?_ ?_
      rotate_left
      · show Act.put _ (some 59) _ = _
        simp only [Act.put, List.setIfInBounds_toArray, List.set_cons_zero, List.set_cons_succ, i64_w, i32_w]
        rfl
      replace hHeld0 := below_step hHeld0 hb
      refine swap_L (S' := fun W' => Below W1.heap.size W1 W') (fun W' h => below_step hHeld h) (last_all HT_.out 17 (by kernel_rfl)) _ _ _ _ (Below.refl _ _) ?_
      clear hHeld hb
      have hHeld := Below.refl W1.heap.size W1
      refine take_ (i := 3) (N := some 60) (v := ?_) (a' := ?_) #[true, true, true, true, false, true, true, false, false, false, true, true, false, false, false, false, false, false] rfl rfl (take_ofW HT_.out HW_.out (by kernel_rfl)) (fun _ _ _ h => h) (Or.inl ⟨by rfl, ?_⟩) hHeld ?_ ?_
      rotate_left
      · intro w' hSt
        have hcv := Kd.C_string (P := Try.prog) Try.underlying23 Try.underlying5 Try.underlying9 (c := c102) (Kd.C_below hr102 hSt)
        go_simp
        with_reducible rfl
      rotate_left
      · simp only [Act.put, List.setIfInBounds_toArray, List.set_cons_zero, List.set_cons_succ, i64_w, i32_w]
        rfl
      refine pure_ (i := 4) (N := some 61) (v := ?_) (a' := ?_) #[true, true, true, true, true, true, true, false, false, false, true, true, false, false, false, false, false, false] rfl rfl (any_of HT_.out (by kernel_rfl)) (fun _ _ _ h => h) (Or.inl ⟨by rfl, ?_⟩) ?_ ?_
      rotate_left
      · intro w'
        have hss := HS49.out
        go_simp
        with_reducible rfl
      rotate_left
      · simp only [Act.put, List.setIfInBounds_toArray, List.set_cons_zero, List.set_cons_succ, i64_w, i32_w]
        rfl
      clear hr102
      refine two_ (i := 7) (j := 16) (Ni := some 64) (Nj := some 14) #[true, true, true, true, true, true, true, true, false, false, true, true, false, false, false, false, false, false] #[true, true, true, true, true, true, true, false, false, false, true, true, false, false, false, false, true, false] rfl rfl rfl rfl (two_of HT_.out (by kernel_rfl)) (by decide) (by decide) (fun K hK => ?_) (fun K hK => ?_)
      · skip
        refine goes_ Try.func14 (by kernel_rfl) rfl #[.slice A2 l2.length c2] (by rfl) rfl rfl (by simp only [List.map_toArray, List.map_cons, List.map_nil]; rfl) ?_
        refine (murmurationref03_Row.calls KR _ _ l2 _ _ (Kd.C_below HR2.out (below_step HBA.out hHeld0)) hc2 GR).mono ?_
        rintro e W2 ⟨v1, rfl, ho, hb⟩
        refine ⟨_, rfl, ?_⟩
        obtain ⟨A107, c107, rfl, hc107, hr107⟩ := Kd.R_reads ho
        clear ho
        refine hK.out _ _ (below_step hHeld hb) (fun hHeld => ?_)
        clear hK K
        refine norm_ (a' := ?_) ?_ ?_
        rotate_left
        · show Act.put _ (some 64) _ = _
          simp only [Act.put, List.setIfInBounds_toArray, List.set_cons_zero, List.set_cons_succ, i64_w, i32_w]
          rfl
        replace hHeld0 := below_step hHeld0 hb
        refine swap_L (S' := fun W' => Below W2.heap.size W2 W') (fun W' h => below_step hHeld h) (last_all HT_.out 17 (by kernel_rfl)) _ _ _ _ (Below.refl _ _) ?_
        clear hHeld hb
        have hHeld := Below.refl W2.heap.size W2
        refine take_ (i := 8) (N := some 65) (v := ?_) (a' := ?_) #[true, true, true, true, true, true, true, true, true, false, true, true, false, false, false, false, false, false] rfl rfl (take_ofW HT_.out HW_.out (by kernel_rfl)) (fun _ _ _ h => h) (Or.inl ⟨by rfl, ?_⟩) hHeld ?_ ?_
        rotate_left
        · intro w' hSt
          have hcv := Kd.C_string (P := Try.prog) Try.underlying23 Try.underlying5 Try.underlying9 (c := c107) (Kd.C_below hr107 hSt)
          go_simp
          with_reducible rfl
        rotate_left
        · simp only [Act.put, List.setIfInBounds_toArray, List.set_cons_zero, List.set_cons_succ, i64_w, i32_w]
          rfl
        refine pure_ (i := 9) (N := some 66) (v := ?_) (a' := ?_) #[true, true, true, true, true, true, true, true, true, true, true, true, false, false, false, false, false, false] rfl rfl (any_of HT_.out (by kernel_rfl)) (fun _ _ _ h => h) (Or.inl ⟨by rfl, ?_⟩) ?_ ?_
        rotate_left
        · intro w'
          have hss := HS52.out
          go_simp
          with_reducible rfl
        rotate_left
        · simp only [Act.put, List.setIfInBounds_toArray, List.set_cons_zero, List.set_cons_succ, i64_w, i32_w]
          rfl
        clear hr107
        refine two_ (i := 12) (j := 16) (Ni := some 69) (Nj := some 14) #[true, true, true, true, true, true, true, true, true, true, true, true, true, false, false, false, false, false] #[true, true, true, true, true, true, true, true, true, true, true, true, false, false, false, false, true, false] rfl rfl rfl rfl (two_of HT_.out (by kernel_rfl)) (by decide) (by decide) (fun K hK => ?_) (fun K hK => ?_)
        · skip
          refine goes_ Try.func15 (by kernel_rfl) rfl #[.slice A3 l3.length c3] (by rfl) rfl rfl (by simp only [List.map_toArray, List.map_cons, List.map_nil]; rfl) ?_
          refine (murmurationref03_ListForm.calls KL _ _ l3 _ _ (Kd.C_below HR3.out (below_step HBA.out hHeld0)) hc3 GL).mono ?_
          rintro e W3 ⟨v1, rfl, ho, hb⟩
          refine ⟨_, rfl, ?_⟩
          obtain ⟨A112, c112, rfl, hc112, hr112⟩ := Kd.R_reads ho
          clear ho
          refine hK.out _ _ (below_step hHeld hb) (fun hHeld => ?_)
          clear hK K
          refine norm_ (a' := ?_) ?_ ?_
          rotate_left
          · show Act.put _ (some 69) _ = _
            simp only [Act.put, List.setIfInBounds_toArray, List.set_cons_zero, List.set_cons_succ, i64_w, i32_w]
            rfl
          replace hHeld0 := below_step hHeld0 hb
          refine swap_L (S' := fun W' => Below W3.heap.size W3 W') (fun W' h => below_step hHeld h) (last_all HT_.out 17 (by kernel_rfl)) _ _ _ _ (Below.refl _ _) ?_
          clear hHeld hb
          have hHeld := Below.refl W3.heap.size W3
          refine take_ (i := 13) (N := some 70) (v := ?_) (a' := ?_) #[true, true, true, true, true, true, true, true, true, true, true, true, true, true, false, false, false, false] rfl rfl (take_ofW HT_.out HW_.out (by kernel_rfl)) (fun _ _ _ h => h) (Or.inl ⟨by rfl, ?_⟩) hHeld ?_ ?_
          rotate_left
          · intro w' hSt
            have hcv := Kd.C_string (P := Try.prog) Try.underlying23 Try.underlying5 Try.underlying9 (c := c112) (Kd.C_below hr112 hSt)
            go_simp
            with_reducible rfl
          rotate_left
          · simp only [Act.put, List.setIfInBounds_toArray, List.set_cons_zero, List.set_cons_succ, i64_w, i32_w]
            rfl
          refine pure_ (i := 14) (N := some 71) (v := ?_) (a' := ?_) #[true, true, true, true, true, true, true, true, true, true, true, true, true, true, true, false, false, false] rfl rfl (any_of HT_.out (by kernel_rfl)) (fun _ _ _ h => h) (Or.inl ⟨by rfl, ?_⟩) ?_ ?_
          rotate_left
          · intro w'
            have hss := HS55.out
            go_simp
            with_reducible rfl
          rotate_left
          · simp only [Act.put, List.setIfInBounds_toArray, List.set_cons_zero, List.set_cons_succ, i64_w, i32_w]
            rfl
          clear hr112
          refine pure_ (i := 15) (N := some 72) (v := ?_) (a' := ?_) #[true, true, true, true, true, true, true, true, true, true, true, true, true, true, true, true, false, false] rfl rfl (any_of HT_.out (by kernel_rfl)) (fun _ _ _ h => h) (Or.inl ⟨by rfl, ?_⟩) ?_ ?_
          rotate_left
          · intro w'
            skip
            go_simp
            with_reducible rfl
          rotate_left
          · simp only [Act.put, List.setIfInBounds_toArray, List.set_cons_zero, List.set_cons_succ, i64_w, i32_w]
            rfl
          refine one_ (i := 16) (N := (some 14)) #[true, true, true, true, true, true, true, true, true, true, true, true, true, true, true, true, true, false] rfl rfl (one_of HT_.out (by kernel_rfl)) (by decide) (fun K hK => ?_)
          refine value_ (w1 := ?_) (v := ?_) (by rfl) rfl ?_ ?_
          rotate_left 2
          · go_simp
            constructor
            · rfl
            · rfl
          refine hK.out _ _ (hHeld.alloc hHeld.size _) (fun hHeld => ?_)
          clear hK K
          refine norm_ (a' := ?_) ?_ ?_
          rotate_left
          · show Act.put _ (some 14) _ = _
            simp only [Act.put, List.setIfInBounds_toArray, List.set_cons_zero, List.set_cons_succ, i64_w, i32_w]
            rfl
          have hge := hHeld0.size
          have hh := heap_new W3 (.cells #[.string ⟨#[]⟩, .string ⟨#[]⟩, .string ⟨#[]⟩] 35 (0, 0))
          replace hHeld0 := hHeld0.alloc hHeld0.size (.cells #[.string ⟨#[]⟩, .string ⟨#[]⟩, .string ⟨#[]⟩] 35 (0, 0))
          generalize hgen : W3.alloc (.cells #[.string ⟨#[]⟩, .string ⟨#[]⟩, .string ⟨#[]⟩] 35 (0, 0)) = W4 at hh hHeld hHeld0 ⊢
          clear hgen
          have hx0 := (Reads.cell_of hh (j := 0)).2 rfl
          have hf0 : W4.frozen? ⟨W3.heap.size, 0, none⟩ = false := by simp [World.frozen?, hh]
          have hh1 := blk_set hh 0 (.string (strOfNums l0 ++ strOfNums (formL n)))
          have hx1 := (Reads.cell_of hh1 (j := 1)).2 rfl
          have hf1 : (W4.setCell ⟨W3.heap.size, 0, none⟩ (.string (strOfNums l0 ++ strOfNums (formL n)))).frozen? ⟨W3.heap.size, 1, none⟩ = false := by simp only [World.frozen?, hh1]; rfl
          have hh2 := blk_set hh1 1 (.string (strOfNums l0 ++ strOfNums (rowL l2)))
          have hx2 := (Reads.cell_of hh2 (j := 2)).2 rfl
          have hf2 : ((W4.setCell ⟨W3.heap.size, 0, none⟩ (.string (strOfNums l0 ++ strOfNums (formL n)))).setCell ⟨W3.heap.size, 1, none⟩ (.string (strOfNums l0 ++ strOfNums (rowL l2)))).frozen? ⟨W3.heap.size, 2, none⟩ = false := by simp only [World.frozen?, hh2]; rfl
          have HH3 := Aside0.mk (blk_set hh2 2 (.string (strOfNums l0 ++ strOfNums (listL l3))))
          clear hh hh1 hh2
          refine last_ (i := 17) (N := none) #[true, true, true, true, true, true, true, true, true, true, true, true, true, true, true, true, true, true] rfl rfl (one_of HT_.out (by kernel_rfl)) (by decide) (fun K hK => ?_)
          refine skip_ (w1 := ?_) (by rfl) rfl ?_ ?_
          rotate_left
          · go_simp
            rfl
          refine hK.out _ _ ?_
          clear hK K
          refine done_ (done_of HT_.out (by kernel_rfl)) ?_
          go_wp2
          go_meet
          case rel =>
            exact ⟨_, rfl, ⟨HH3.out⟩, ⟨((hHeld0.setCell hge _).setCell hge _).setCell hge _⟩⟩
        · skip
          refine value_ (w1 := ?_) (v := ?_) (by rfl) rfl ?_ ?_
          rotate_left 2
          · go_simp
            constructor
            · rfl
            · rfl
          refine hK.out _ _ (hHeld.alloc hHeld.size _) (fun hHeld => ?_)
          clear hK K
          refine norm_ (a' := ?_) ?_ ?_
          rotate_left
          · show Act.put _ (some 14) _ = _
            simp only [Act.put, List.setIfInBounds_toArray, List.set_cons_zero, List.set_cons_succ, i64_w, i32_w]
            rfl
          have hge := hHeld0.size
          have hh := heap_new W2 (.cells #[.string ⟨#[]⟩, .string ⟨#[]⟩, .string ⟨#[]⟩] 35 (0, 0))
          replace hHeld0 := hHeld0.alloc hHeld0.size (.cells #[.string ⟨#[]⟩, .string ⟨#[]⟩, .string ⟨#[]⟩] 35 (0, 0))
          generalize hgen : W2.alloc (.cells #[.string ⟨#[]⟩, .string ⟨#[]⟩, .string ⟨#[]⟩] 35 (0, 0)) = W5 at hh hHeld hHeld0 ⊢
          clear hgen
          refine one_ (i := 12) (N := (some 69)) #[true, true, true, true, true, true, true, true, true, true, true, true, true, false, false, false, true, false] rfl rfl (one_of HT_.out (by kernel_rfl)) (by decide) (fun K hK => ?_)
          refine goes_ Try.func15 (by kernel_rfl) rfl #[.slice A3 l3.length c3] (by rfl) rfl rfl (by simp only [List.map_toArray, List.map_cons, List.map_nil]; rfl) ?_
          refine (murmurationref03_ListForm.calls KL _ _ l3 _ _ (Kd.C_below HR3.out (below_step HBA.out hHeld0)) hc3 GL).mono ?_
          rintro e W6 ⟨v1, rfl, ho, hb⟩
          refine ⟨_, rfl, ?_⟩
          obtain ⟨A112, c112, rfl, hc112, hr112⟩ := Kd.R_reads ho
          clear ho
          replace hh := heap_keep hh hb
          refine hK.out _ _ (below_step hHeld hb) (fun hHeld => ?_)
          clear hK K
          refine norm_ (a' := ?_) ?_ ?_
          rotate_left
          · show Act.put _ (some 69) _ = _
            simp only [Act.put, List.setIfInBounds_toArray, List.set_cons_zero, List.set_cons_succ, i64_w, i32_w]
            rfl
          replace hHeld0 := below_step hHeld0 hb
          refine swap_L (S' := fun W' => Below W6.heap.size W6 W') (fun W' h => below_step hHeld h) (last_all HT_.out 17 (by kernel_rfl)) _ _ _ _ (Below.refl _ _) ?_
          clear hHeld hb
          have hHeld := Below.refl W6.heap.size W6
          refine take_ (i := 13) (N := some 70) (v := ?_) (a' := ?_) #[true, true, true, true, true, true, true, true, true, true, true, true, true, true, false, false, true, false] rfl rfl (take_ofW HT_.out HW_.out (by kernel_rfl)) (fun _ _ _ h => h) (Or.inl ⟨by rfl, ?_⟩) hHeld ?_ ?_
          rotate_left
          · intro w' hSt
            have hcv := Kd.C_string (P := Try.prog) Try.underlying23 Try.underlying5 Try.underlying9 (c := c112) (Kd.C_below hr112 hSt)
            go_simp
            with_reducible rfl
          rotate_left
          · simp only [Act.put, List.setIfInBounds_toArray, List.set_cons_zero, List.set_cons_succ, i64_w, i32_w]
            rfl
          refine pure_ (i := 14) (N := some 71) (v := ?_) (a' := ?_) #[true, true, true, true, true, true, true, true, true, true, true, true, true, true, true, false, true, false] rfl rfl (any_of HT_.out (by kernel_rfl)) (fun _ _ _ h => h) (Or.inl ⟨by rfl, ?_⟩) ?_ ?_
          rotate_left
          · intro w'
            have hss := HS55.out
            go_simp
            with_reducible rfl
          rotate_left
          · simp only [Act.put, List.setIfInBounds_toArray, List.set_cons_zero, List.set_cons_succ, i64_w, i32_w]
            rfl
          clear hr112
          refine pure_ (i := 15) (N := some 72) (v := ?_) (a' := ?_) #[true, true, true, true, true, true, true, true, true, true, true, true, true, true, true, true, true, false] rfl rfl (any_of HT_.out (by kernel_rfl)) (fun _ _ _ h => h) (Or.inl ⟨by rfl, ?_⟩) ?_ ?_
          rotate_left
          · intro w'
            skip
            go_simp
            with_reducible rfl
          rotate_left
          · simp only [Act.put, List.setIfInBounds_toArray, List.set_cons_zero, List.set_cons_succ, i64_w, i32_w]
            rfl
          have hx0 := (Reads.cell_of hh (j := 0)).2 rfl
          have hf0 : W6.frozen? ⟨W2.heap.size, 0, none⟩ = false := by simp [World.frozen?, hh]
          have hh1 := blk_set hh 0 (.string (strOfNums l0 ++ strOfNums (formL n)))
          have hx1 := (Reads.cell_of hh1 (j := 1)).2 rfl
          have hf1 : (W6.setCell ⟨W2.heap.size, 0, none⟩ (.string (strOfNums l0 ++ strOfNums (formL n)))).frozen? ⟨W2.heap.size, 1, none⟩ = false := by simp only [World.frozen?, hh1]; rfl
          have hh2 := blk_set hh1 1 (.string (strOfNums l0 ++ strOfNums (rowL l2)))
          have hx2 := (Reads.cell_of hh2 (j := 2)).2 rfl
          have hf2 : ((W6.setCell ⟨W2.heap.size, 0, none⟩ (.string (strOfNums l0 ++ strOfNums (formL n)))).setCell ⟨W2.heap.size, 1, none⟩ (.string (strOfNums l0 ++ strOfNums (rowL l2)))).frozen? ⟨W2.heap.size, 2, none⟩ = false := by simp only [World.frozen?, hh2]; rfl
          have HH3 := Aside0.mk (blk_set hh2 2 (.string (strOfNums l0 ++ strOfNums (listL l3))))
          clear hh hh1 hh2
          refine last_ (i := 17) (N := none) #[true, true, true, true, true, true, true, true, true, true, true, true, true, true, true, true, true, true] rfl rfl (one_of HT_.out (by kernel_rfl)) (by decide) (fun K hK => ?_)
          refine skip_ (w1 := ?_) (by rfl) rfl ?_ ?_
          rotate_left
          · go_simp
            rfl
          refine hK.out _ _ ?_
          clear hK K
          refine done_ (done_of HT_.out (by kernel_rfl)) ?_
          go_wp2
          go_meet
          case rel =>
            exact ⟨_, rfl, ⟨HH3.out⟩, ⟨((hHeld0.setCell hge _).setCell hge _).setCell hge _⟩⟩
      · skip
        refine value_ (w1 := ?_) (v := ?_) (by rfl) rfl ?_ ?_
        rotate_left 2
        · go_simp
          constructor
          · rfl
          · rfl
        refine hK.out _ _ (hHeld.alloc hHeld.size _) (fun hHeld => ?_)
        clear hK K
        refine norm_ (a' := ?_) ?_ ?_
        rotate_left
        · show Act.put _ (some 14) _ = _
          simp only [Act.put, List.setIfInBounds_toArray, List.set_cons_zero, List.set_cons_succ, i64_w, i32_w]
          rfl
        have hge := hHeld0.size
        have hh := heap_new W1 (.cells #[.string ⟨#[]⟩, .string ⟨#[]⟩, .string ⟨#[]⟩] 35 (0, 0))
        replace hHeld0 := hHeld0.alloc hHeld0.size (.cells #[.string ⟨#[]⟩, .string ⟨#[]⟩, .string ⟨#[]⟩] 35 (0, 0))
        generalize hgen : W1.alloc (.cells #[.string ⟨#[]⟩, .string ⟨#[]⟩, .string ⟨#[]⟩] 35 (0, 0)) = W7 at hh hHeld hHeld0 ⊢
        clear hgen
        refine one_ (i := 7) (N := (some 64)) #[true, true, true, true, true, true, true, true, false, false, true, true, false, false, false, false, true, false] rfl rfl (one_of HT_.out (by kernel_rfl)) (by decide) (fun K hK => ?_)
        refine goes_ Try.func14 (by kernel_rfl) rfl #[.slice A2 l2.length c2] (by rfl) rfl rfl (by simp only [List.map_toArray, List.map_cons, List.map_nil]; rfl) ?_
        refine (murmurationref03_Row.calls KR _ _ l2 _ _ (Kd.C_below HR2.out (below_step HBA.out hHeld0)) hc2 GR).mono ?_
        rintro e W8 ⟨v1, rfl, ho, hb⟩
        refine ⟨_, rfl, ?_⟩
        obtain ⟨A107, c107, rfl, hc107, hr107⟩ := Kd.R_reads ho
        clear ho
        replace hh := heap_keep hh hb
        refine hK.out _ _ (below_step hHeld hb) (fun hHeld => ?_)
        clear hK K
        refine norm_ (a' := ?_) ?_ ?_
        rotate_left
        · show Act.put _ (some 64) _ = _
          simp only [Act.put, List.setIfInBounds_toArray, List.set_cons_zero, List.set_cons_succ, i64_w, i32_w]
          rfl
        replace hHeld0 := below_step hHeld0 hb
        refine swap_L (S' := fun W' => Below W8.heap.size W8 W') (fun W' h => below_step hHeld h) (last_all HT_.out 17 (by kernel_rfl)) _ _ _ _ (Below.refl _ _) ?_
        clear hHeld hb
        have hHeld := Below.refl W8.heap.size W8
        refine take_ (i := 8) (N := some 65) (v := ?_) (a' := ?_) #[true, true, true, true, true, true, true, true, true, false, true, true, false, false, false, false, true, false] rfl rfl (take_ofW HT_.out HW_.out (by kernel_rfl)) (fun _ _ _ h => h) (Or.inl ⟨by rfl, ?_⟩) hHeld ?_ ?_
        rotate_left
        · intro w' hSt
          have hcv := Kd.C_string (P := Try.prog) Try.underlying23 Try.underlying5 Try.underlying9 (c := c107) (Kd.C_below hr107 hSt)
          go_simp
          with_reducible rfl
        rotate_left
        · simp only [Act.put, List.setIfInBounds_toArray, List.set_cons_zero, List.set_cons_succ, i64_w, i32_w]
          rfl
        refine pure_ (i := 9) (N := some 66) (v := ?_) (a' := ?_) #[true, true, true, true, true, true, true, true, true, true, true, true, false, false, false, false, true, false] rfl rfl (any_of HT_.out (by kernel_rfl)) (fun _ _ _ h => h) (Or.inl ⟨by rfl, ?_⟩) ?_ ?_
        rotate_left
        · intro w'
          have hss := HS52.out
          go_simp
          with_reducible rfl
        rotate_left
        · simp only [Act.put, List.setIfInBounds_toArray, List.set_cons_zero, List.set_cons_succ, i64_w, i32_w]
          rfl
        clear hr107
        refine one_ (i := 12) (N := (some 69)) #[true, true, true, true, true, true, true, true, true, true, true, true, true, false, false, false, true, false] rfl rfl (one_of HT_.out (by kernel_rfl)) (by decide) (fun K hK => ?_)
        refine goes_ Try.func15 (by kernel_rfl) rfl #[.slice A3 l3.length c3] (by rfl) rfl rfl (by simp only [List.map_toArray, List.map_cons, List.map_nil]; rfl) ?_
        refine (murmurationref03_ListForm.calls KL _ _ l3 _ _ (Kd.C_below HR3.out (below_step HBA.out hHeld0)) hc3 GL).mono ?_
        rintro e W9 ⟨v1, rfl, ho, hb⟩
        refine ⟨_, rfl, ?_⟩
        obtain ⟨A112, c112, rfl, hc112, hr112⟩ := Kd.R_reads ho
        clear ho
        replace hh := heap_keep hh hb
        refine hK.out _ _ (below_step hHeld hb) (fun hHeld => ?_)
        clear hK K
        refine norm_ (a' := ?_) ?_ ?_
        rotate_left
        · show Act.put _ (some 69) _ = _
          simp only [Act.put, List.setIfInBounds_toArray, List.set_cons_zero, List.set_cons_succ, i64_w, i32_w]
          rfl
        replace hHeld0 := below_step hHeld0 hb
        refine swap_L (S' := fun W' => Below W9.heap.size W9 W') (fun W' h => below_step hHeld h) (last_all HT_.out 17 (by kernel_rfl)) _ _ _ _ (Below.refl _ _) ?_
        clear hHeld hb
        have hHeld := Below.refl W9.heap.size W9
        refine take_ (i := 13) (N := some 70) (v := ?_) (a' := ?_) #[true, true, true, true, true, true, true, true, true, true, true, true, true, true, false, false, true, false] rfl rfl (take_ofW HT_.out HW_.out (by kernel_rfl)) (fun _ _ _ h => h) (Or.inl ⟨by rfl, ?_⟩) hHeld ?_ ?_
        rotate_left
        · intro w' hSt
          have hcv := Kd.C_string (P := Try.prog) Try.underlying23 Try.underlying5 Try.underlying9 (c := c112) (Kd.C_below hr112 hSt)
          go_simp
          with_reducible rfl
        rotate_left
        · simp only [Act.put, List.setIfInBounds_toArray, List.set_cons_zero, List.set_cons_succ, i64_w, i32_w]
          rfl
        refine pure_ (i := 14) (N := some 71) (v := ?_) (a' := ?_) #[true, true, true, true, true, true, true, true, true, true, true, true, true, true, true, false, true, false] rfl rfl (any_of HT_.out (by kernel_rfl)) (fun _ _ _ h => h) (Or.inl ⟨by rfl, ?_⟩) ?_ ?_
        rotate_left
        · intro w'
          have hss := HS55.out
          go_simp
          with_reducible rfl
        rotate_left
        · simp only [Act.put, List.setIfInBounds_toArray, List.set_cons_zero, List.set_cons_succ, i64_w, i32_w]
          rfl
        clear hr112
        refine pure_ (i := 15) (N := some 72) (v := ?_) (a' := ?_) #[true, true, true, true, true, true, true, true, true, true, true, true, true, true, true, true, true, false] rfl rfl (any_of HT_.out (by kernel_rfl)) (fun _ _ _ h => h) (Or.inl ⟨by rfl, ?_⟩) ?_ ?_
        rotate_left
        · intro w'
          skip
          go_simp
          with_reducible rfl
        rotate_left
        · simp only [Act.put, List.setIfInBounds_toArray, List.set_cons_zero, List.set_cons_succ, i64_w, i32_w]
          rfl
        have hx0 := (Reads.cell_of hh (j := 0)).2 rfl
        have hf0 : W9.frozen? ⟨W1.heap.size, 0, none⟩ = false := by simp [World.frozen?, hh]
        have hh1 := blk_set hh 0 (.string (strOfNums l0 ++ strOfNums (formL n)))
        have hx1 := (Reads.cell_of hh1 (j := 1)).2 rfl
        have hf1 : (W9.setCell ⟨W1.heap.size, 0, none⟩ (.string (strOfNums l0 ++ strOfNums (formL n)))).frozen? ⟨W1.heap.size, 1, none⟩ = false := by simp only [World.frozen?, hh1]; rfl
        have hh2 := blk_set hh1 1 (.string (strOfNums l0 ++ strOfNums (rowL l2)))
        have hx2 := (Reads.cell_of hh2 (j := 2)).2 rfl
        have hf2 : ((W9.setCell ⟨W1.heap.size, 0, none⟩ (.string (strOfNums l0 ++ strOfNums (formL n)))).setCell ⟨W1.heap.size, 1, none⟩ (.string (strOfNums l0 ++ strOfNums (rowL l2)))).frozen? ⟨W1.heap.size, 2, none⟩ = false := by simp only [World.frozen?, hh2]; rfl
        have HH3 := Aside0.mk (blk_set hh2 2 (.string (strOfNums l0 ++ strOfNums (listL l3))))
        clear hh hh1 hh2
        refine last_ (i := 17) (N := none) #[true, true, true, true, true, true, true, true, true, true, true, true, true, true, true, true, true, true] rfl rfl (one_of HT_.out (by kernel_rfl)) (by decide) (fun K hK => ?_)
        refine skip_ (w1 := ?_) (by rfl) rfl ?_ ?_
        rotate_left
        · go_simp
          rfl
        refine hK.out _ _ ?_
        clear hK K
        refine done_ (done_of HT_.out (by kernel_rfl)) ?_
        go_wp2
        go_meet
        case rel =>
          exact ⟨_, rfl, ⟨HH3.out⟩, ⟨((hHeld0.setCell hge _).setCell hge _).setCell hge _⟩⟩
    · skip
      refine value_ (w1 := ?_) (v := ?_) (by rfl) rfl ?_ ?_
      rotate_left 2
      · go_simp
        constructor
        · rfl
        · rfl
      refine hK.out _ _ (hHeld.alloc hHeld.size _) (fun hHeld => ?_)
      clear hK K
      refine norm_ (a' := ?_) ?_ ?_
      rotate_left
      · show Act.put _ (some 14) _ = _
        simp only [Act.put, List.setIfInBounds_toArray, List.set_cons_zero, List.set_cons_succ, i64_w, i32_w]
        rfl
      have hge := hHeld0.size
      have hh := heap_new W0 (.cells #[.string ⟨#[]⟩, .string ⟨#[]⟩, .string ⟨#[]⟩] 35 (0, 0))
      replace hHeld0 := hHeld0.alloc hHeld0.size (.cells #[.string ⟨#[]⟩, .string ⟨#[]⟩, .string ⟨#[]⟩] 35 (0, 0))
      generalize hgen : W0.alloc (.cells #[.string ⟨#[]⟩, .string ⟨#[]⟩, .string ⟨#[]⟩] 35 (0, 0)) = W10 at hh hHeld hHeld0 ⊢
      clear hgen
      refine one_ (i := 2) (N := (some 59)) #[true, true, true, false, false, true, true, false, false, false, true, true, false, false, false, false, true, false] rfl rfl (one_of HT_.out (by kernel_rfl)) (by decide) (fun K hK => ?_)
      refine goes_ Try.func13 (by kernel_rfl) rfl #[.int .u64 n] (by rfl) rfl rfl (by simp only [List.map_toArray, List.map_cons, List.map_nil]; rfl) ?_
      refine (murmurationref03_Form.calls KF _ _ _ GF).mono ?_
      rintro e W11 ⟨v1, rfl, ho, hb⟩
      refine ⟨_, rfl, ?_⟩
      obtain ⟨A102, c102, rfl, hc102, hr102⟩ := Kd.R_reads ho
      clear ho
      replace hh := heap_keep hh hb
      refine hK.out _ _ (below_step hHeld hb) (fun hHeld => ?_)
      clear hK K
      refine norm_ (a' := ?_) ?_ ?_
      rotate_left
      · show Act.put _ (some 59) _ = _
        simp only [Act.put, List.setIfInBounds_toArray, List.set_cons_zero, List.set_cons_succ, i64_w, i32_w]
        rfl
      replace hHeld0 := below_step hHeld0 hb
      refine swap_L (S' := fun W' => Below W11.heap.size W11 W') (fun W' h => below_step hHeld h) (last_all HT_.out 17 (by kernel_rfl)) _ _ _ _ (Below.refl _ _) ?_
      clear hHeld hb
      have hHeld := Below.refl W11.heap.size W11
      refine take_ (i := 3) (N := some 60) (v := ?_) (a' := ?_) #[true, true, true, true, false, true, true, false, false, false, true, true, false, false, false, false, true, false] rfl rfl (take_ofW HT_.out HW_.out (by kernel_rfl)) (fun _ _ _ h => h) (Or.inl ⟨by rfl, ?_⟩) hHeld ?_ ?_
      rotate_left
      · intro w' hSt
        have hcv := Kd.C_string (P := Try.prog) Try.underlying23 Try.underlying5 Try.underlying9 (c := c102) (Kd.C_below hr102 hSt)
        go_simp
        with_reducible rfl
      rotate_left
      · simp only [Act.put, List.setIfInBounds_toArray, List.set_cons_zero, List.set_cons_succ, i64_w, i32_w]
        rfl
      refine pure_ (i := 4) (N := some 61) (v := ?_) (a' := ?_) #[true, true, true, true, true, true, true, false, false, false, true, true, false, false, false, false, true, false] rfl rfl (any_of HT_.out (by kernel_rfl)) (fun _ _ _ h => h) (Or.inl ⟨by rfl, ?_⟩) ?_ ?_
      rotate_left
      · intro w'
        have hss := HS49.out
        go_simp
        with_reducible rfl
      rotate_left
      · simp only [Act.put, List.setIfInBounds_toArray, List.set_cons_zero, List.set_cons_succ, i64_w, i32_w]
        rfl
      clear hr102
      refine one_ (i := 7) (N := (some 64)) #[true, true, true, true, true, true, true, true, false, false, true, true, false, false, false, false, true, false] rfl rfl (one_of HT_.out (by kernel_rfl)) (by decide) (fun K hK => ?_)
      refine goes_ Try.func14 (by kernel_rfl) rfl #[.slice A2 l2.length c2] (by rfl) rfl rfl (by simp only [List.map_toArray, List.map_cons, List.map_nil]; rfl) ?_
      refine (murmurationref03_Row.calls KR _ _ l2 _ _ (Kd.C_below HR2.out (below_step HBA.out hHeld0)) hc2 GR).mono ?_
      rintro e W12 ⟨v1, rfl, ho, hb⟩
      refine ⟨_, rfl, ?_⟩
      obtain ⟨A107, c107, rfl, hc107, hr107⟩ := Kd.R_reads ho
      clear ho
      replace hh := heap_keep hh hb
      refine hK.out _ _ (below_step hHeld hb) (fun hHeld => ?_)
      clear hK K
      refine norm_ (a' := ?_) ?_ ?_
      rotate_left
      · show Act.put _ (some 64) _ = _
        simp only [Act.put, List.setIfInBounds_toArray, List.set_cons_zero, List.set_cons_succ, i64_w, i32_w]
        rfl
      replace hHeld0 := below_step hHeld0 hb
      refine swap_L (S' := fun W' => Below W12.heap.size W12 W') (fun W' h => below_step hHeld h) (last_all HT_.out 17 (by kernel_rfl)) _ _ _ _ (Below.refl _ _) ?_
      clear hHeld hb
      have hHeld := Below.refl W12.heap.size W12
      refine take_ (i := 8) (N := some 65) (v := ?_) (a' := ?_) #[true, true, true, true, true, true, true, true, true, false, true, true, false, false, false, false, true, false] rfl rfl (take_ofW HT_.out HW_.out (by kernel_rfl)) (fun _ _ _ h => h) (Or.inl ⟨by rfl, ?_⟩) hHeld ?_ ?_
      rotate_left
      · intro w' hSt
        have hcv := Kd.C_string (P := Try.prog) Try.underlying23 Try.underlying5 Try.underlying9 (c := c107) (Kd.C_below hr107 hSt)
        go_simp
        with_reducible rfl
      rotate_left
      · simp only [Act.put, List.setIfInBounds_toArray, List.set_cons_zero, List.set_cons_succ, i64_w, i32_w]
        rfl
      refine pure_ (i := 9) (N := some 66) (v := ?_) (a' := ?_) #[true, true, true, true, true, true, true, true, true, true, true, true, false, false, false, false, true, false] rfl rfl (any_of HT_.out (by kernel_rfl)) (fun _ _ _ h => h) (Or.inl ⟨by rfl, ?_⟩) ?_ ?_
      rotate_left
      · intro w'
        have hss := HS52.out
        go_simp
        with_reducible rfl
      rotate_left
      · simp only [Act.put, List.setIfInBounds_toArray, List.set_cons_zero, List.set_cons_succ, i64_w, i32_w]
        rfl
      clear hr107
      refine one_ (i := 12) (N := (some 69)) #[true, true, true, true, true, true, true, true, true, true, true, true, true, false, false, false, true, false] rfl rfl (one_of HT_.out (by kernel_rfl)) (by decide) (fun K hK => ?_)
      refine goes_ Try.func15 (by kernel_rfl) rfl #[.slice A3 l3.length c3] (by rfl) rfl rfl (by simp only [List.map_toArray, List.map_cons, List.map_nil]; rfl) ?_
      refine (murmurationref03_ListForm.calls KL _ _ l3 _ _ (Kd.C_below HR3.out (below_step HBA.out hHeld0)) hc3 GL).mono ?_
      rintro e W13 ⟨v1, rfl, ho, hb⟩
      refine ⟨_, rfl, ?_⟩
      obtain ⟨A112, c112, rfl, hc112, hr112⟩ := Kd.R_reads ho
      clear ho
      replace hh := heap_keep hh hb
      refine hK.out _ _ (below_step hHeld hb) (fun hHeld => ?_)
      clear hK K
      refine norm_ (a' := ?_) ?_ ?_
      rotate_left
      · show Act.put _ (some 69) _ = _
        simp only [Act.put, List.setIfInBounds_toArray, List.set_cons_zero, List.set_cons_succ, i64_w, i32_w]
        rfl
      replace hHeld0 := below_step hHeld0 hb
      refine swap_L (S' := fun W' => Below W13.heap.size W13 W') (fun W' h => below_step hHeld h) (last_all HT_.out 17 (by kernel_rfl)) _ _ _ _ (Below.refl _ _) ?_
      clear hHeld hb
      have hHeld := Below.refl W13.heap.size W13
      refine take_ (i := 13) (N := some 70) (v := ?_) (a' := ?_) #[true, true, true, true, true, true, true, true, true, true, true, true, true, true, false, false, true, false] rfl rfl (take_ofW HT_.out HW_.out (by kernel_rfl)) (fun _ _ _ h => h) (Or.inl ⟨by rfl, ?_⟩) hHeld ?_ ?_
      rotate_left
      · intro w' hSt
        have hcv := Kd.C_string (P := Try.prog) Try.underlying23 Try.underlying5 Try.underlying9 (c := c112) (Kd.C_below hr112 hSt)
        go_simp
        with_reducible rfl
      rotate_left
      · simp only [Act.put, List.setIfInBounds_toArray, List.set_cons_zero, List.set_cons_succ, i64_w, i32_w]
        rfl
      refine pure_ (i := 14) (N := some 71) (v := ?_) (a' := ?_) #[true, true, true, true, true, true, true, true, true, true, true, true, true, true, true, false, true, false] rfl rfl (any_of HT_.out (by kernel_rfl)) (fun _ _ _ h => h) (Or.inl ⟨by rfl, ?_⟩) ?_ ?_
      rotate_left
      · intro w'
        have hss := HS55.out
        go_simp
        with_reducible rfl
      rotate_left
      · simp only [Act.put, List.setIfInBounds_toArray, List.set_cons_zero, List.set_cons_succ, i64_w, i32_w]
        rfl
      clear hr112
      refine pure_ (i := 15) (N := some 72) (v := ?_) (a' := ?_) #[true, true, true, true, true, true, true, true, true, true, true, true, true, true, true, true, true, false] rfl rfl (any_of HT_.out (by kernel_rfl)) (fun _ _ _ h => h) (Or.inl ⟨by rfl, ?_⟩) ?_ ?_
      rotate_left
      · intro w'
        skip
        go_simp
        with_reducible rfl
      rotate_left
      · simp only [Act.put, List.setIfInBounds_toArray, List.set_cons_zero, List.set_cons_succ, i64_w, i32_w]
        rfl
      have hx0 := (Reads.cell_of hh (j := 0)).2 rfl
      have hf0 : W13.frozen? ⟨W0.heap.size, 0, none⟩ = false := by simp [World.frozen?, hh]
      have hh1 := blk_set hh 0 (.string (strOfNums l0 ++ strOfNums (formL n)))
      have hx1 := (Reads.cell_of hh1 (j := 1)).2 rfl
      have hf1 : (W13.setCell ⟨W0.heap.size, 0, none⟩ (.string (strOfNums l0 ++ strOfNums (formL n)))).frozen? ⟨W0.heap.size, 1, none⟩ = false := by simp only [World.frozen?, hh1]; rfl
      have hh2 := blk_set hh1 1 (.string (strOfNums l0 ++ strOfNums (rowL l2)))
      have hx2 := (Reads.cell_of hh2 (j := 2)).2 rfl
      have hf2 : ((W13.setCell ⟨W0.heap.size, 0, none⟩ (.string (strOfNums l0 ++ strOfNums (formL n)))).setCell ⟨W0.heap.size, 1, none⟩ (.string (strOfNums l0 ++ strOfNums (rowL l2)))).frozen? ⟨W0.heap.size, 2, none⟩ = false := by simp only [World.frozen?, hh2]; rfl
      have HH3 := Aside0.mk (blk_set hh2 2 (.string (strOfNums l0 ++ strOfNums (listL l3))))
      clear hh hh1 hh2
      refine last_ (i := 17) (N := none) #[true, true, true, true, true, true, true, true, true, true, true, true, true, true, true, true, true, true] rfl rfl (one_of HT_.out (by kernel_rfl)) (by decide) (fun K hK => ?_)
      refine skip_ (w1 := ?_) (by rfl) rfl ?_ ?_
      rotate_left
      · go_simp
        rfl
      refine hK.out _ _ ?_
      clear hK K
      refine done_ (done_of HT_.out (by kernel_rfl)) ?_
      go_wp2
      go_meet
      case rel =>
        exact ⟨_, rfl, ⟨HH3.out⟩, ⟨((hHeld0.setCell hge _).setCell hge _).setCell hge _⟩⟩

  case rest =>
    obtain ⟨h, rfl, HS, HBc⟩ := hcut
    obtain ⟨Af, cf, bf, lo, hi, HG, HW, HROW, HAP, HLO⟩ : ∃ (Af : Nat → Option Addr) (cf : Nat → Nat) (bf : Nat → List Int) (lo hi : Nat → Nat),
        (∃ gc : Array Value, Aside0 (wc.heap[t]? = some (.cells gc 31 (0, 0))) ∧ Aside0 (∀ k, k < 3 → gc[k]? = some (.slice (Af k) (bf k).length (cf k)))) ∧
        (∃ sc : Array Value, Aside0 (wc.heap[h]? = some (.cells sc 35 (0, 0))) ∧ Aside0 (∀ k, k < 3 → sc[k]? = some (.string (strOfNums (bf k))))) ∧
        Aside0 (∀ k, k < 3 → Rw wc (Af k) (bf k) (lo k) (hi k) ∧ (bf k).length ≤ cf k) ∧ Aside0 (∀ i j, i < j → j < 3 → hi i ≤ lo j) ∧ Aside0 (∀ k, k < 3 → w6.heap.size ≤ lo k ∧ hi k ≤ t) := by
      refine ⟨fun k => [A49, A52, A55].getD k none, fun k => [c49, c52, c55].getD k 0, fun k => [b1, b2, b3].getD k [], fun k => [w6.heap.size, w7.heap.size, w8.heap.size].getD k 0, fun k => [w7.heap.size, w8.heap.size, t].getD k 0, ⟨_, ⟨heap_keep HT.out HBc.out⟩, ⟨fun k hk => ?_⟩⟩, ⟨_, ⟨HS.out⟩, ⟨fun k hk => ?_⟩⟩, ⟨fun k hk => ?_⟩, ⟨fun i j hij hj => ?_⟩, ⟨fun k hk => ?_⟩⟩
      · rcases k with _ | _ | _ | k
        · rfl
        · rfl
        · rfl
        · omega
      · rcases k with _ | _ | _ | k
        · exact congrArg (fun s => some (Value.string s)) HE49.out.symm
        · exact congrArg (fun s => some (Value.string s)) HE52.out.symm
        · exact congrArg (fun s => some (Value.string s)) HE55.out.symm
        · omega
      · rcases k with _ | _ | _ | k
        · exact ⟨HRW1.out.below HBc.out, hc49⟩
        · exact ⟨HRW2.out.below HBc.out, hc52⟩
        · exact ⟨HRW3.out.below HBc.out, hc55⟩
        · omega
      · have h1 := HZ1.out
        have h2 := HZ2.out
        have h3 := HZ3.out
        rcases i with _ | _ | _ | i <;> rcases j with _ | _ | _ | j <;> first | omega | (simp; omega) | simp
      · have h1 := HZ1.out
        have h2 := HZ2.out
        have h3 := HZ3.out
        rcases k with _ | _ | _ | k
        · exact ⟨Nat.le_refl _, by show w7.heap.size ≤ t; omega⟩
        · exact ⟨h1, h3⟩
        · exact ⟨by show w6.heap.size ≤ w8.heap.size; omega, Nat.le_refl _⟩
        · omega
    obtain ⟨gc, HG, HGC⟩ := HG
    obtain ⟨sc, HW, HSC⟩ := HW
    have HM := Aside0.mk (below_step HMA.out HBc.out)
    clear HS HBc HT HRW1 HRW2 HRW3 HBA HNA HMA HTN HE49 HE52 HE55 HS49 HS52 HS55 HZ1 HZ2 HZ3 GF GR GL HL2 HL3 HB4
    go_wp2
    go_loopw [73] (fun i wr => ∃ k : Nat, k ≤ 3 ∧ i = .int .i64 k ∧ Aside0 (Below w6.heap.size w6 wr) ∧ Aside0 (wr.heap[t]? = some (.cells gc 31 (0, 0))) ∧ Aside0 (wr.heap[h]? = some (.cells sc 35 (0, 0))) ∧ Aside0 (∀ j, k ≤ j → j < 3 → Rw wr (Af j) (bf j) (lo j) (hi j))) (fun i _ => 3 - (intOf i).toNat)
    case atStart => exact ⟨0, Nat.zero_le _, rfl, HM, HG, HW, ⟨fun j _ hj => (HROW.out j hj).1⟩⟩
    case round =>
      clear HM HG HW
      obtain ⟨k, hk, rfl, HM, HG, HW, HR_⟩ := hrel
      by_cases hlt : k < 3
      · have hrow := HR_.out k (Nat.le_refl _) hlt
        have hgk := HGC.out k hlt
        have hsk := HSC.out k hlt
        have HROWK := Aside0.mk hrow
        have HGK := Aside0.mk hgk
        have HSK := Aside0.mk hsk
        clear hrow hgk hsk
        go_wp2_with fail
        have hrow := HROWK.out
        have hgk := HGK.out
        have hsk := HSK.out
        have hS0 := below_drew1 (Below.refl wr.heap.size wr)
        refine start_ (n := 8) (S := fun w' => Below wr.heap.size wr w') (ds := []) #[false, false, false, false, false, false, false, false] (by kernel_rfl) rfl rfl (by exact hS0) (fun hHeld => ?_)
        refine with_tabW forms_tab13 forms_bits13 (fun HT_ HW_ => ?_)
        refine pure_ (i := 0) (N := some 76) (v := ?_) (a' := ?_) #[true, false, false, false, false, false, false, false] rfl rfl (any_of HT_.out (by kernel_rfl)) (fun _ _ _ h => h) (Or.inl ⟨by rfl, ?_⟩) ?_ ?_
        rotate_left
        · intro w'
          go_simp
          with_reducible rfl
        rotate_left
        · simp only [Act.put, List.setIfInBounds_toArray, List.set_cons_zero, List.set_cons_succ, i64_w, i32_w]
          rfl
        refine pure_ (i := 1) (N := some 77) (v := ?_) (a' := ?_) #[true, true, false, false, false, false, false, false] rfl rfl (any_of HT_.out (by kernel_rfl)) (fun _ _ _ h => h) (Or.inl ⟨by rfl, ?_⟩) ?_ ?_
        rotate_left
        · intro w'
          go_simp
          with_reducible rfl
        rotate_left
        · simp only [Act.put, List.setIfInBounds_toArray, List.set_cons_zero, List.set_cons_succ, i64_w, i32_w]
          rfl
        refine take_ (i := 2) (N := some 78) (v := ?_) (a' := ?_) #[true, true, true, false, false, false, false, false] rfl rfl (take_ofW HT_.out HW_.out (by kernel_rfl)) (fun _ _ _ h => h) (Or.inl ⟨by rfl, ?_⟩) hHeld ?_ ?_
        rotate_left
        · intro w' hSt
          have hx := (Reads.cell_of (heap_keep HG.out hSt)).2 hgk
          go_simp
          with_reducible rfl
        rotate_left
        · simp only [Act.put, List.setIfInBounds_toArray, List.set_cons_zero, List.set_cons_succ, i64_w, i32_w]
          rfl
        refine take_ (i := 3) (N := some 79) (v := ?_) (a' := ?_) #[true, true, true, true, false, false, false, false] rfl rfl (take_ofW HT_.out HW_.out (by kernel_rfl)) (fun _ _ _ h => h) (Or.inl ⟨by rfl, ?_⟩) hHeld ?_ ?_
        rotate_left
        · intro w' hSt
          have hcv := Kd.C_string (P := Try.prog) Try.underlying23 Try.underlying5 Try.underlying9 (c := cf k) (Kd.C_below hrow.C hSt)
          go_simp
          with_reducible rfl
        rotate_left
        · simp only [Act.put, List.setIfInBounds_toArray, List.set_cons_zero, List.set_cons_succ, i64_w, i32_w]
          rfl
        refine pure_ (i := 4) (N := some 80) (v := ?_) (a' := ?_) #[true, true, true, true, true, false, false, false] rfl rfl (any_of HT_.out (by kernel_rfl)) (fun _ _ _ h => h) (Or.inl ⟨by rfl, ?_⟩) ?_ ?_
        rotate_left
        · intro w'
          go_simp
          with_reducible rfl
        rotate_left
        · simp only [Act.put, List.setIfInBounds_toArray, List.set_cons_zero, List.set_cons_succ, i64_w, i32_w]
          rfl
        refine pure_ (i := 5) (N := some 81) (v := ?_) (a' := ?_) #[true, true, true, true, true, true, false, false] rfl rfl (any_of HT_.out (by kernel_rfl)) (fun _ _ _ h => h) (Or.inl ⟨by rfl, ?_⟩) ?_ ?_
        rotate_left
        · intro w'
          go_simp
          with_reducible rfl
        rotate_left
        · simp only [Act.put, List.setIfInBounds_toArray, List.set_cons_zero, List.set_cons_succ, i64_w, i32_w]
          rfl
        refine take_ (i := 6) (N := some 82) (v := ?_) (a' := ?_) #[true, true, true, true, true, true, true, false] rfl rfl (take_ofW HT_.out HW_.out (by kernel_rfl)) (fun _ _ _ h => h) (Or.inl ⟨by rfl, ?_⟩) hHeld ?_ ?_
        rotate_left
        · intro w' hSt
          have hx := (Reads.cell_of (heap_keep HW.out hSt)).2 hsk
          go_simp
          with_reducible rfl
        rotate_left
        · simp only [Act.put, List.setIfInBounds_toArray, List.set_cons_zero, List.set_cons_succ, i64_w, i32_w]
          rfl
        refine pure_ (i := 7) (N := some 83) (v := ?_) (a' := ?_) #[true, true, true, true, true, true, true, true] rfl rfl (any_of HT_.out (by kernel_rfl)) (fun _ _ _ h => h) (Or.inl ⟨by rfl, ?_⟩) ?_ ?_
        rotate_left
        · intro w'
          go_simp
          with_reducible rfl
        rotate_left
        · simp only [Act.put, List.setIfInBounds_toArray, List.set_cons_zero, List.set_cons_succ, i64_w, i32_w]
          rfl
        refine done_ (done_of HT_.out (by kernel_rfl)) ?_
        have hD := below_drew1 (Below.refl wr.heap.size wr)
        replace HM := Aside0.mk (below_step HM.out hD)
        replace HG := Aside0.mk (heap_keep HG.out hD)
        replace HW := Aside0.mk (heap_keep HW.out hD)
        replace HR_ := Aside0.mk (show ∀ j, k ≤ j → j < 3 → Rw wr.drew (Af j) (bf j) (lo j) (hi j) from fun j h1 h2 => (HR_.out j h1 h2).below hD)
        clear HROWK hrow hgk hsk hHeld hS0 HT_ HW_ hD
        generalize wr.drew = wd at HM HG HW HR_ ⊢
        have hx := (Reads.cell_of HG.out).2 HGK.out
        have hlb : (bf k).length ≤ 9223372036854775807 := (HR_.out k (Nat.le_refl _) hlt).1
        go_wp2
        clear hx
        have HC := Aside0.mk (HR_.out k (Nat.le_refl _) hlt).cw
        replace HR_ := Aside0.mk (show ∀ j, k + 1 ≤ j → j < 3 → Rw wd (Af j) (bf j) (lo j) (hi j) from fun j h1 h2 => HR_.out j (by omega) h2)
        go_loopw [88] (fun i wi => ∃ j : Nat, j ≤ (bf k).length ∧ i = .int .i64 j ∧ Aside0 (Below w6.heap.size w6 wi) ∧ Aside0 (wi.heap[t]? = some (.cells gc 31 (0, 0))) ∧ Aside0 (wi.heap[h]? = some (.cells sc 35 (0, 0))) ∧ Aside0 (∀ j, k + 1 ≤ j → j < 3 → Rw wi (Af j) (bf j) (lo j) (hi j)) ∧ Aside0 (Cw wi (Af k) (bf k).length (lo k) (hi k))) (fun i _ => (bf k).length - (intOf i).toNat)
        case atStart => exact ⟨0, Nat.zero_le _, rfl, HM, HG, HW, HR_, HC⟩
        case round =>
          clear HM HG HW HR_ HC
          rename_i wi _
          obtain ⟨j, hj, rfl, HM, HG, HW, HR_, HC⟩ := hrel
          by_cases hlt2 : j < (bf k).length
          · have hx := (Reads.cell_of HG.out).2 HGK.out
            have hc0 := HC.out (by omega)
            obtain ⟨q, hq, hq1, hq2, hblk⟩ := hc0
            obtain ⟨y, hxx, hf⟩ := hblk.cell j hlt2
            rw [hq] at hx
            have HQ := Aside0.mk hq
            have HK := Aside0.mk hblk
            clear hblk hq
            have hql := HLO.out k hlt
            have hgw : w6.heap.size ≤ q := by omega
            clear hql
            go_wp2
            go_roundw
            case rel => exact ⟨j + 1, by omega, by go_num, ⟨HM.out.setCell hgw _⟩, ⟨blk_far HG.out (p := ⟨q, j, none⟩) (blk_ne HK.out HG.out (by decide)) _⟩, ⟨blk_far HW.out (p := ⟨q, j, none⟩) (blk_ne HK.out HW.out (by decide)) _⟩, ⟨fun i h1 h2 => (HR_.out i h1 h2).far q j _ (Or.inl (Nat.lt_of_lt_of_le hq2 (HAP.out k i (by omega) h2)))⟩, ⟨fun _ => ⟨q, HQ.out, hq1, hq2, HK.out.set HK.out j _⟩⟩⟩
            case measure => simp [intOf]; omega
          · obtain rfl : j = (bf k).length := by omega
            clear hlt2 hj HC
            go_wp2
            go_roundw
            case rel => exact ⟨k + 1, by omega, by go_num, HM, HG, HW, HR_⟩
            case measure => simp [intOf]; omega
      · obtain rfl : k = 3 := by omega
        clear hlt hk HR_
        have hx := (Reads.cell_of (heap_keep HH4.out (below_step HN6.out HM.out)) (j := l0.length)).2 (Array.getElem?_setIfInBounds_self_of_lt (by omega))
        have h9 := Kd.C_string (P := Try.prog) Try.underlying23 Try.underlying5 Try.underlying9 (c := l0.length + 40) (Kd.C_below HRM.out (below_step HN6.out HM.out))
        have h11 := Kd.C_string (P := Try.prog) Try.underlying23 Try.underlying5 Try.underlying9 (c := c11) (Kd.C_below HR11.out HM.out)
        have h2 := Kd.C_string (P := Try.prog) Try.underlying23 Try.underlying5 Try.underlying9 (c := c2) (Kd.C_below HR2.out (below_step HB6.out HM.out))
        go_wp2_with fail
        refine (known_calls _).mono ?_
        rintro e w10 ⟨rfl, hbk⟩
        go_wp2
        go_ret
        exact ⟨rfl, below_step (below_step HB6.out HM.out) hbk⟩
theorem forms_one {α : Type} (l : List α) : (l.map fun _ => 1).sum = l.length := by
  induction l with
  | nil => rfl
  | cons x l ih => rw [List.map_cons, List.sum_cons, ih, List.length_cons]; omega
theorem forms_size (l : List (List Int)) : sizeL l ≤ (l.map fun xs => (xs.map fun _ => 1).sum + 1).sum := by
  unfold sizeL
  induction l with
  | nil => simp
  | cons x l ih =>
    have h1 := forms_one x
    simp only [List.map_cons, List.sum_cons, List.length_cons]
    rw [h1]
    omega
theorem wireForms_walk (a0 : Option Addr) (c0 : Nat) (x0 : List Int) (a1 : Int) (a2 : Option Addr) (c2 : Nat) (x2 : List Int) (a3 : Option Addr) (c3 : Nat) (x3 : List (List Int)) (w : World)
    (C0 : B.C w a0 x0.length x0) (l0 : x0.length ≤ c0) (k0 : ∀ x ∈ x0, (Lit.int .u8 x).wf = true) (k1 : (Lit.int .u64 a1).wf = true) (C2 : B.C w a2 x2.length x2) (l2 : x2.length ≤ c2) (k2 : ∀ x ∈ x2, (Lit.int .u8 x).wf = true)
    (C3 : Kd.C (Kd.slice 5 B) w a3 x3.length x3) (l3 : x3.length ≤ c3) (k3 : ∀ l ∈ x3, ∀ x ∈ l, (Lit.int .u8 x).wf = true)
    (hb : ((x0.map fun _ => 1).sum + 1) + ((x2.map fun _ => 1).sum + 1) + ((x3.map fun xs => (xs.map fun _ => 1).sum + 1).sum + 1) ≤ 1048576) :
    Calls Try.prog 4 #[.slice a0 x0.length c0, .int .u64 a1, .slice a2 x2.length c2, .slice a3 x3.length c3] w fun e w' => e = .returned (.bool true) ∧ Below w.heap.size w w' := by
  have b1 := bounds_u64 k1
  obtain ⟨n, rfl⟩ := Int.eq_ofNat_of_zero_le b1.1
  have e3 := forms_size x3
  have s0 := forms_one x0
  have s2 := forms_one x2
  rw [s0, s2] at hb
  exact wireForms_calls a0 c0 x0 n a2 c2 x2 a3 c3 x3 w C0 l0 (by omega) C2 l2 C3 l3 (by omega)
end Go.Proofs.Ytekhejpkmlhllaa.Forms
