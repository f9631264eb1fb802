/- What calls of Go functions of this seat come to, as the rows need it: under the conditions that each theorem names. -/
import Derived.Test.YtekhejpkmlhllaaUint
import Derived.Deep.RegionWith
import Derived.OneCell
import Derived.Test.YtekhejpkmlhllaaWTab
import Derived.Test.YtekhejpkmlhllaaWLast
namespace Go.Proofs.Ytekhejpkmlhllaa.Hand
open Go.RowKit Go.Proofs.YtekhejpkmlhllaaW.PrintWords Go.Proofs.YtekhejpkmlhllaaW.PrintLast Go.Proofs.YtekhejpkmlhllaaW.PrintMore
set_option linter.unusedVariables false
set_option linter.unusedSimpArgs false
/-- A row's form. -/
def rowL (x : List Int) : List Int := formL x.length ++ x
/-- A list's form. -/
def listL (l : List (List Int)) : List Int := formL l.length ++ (l.map rowL).flatten

/-- A row behind bytes. -/
theorem appendBytes_calls (A0 : Option Addr) (c0 : Nat) (l0 : List Int) (A1 : Option Addr) (c1 : Nat) (l1 : List Int) (w : World) (hr0 : B.C w A0 l0.length l0) (hc0 : l0.length ≤ c0) (hr1 : B.C w A1 l1.length l1) (hc1 : l1.length ≤ c1) (hL : l0.length + l1.length < 140737488355300) :
    Calls Try.prog 11 #[.slice A0 l0.length c0, .slice A1 l1.length c1] w fun e w' => ∃ v0_ : Value, e = .returned v0_ ∧ Kd.R B 5 w' w.heap.size (fun _ => True) v0_ (l0 ++ rowL l1) ∧ Below w.heap.size w w' := by
  have HR := Aside0.mk hr0
  have HR1 := Aside0.mk hr1
  have hn : l1.length < 18446744073709551616 := by omega
  have hf := formL_len l1.length hn
  clear hr0 hr1
  have hm : l1.length ≤ 18446744073709551615 := by omega
  go_enter Try.func11, Try.ntmps11
  go_wp2_with (go_at_call 24; refine (form_calls l1.length hn _).mono ?_; rintro e w' ⟨rfl, rfl⟩)
  refine (behind_calls (some ⟨_, 0, none⟩) 3 [l0, formL l1.length, l1] _ ?h1 (Nat.le_refl 3) ?h2).mono ?_
  case h1 =>
    refine C_rows_block _ (heap_new' _ _ _ (by simp)) [l0, formL l1.length, l1] (fun j x hj => ?_) (show 3 ≤ 9223372036854775807 by omega)
    rcases j with _ | _ | _ | j
    · obtain rfl : l0 = x := by simpa using hj
      exact ⟨A0, c0, rfl, hc0, Kd.C_alloc (Kd.C_alloc HR.out _) _⟩
    · obtain rfl : formL l1.length = x := by simpa using hj
      exact ⟨_, _, rfl, Nat.le_refl _, Kd.C_alloc (form_reads w _ l1.length hn) _⟩
    · obtain rfl : l1 = x := by simpa using hj
      exact ⟨A1, c1, rfl, hc1, Kd.C_alloc (Kd.C_alloc HR1.out _) _⟩
    · simp at hj
  case h2 => simp [flen]; omega
  rintro e w' ⟨v, rfl, hr, hb⟩
  go_wp2
  go_ret
  refine ⟨v, rfl, ?_, ?_⟩
  · have h9 : w.heap.size ≤ ((w.alloc (.cells (cells9 (formL l1.length)) 51)).alloc (.cells #[.slice A0 l0.length c0, .slice (some ⟨w.heap.size, 8 - (digs l1.length).length, none⟩) (formL l1.length).length (formL l1.length).length, .slice A1 l1.length c1] 23)).heap.size := by simp; omega
    have := Kd.R_lower hr h9
    simpa [rowL] using this
  · exact (((Below.refl w.heap.size w).alloc (Nat.le_refl _) _).alloc (by simp) _).trans (hb.mono (by simp; omega))

/-! The rows that AppendList gathers: each lies in a block that is none of the list's own. -/
structure Rows (w : World) (base g : Nat) (v : Value) (xs : List (List Int)) : Prop where
  own : ∃ vals : List Value, w.ownsRow base 23 1 v xs.length vals ∧ ∀ (j : Nat) (x : List Int), xs[j]? = some x → ∃ A c, vals[j]? = some (.slice A x.length c) ∧ x.length ≤ c ∧ B.C w A x.length x ∧ ∀ ad, A = some ad → 0 < x.length → ad.block < w.heap.size ∧ v.ownBlock ≠ some ad.block ∧ ad.block ≠ g
theorem C_move {w w1 : World} {A : Option Addr} {xs : List Int} (h : B.C w A xs.length xs) (hm : ∀ ad, A = some ad → 0 < xs.length → w1.heap[ad.block]? = w.heap[ad.block]?) : B.C w1 A xs.length xs := by
  refine ⟨h.1, h.2.1, fun hn => ?_⟩
  obtain ⟨ad, e, hc⟩ := h.2.2 hn
  refine ⟨ad, e, fun j p hj => ?_⟩
  obtain ⟨c, h1, h2, h3⟩ := hc j p hj
  refine ⟨c, h1, h2, fun i u hu => ?_⟩
  rw [World.cell?_of_block (w := w) (w' := w1) (a := ad.add (j * B.sz + i))]
  · exact h3 i u hu
  · have : (ad.add (j * B.sz + i)).block = ad.block := by unfold Addr.add; split <;> rfl
    rw [this]
    exact hm ad e hn
theorem Rows.shape {w : World} {base g : Nat} {v : Value} {xs : List (List Int)} (h : Rows w base g v xs) : ∃ A n c, v = .slice A n c := by
  obtain ⟨vals, ⟨h1, h2⟩, h3⟩ := h.own
  rcases h2 with ⟨rfl, h0⟩ | ⟨g, cap, cur, rfl, _⟩
  · exact ⟨_, _, _, rfl⟩
  · exact ⟨_, _, _, rfl⟩
theorem Rows.drew {w : World} {base g : Nat} {v : Value} {xs : List (List Int)} (h : Rows w base g v xs) : Rows w.drew base g v xs := ⟨h.own⟩
theorem Rows.alloc {w : World} {base g : Nat} {v : Value} {xs : List (List Int)} (h : Rows w base g v xs) (o : Obj) : Rows (w.alloc o) base g v xs := by
  obtain ⟨vals, hown, hr⟩ := h.own
  refine ⟨vals, hown.alloc o, fun j x hj => ?_⟩
  obtain ⟨A, c, e1, e2, e3, e4⟩ := hr j x hj
  exact ⟨A, c, e1, e2, Kd.C_alloc e3 o, fun ad e hp => ⟨Nat.lt_of_lt_of_le (e4 ad e hp).1 (by simp), (e4 ad e hp).2⟩⟩
theorem Rows.setVar {w : World} {base g : Nat} {v u : Value} {xs : List (List Int)} (h : Rows w base g v xs) (hv : v.ownBlock ≠ some g) : Rows (w.setCell ⟨g, 0, none⟩ u) base g v xs := by
  obtain ⟨vals, hown, hr⟩ := h.own
  have hh : ∀ k, k ≠ g → (w.setCell ⟨g, 0, none⟩ u).heap[k]? = w.heap[k]? := fun k hk => Below.heap_setCell w ⟨g, 0, none⟩ u k hk
  refine ⟨vals, own_setCell hown (Ne.symm hv) u, fun j x hj => ?_⟩
  obtain ⟨A, c, e1, e2, e3, e4⟩ := hr j x hj
  exact ⟨A, c, e1, e2, C_move e3 (fun ad e hp => hh _ (e4 ad e hp).2.2), fun ad e hp => ⟨by have := (e4 ad e hp).1; simpa [World.setCell] using this, (e4 ad e hp).2⟩⟩
theorem Rows.reads {w : World} {base g : Nat} {v : Value} {xs : List (List Int)} (h : Rows w base g v xs) (hl : xs.length ≤ 9223372036854775807) : ∃ A c, v = .slice A xs.length c ∧ xs.length ≤ c ∧ Kd.C (Kd.slice 5 B) w A xs.length xs := by
  obtain ⟨vals, ⟨h1, h2⟩, h3⟩ := h.own
  rcases h2 with ⟨rfl, h0⟩ | ⟨g, cap, cur, rfl, hg, hh, hcap, hm, hs, ht⟩
  · have : xs = [] := List.length_eq_zero_iff.1 h0
    subst this
    exact ⟨none, 0, rfl, Nat.le_refl _, rfl, by simp, fun h => absurd h (by simp)⟩
  · refine ⟨_, cap, rfl, hcap, C_rows_block _ hh xs (fun j x hj => ?_) hl⟩
    obtain ⟨A, c, e1, e2, e3, _⟩ := h3 j x hj
    refine ⟨A, c, ?_, e2, e3⟩
    rw [← ht, List.getElem?_take] at e1
    split at e1
    · simpa using e1
    · simp at e1

theorem wrap_u64 (n : Nat) (h : n < 18446744073709551616) : IntKind.u64.wrap (n : Int) = (n : Int) := by
  simp [IntKind.wrap, IntKind.bits, IntKind.signed]
  omega
theorem var_alloc {w : World} {g : Nat} {v : Value} (h : w.heap[g]? = some (.cells #[v] 27 (0, 0))) (o : Obj) : (w.alloc o).heap[g]? = some (.cells #[v] 27 (0, 0)) := by
  rw [Below.heap_alloc _ _ _ (Array.getElem?_eq_some_iff.1 h).1]
  exact h
theorem var_cell {w : World} {g : Nat} {v : Value} (h : w.heap[g]? = some (.cells #[v] 27 (0, 0))) : w.cell? ⟨g, 0, none⟩ = some v := by
  rw [cell_of_row w g 0 _ _ _ h]
  rfl
/-- Rows more. -/
theorem rows_append {W : World} {base g : Nat} {v : Value} {xs : List (List Int)} (h : Rows W base g v xs) (ty : TypeId) (ys : List (List Int)) (ad : Addr) (c : Nat) (vals2 : List Value) (hl : vals2.length = ys.length) (hcell : ∀ (j : Nat) (u : Value), vals2[j]? = some u → W.cell? (ad.add j) = some u)
    (hrow : ∀ (j : Nat) (x : List Int), ys[j]? = some x → ∃ A c, vals2[j]? = some (.slice A x.length c) ∧ x.length ≤ c ∧ B.C W A x.length x ∧ ∀ ad, A = some ad → 0 < x.length → ad.block < W.heap.size ∧ v.ownBlock ≠ some ad.block ∧ ad.block ≠ g)
    (hs : (xs.length + ys.length) * 24 ≤ 140737488355328) (hbase : base ≤ W.heap.size) :
    ∃ v1 w1, (Builtin.append_ #[27, 27] ty #[v, .slice (some ad) ys.length c]).run Try.prog W = .ok v1 w1 ∧ Rows w1 base g v1 (xs ++ ys) ∧ W.grownBy w1 v.ownBlock ∧ (v1.ownBlock = v.ownBlock ∨ v1.ownBlock = some W.heap.size) := by
  obtain ⟨vals, hown, hr⟩ := h.own
  obtain ⟨i0, hi, hz0, hz1, hz2⟩ := info_parts info23
  have hone : ∀ u ∈ vals2, u.oneCell' = true := by
    intro u hu
    obtain ⟨q, hq, rfl⟩ := List.mem_iff_getElem.1 hu
    obtain ⟨A, c', e1, _⟩ := hrow q _ (List.getElem?_eq_getElem (by omega))
    rw [List.getElem?_eq_getElem hq] at e1
    injection e1 with e1
    rw [e1]
    rfl
  obtain ⟨v1, w1, hrun, h2, hg, _, hat⟩ := run_append_own_at (P := Try.prog) W base 27 ty 23 i0 (.slice none 0 0) 1 24 Try.underlying27 hi hz0 hz1 hz2 rfl (by decide) v xs.length vals hown ad ys.length c vals2 (by rw [hl, Nat.mul_one]) hcell hone (by simp only [maxLen]; omega) hs hbase
  refine ⟨v1, w1, hrun, ⟨vals ++ vals2, by rw [List.length_append]; exact h2, ?_⟩, hg, hat⟩
  have hlv : vals.length = xs.length := by rw [hown.1, Nat.mul_one]
  have move : ∀ {A : Option Addr} {x : List Int}, B.C W A x.length x → (∀ ad, A = some ad → 0 < x.length → ad.block < W.heap.size ∧ v.ownBlock ≠ some ad.block ∧ ad.block ≠ g) → B.C w1 A x.length x ∧ ∀ ad, A = some ad → 0 < x.length → ad.block < w1.heap.size ∧ v1.ownBlock ≠ some ad.block ∧ ad.block ≠ g := by
    intro A x hc hf
    refine ⟨C_move hc (fun ad e hp => hg.block _ (hf ad e hp).1 (Ne.symm (hf ad e hp).2.1)), fun ad e hp => ⟨Nat.lt_of_lt_of_le (hf ad e hp).1 hg.size, ?_, (hf ad e hp).2.2⟩⟩
    rcases hat with hat | hat
    · rw [hat]; exact (hf ad e hp).2.1
    · rw [hat]
      have := (hf ad e hp).1
      intro e2
      injection e2 with e2
      omega
  intro j x hj
  rcases Nat.lt_or_ge j xs.length with hlt | hge
  · rw [List.getElem?_append_left hlt] at hj
    obtain ⟨A, c', e1, e2, e3, e4⟩ := hr j x hj
    obtain ⟨m1, m2⟩ := move e3 e4
    exact ⟨A, c', by rw [List.getElem?_append_left (by omega)]; exact e1, e2, m1, m2⟩
  · rw [List.getElem?_append_right hge] at hj
    obtain ⟨A, c', e1, e2, e3, e4⟩ := hrow _ x hj
    obtain ⟨m1, m2⟩ := move e3 e4
    exact ⟨A, c', by rw [List.getElem?_append_right (by omega), hlv]; exact e1, e2, m1, m2⟩

section
variable {P : Program} {ops : Array Oper} {o : Oper} {a : Act} {Q : Exit → Act → World → Prop} {Kc : Act → World → Prop}
theorem append_step {W w1 : World} {v : Value} (hw : Region.wanted o (yielded ops a.tmps) = true) (s x : Operand) (t : TypeId) (ho : o.op = .call { callee := .builtin .append, args := #[s, x], argTypes := #[t, t] }) (sv xv : Value) (hs : a.eval s = sv) (hx : a.eval x = xv)
    (hrun : (Builtin.append_ #[t, t] o.type #[sv, xv]).run P W = .ok v w1) (h : Kc (a.put o.dst v) w1) : if Region.wanted o (yielded ops a.tmps) = true then Oper.wp P o a W Kc Q else Kc (a.put o.dst undef) W := by
  rw [if_pos hw]
  unfold Oper.wp execOp
  simp only [ho, resolve, invoke, builtin, Sem.run_bind, Sem.run_pure, Result.andThen_ok, List.map_toArray, List.map_cons, List.map_nil, hs, hx, hrun]
  exact h
end
def addW (w : World) (Ax : Option Addr) (cx : Nat) (x : List Int) : World := (w.alloc (.cells (cells9 (formL x.length)) 51)).alloc (.cells #[.slice (some ⟨w.heap.size, 8 - (digs x.length).length, none⟩) (formL x.length).length (formL x.length).length, .slice Ax x.length cx] 23)
theorem add_rows {w : World} {base g : Nat} {v : Value} {xs : List (List Int)} {Ax : Option Addr} {cx : Nat} {x : List Int} (hR : Rows w base g v xs) (hr : B.C w Ax x.length x) (hc : x.length ≤ cx) (hn : x.length < 18446744073709551616) (hf : ∀ ad, Ax = some ad → 0 < x.length → ad.block < base) (hb : base ≤ g) (hgw : g < w.heap.size) (hs : (xs.length + 2) * 24 ≤ 140737488355328) :
    ∃ v1 w1, (Builtin.append_ #[27, 27] 27 #[v, .slice (some ⟨w.heap.size + 1, 0, none⟩) 2 2]).run Try.prog (addW w Ax cx x) = .ok v1 w1 ∧ Rows w1 base g v1 (xs ++ [formL x.length, x]) ∧ (addW w Ax cx x).grownBy w1 v.ownBlock ∧ (v1.ownBlock = v.ownBlock ∨ v1.ownBlock = some (addW w Ax cx x).heap.size) := by
  have hsz : (addW w Ax cx x).heap.size = w.heap.size + 2 := by simp [addW]
  obtain ⟨vals, hown, hrr⟩ := hR.own
  have hlt := hown.lt
  refine rows_append (W := addW w Ax cx x) (Rows.alloc (Rows.alloc hR _) _) 27 [formL x.length, x] ⟨w.heap.size + 1, 0, none⟩ 2 [.slice (some ⟨w.heap.size, 8 - (digs x.length).length, none⟩) (formL x.length).length (formL x.length).length, .slice Ax x.length cx] rfl (fun j u hj => ?_) (fun j y hj => ?_) hs (by rw [hsz]; omega)
  · unfold addW
    rw [add_zero3, cell_of_row _ _ _ _ _ (0, 0) (heap_new' _ _ _ (by simp))]
    simpa using hj
  · rcases j with _ | _ | j
    · obtain rfl : formL x.length = y := by simpa using hj
      refine ⟨_, _, rfl, Nat.le_refl _, Kd.C_alloc (form_reads w _ x.length hn) _, fun ad e hp => ?_⟩
      cases e
      refine ⟨by rw [hsz]; show w.heap.size < _; omega, fun e => ?_, by show w.heap.size ≠ g; omega⟩
      have := (hlt _ e).2
      simp at this
    · obtain rfl : x = y := by simpa using hj
      refine ⟨Ax, cx, rfl, hc, Kd.C_alloc (Kd.C_alloc hr _) _, fun ad e hp => ?_⟩
      have h1 := hf ad e hp
      refine ⟨by rw [hsz]; omega, fun e => ?_, by omega⟩
      have := (hlt _ e).1
      omega
    · simp at hj
def add_T0 : Bool × List (List Nat × List Nat) := (true, [([], []), ([], []), ([1], [1]), ([2], [2]), ([3], [3]), ([], []), ([4, 5], [4, 5]), ([0, 6, 4], [0, 6]), ([7, 7, 0, 1, 2, 3, 4, 5, 6, 7], [7])])
def add_B0 : List Nat := [0, 0, 2, 6, 14, 0, 62, 127, 255]
theorem add_tab0 : rtab .any (opsOf Try.f25 0) = add_T0 := by kernel_rfl
theorem add_bits0 : waitsOk add_T0.2 add_B0 = true := by kernel_rfl
set_option maxHeartbeats 1600000 in
set_option maxRecDepth 100000 in
/-- The closure of AppendList: a row's form, and the row, are put behind what is gathered. -/
theorem add_calls (Ax : Option Addr) (cx : Nat) (x : List Int) (g base : Nat) (v : Value) (xs : List (List Int)) (w : World) (hr : B.C w Ax x.length x) (hc : x.length ≤ cx) (hx : x.length < 140737488355300) (hg : w.heap[g]? = some (.cells #[v] 27 (0, 0))) (hb : base ≤ g) (hR : Rows w base g v xs) (hv : v.ownBlock ≠ some g) (hf : ∀ ad, Ax = some ad → 0 < x.length → ad.block < base) (hs : (xs.length + 2) * 24 ≤ 140737488355328) :
    Calls Try.prog 25 #[.slice Ax x.length cx, .pointer (some ⟨g, 0, none⟩)] w fun e w' => e = .returned (.tuple #[]) ∧ ∃ v', w'.heap[g]? = some (.cells #[v'] 27 (0, 0)) ∧ Rows w' base g v' (xs ++ [formL x.length, x]) ∧ v'.ownBlock ≠ some g ∧ w.heap.size ≤ w'.heap.size ∧ Below base w w' := by
  have hn : x.length < 18446744073709551616 := by omega
  have hm : x.length ≤ 18446744073709551615 := by omega
  have hg0 : w.drew.heap[g]? = some (.cells #[v] 27 (0, 0)) := hg
  have hS0 : w.drew.cell? ⟨g, 0, none⟩ = some v := var_cell hg0
  have HR := Aside0.mk hr
  have HRS := Aside0.mk hR
  have hbs : base ≤ w.heap.size := by have := (Array.getElem?_eq_some_iff.1 hg).1; omega
  have hwr : IntKind.u64.wrap (x.length : Int) = (x.length : Int) := wrap_u64 _ hn
  clear hr hR
  go_enter Try.func25, Try.ntmps25
  refine start_ (n := 9) (S := fun w' => w'.cell? ⟨g, 0, none⟩ = some v) (ds := [7, 8]) #[false, false, false, false, false, false, false, false, false] (by kernel_rfl) rfl rfl (by exact hS0) (fun hHeld => ?_)
  refine with_tabW add_tab0 add_bits0 (fun HT_ HW_ => ?_)
  refine take_ (i := 0) (N := some 3) (v := ?_) (a' := ?_) #[true, false, false, false, false, false, false, false, false] rfl rfl (take_ofW HT_.out HW_.out (by kernel_rfl)) (fun _ _ _ h => h) (Or.inl ⟨by rfl, ?_⟩) hHeld ?_ ?_
  rotate_left
  · intro w' hSt
    go_simp
    with_reducible rfl
  rotate_left
  · simp only [Act.put, List.setIfInBounds_toArray, List.set_cons_zero, List.set_cons_succ, i64_w, i32_w]
    rfl
  refine pure_ (i := 1) (N := some 4) (v := ?_) (a' := ?_) #[true, true, false, false, false, false, false, false, false] rfl rfl (any_of HT_.out (by kernel_rfl)) (fun _ _ _ h => h) (Or.inl ⟨by rfl, ?_⟩) ?_ ?_
  rotate_left
  · intro w'
    go_simp
    with_reducible rfl
  rotate_left
  · simp only [Act.put, List.setIfInBounds_toArray, List.set_cons_zero, List.set_cons_succ, i64_w, i32_w]
    rfl
  refine pure_ (i := 2) (N := some 5) (v := ?_) (a' := ?_) #[true, true, true, false, false, false, false, false, false] rfl rfl (any_of HT_.out (by kernel_rfl)) (fun _ _ _ h => h) (Or.inl ⟨by rfl, ?_⟩) ?_ ?_
  rotate_left
  · intro w'
    go_simp
    with_reducible rfl
  rotate_left
  · simp only [Act.put, List.setIfInBounds_toArray, List.set_cons_zero, List.set_cons_succ, i64_w, i32_w]
    rfl
  refine pure_ (i := 3) (N := some 6) (v := ?_) (a' := ?_) #[true, true, true, true, false, false, false, false, false] rfl rfl (any_of HT_.out (by kernel_rfl)) (fun _ _ _ h => h) (Or.inl ⟨by rfl, ?_⟩) ?_ ?_
  rotate_left
  · intro w'
    go_simp
    with_reducible rfl
  rotate_left
  · simp only [Act.put, List.setIfInBounds_toArray, List.set_cons_zero, List.set_cons_succ, i64_w, i32_w]
    rfl
  refine pure_ (i := 5) (N := some 8) (v := ?_) (a' := ?_) #[true, true, true, true, false, true, false, false, false] rfl rfl (any_of HT_.out (by kernel_rfl)) (fun _ _ _ h => h) (Or.inl ⟨by rfl, ?_⟩) ?_ ?_
  rotate_left
  · intro w'
    go_simp
    with_reducible rfl
  rotate_left
  · simp only [Act.put, List.setIfInBounds_toArray, List.set_cons_zero, List.set_cons_succ, i64_w, i32_w]
    rfl
  refine one_ (i := 4) (N := some 7) #[true, true, true, true, true, true, false, false, false] rfl rfl (one_of HT_.out (by kernel_rfl)) (by decide) (fun K hK => ?_)
  refine goes_ Try.func24 (by kernel_rfl) rfl #[.int .u64 x.length] (by rfl) rfl rfl (by (try simp only [List.map_toArray, List.map_cons, List.map_nil]); first | done | rfl) ?_
  refine (form_calls x.length hn _).mono ?_
  rintro e w9 ⟨rfl, rfl⟩
  refine ⟨_, rfl, ?_⟩
  refine hK.out _ _ (by first | exact var_cell (var_alloc hg0 _) | exact var_cell (var_alloc (var_alloc hg0 _) _)) (fun hHeld => ?_)
  clear hK K
  refine norm_ (a' := ?_) ?_ ?_
  rotate_left
  · first
    | (show Act.put _ (some 7) _ = _; simp only [Act.put, List.setIfInBounds_toArray, List.set_cons_zero, List.set_cons_succ, i64_w, i32_w]; rfl)
    | rfl
  refine one_ (i := 6) (N := some 9) #[true, true, true, true, true, true, true, false, false] rfl rfl (one_of HT_.out (by kernel_rfl)) (by decide) (fun K hK => ?_)
  go_simp
  refine hK.out _ _ (by first | exact var_cell (var_alloc hg0 _) | exact var_cell (var_alloc (var_alloc hg0 _) _)) (fun hHeld => ?_)
  clear hK K
  refine norm_ (a' := ?_) ?_ ?_
  rotate_left
  · first
    | (show Act.put _ (some 9) _ = _; simp only [Act.put, List.setIfInBounds_toArray, List.set_cons_zero, List.set_cons_succ, i64_w, i32_w]; rfl)
    | rfl
  refine last_ (i := 7) (N := some 10) #[true, true, true, true, true, true, true, true, false] rfl rfl (one_of HT_.out (by kernel_rfl)) (by decide) (fun K hK => ?_)
  obtain ⟨v1, w1, hrun, hR1, hgr, hat⟩ := add_rows (w := w.drew) HRS.out.drew HR.out hc hn hf hb (lt_of_block hg) hs
  obtain ⟨A1, n1, c1, rfl⟩ := hR1.shape
  refine append_step (v := .slice A1 n1 c1) (w1 := w1) (by rfl) (.tmp 3) (.tmp 9) 27 rfl v (.slice (some ⟨w.heap.size + 1, 0, none⟩) 2 2) rfl rfl hrun ?_
  refine hK.out _ _ ?_
  clear hK K
  refine norm_ (a' := ?_) ?_ ?_
  rotate_left
  · first
    | (show Act.put _ (some 10) _ = _; simp only [Act.put, List.setIfInBounds_toArray, List.set_cons_zero, List.set_cons_succ, i64_w, i32_w]; rfl)
    | rfl
  refine last_ (i := 8) (N := none) #[true, true, true, true, true, true, true, true, true] rfl rfl (one_of HT_.out (by kernel_rfl)) (by decide) (fun K hK => ?_)
  have hg1 : w1.heap[g]? = some (.cells #[v] 27 (0, 0)) := (hgr.block g (by simp [addW]; have := (Array.getElem?_eq_some_iff.1 hg).1; omega) (Ne.symm hv)).trans (var_alloc (var_alloc hg0 _) _)
  have hcg := var_cell hg1
  have hfg : w1.frozen? ⟨g, 0, none⟩ = false := by simp [World.frozen?, hg1]
  go_simp
  refine hK.out _ _ ?_
  clear hK K
  refine norm_ (a' := ?_) ?_ ?_
  rotate_left
  · first
    | (show Act.put _ none _ = _; simp only [Act.put, List.setIfInBounds_toArray, List.set_cons_zero, List.set_cons_succ, i64_w, i32_w]; rfl)
    | rfl
  refine done_ (done_of HT_.out (by kernel_rfl)) ?_
  go_wp2
  go_end0
  have hgw := lt_of_block hg
  have hg1 : w1.heap[g]? = some (.cells #[v] 27 (0, 0)) := (hgr.block g (by simp [addW]; omega) (Ne.symm hv)).trans (var_alloc (var_alloc hg0 _) _)
  have hv1 : (Value.slice A1 n1 c1).ownBlock ≠ some g := by
    rcases hat with hat | hat
    · rw [hat]; exact hv
    · rw [hat]; intro e; injection e with e; simp [addW] at e; omega
  have hown := hR1.own
  refine ⟨rfl, _, one_setCell hg1, hR1.setVar hv1, hv1, ?_, ?_⟩
  · have := hgr.size
    simp [addW] at this
    simp [World.setCell]
    omega
  · have h0 : Below base w (addW w.drew Ax cx x) := ((Below.refl _ _).drew.alloc (by simp; omega) _).alloc (by simp; omega) _
    exact (h0.grown hgr (by simp [addW]; omega) (fun k hk => by
      obtain ⟨vals, hown, _⟩ := HRS.out.own
      exact (hown.lt k hk).1)).setCell (by simpa using hb) _

theorem C_lt {w : World} {A : Option Addr} {xs : List Int} (h : B.C w A xs.length xs) : ∀ ad, A = some ad → 0 < xs.length → ad.block < w.heap.size := by
  intro ad e hp
  obtain ⟨ad', e', hx⟩ := getB h 0 hp
  rw [e] at e'
  cases e'
  have := World.block_lt_of_cell? w _ hx
  simpa [Addr.add_zero'] using this
def gathered (l0 : List Int) (l1 : List (List Int)) (k : Nat) : List (List Int) := [l0, formL l1.length] ++ ((l1.take k).map fun x => [formL x.length, x]).flatten
theorem gathered_succ (l0 : List Int) (l1 : List (List Int)) (k : Nat) (h : k < l1.length) : gathered l0 l1 (k + 1) = gathered l0 l1 k ++ [formL (rowD l1 k).length, rowD l1 k] := by
  unfold gathered rowD
  rw [List.take_succ_eq_append_getElem h, List.map_append, List.flatten_append, List.getD_eq_getElem?_getD, List.getElem?_eq_getElem h]
  simp
theorem gathered_len (l0 : List Int) (l1 : List (List Int)) (k : Nat) (h : k ≤ l1.length) : (gathered l0 l1 k).length = 2 + 2 * k := by
  induction k with
  | zero => simp [gathered]
  | succ k ih =>
    rw [gathered_succ _ _ _ (by omega), List.length_append, ih (by omega)]
    simp
    omega
theorem gathered_flat (l0 : List Int) (l1 : List (List Int)) : (gathered l0 l1 l1.length).flatten = l0 ++ listL l1 := by
  unfold gathered listL rowL
  rw [List.take_length, List.flatten_append]
  simp only [List.flatten_cons, List.flatten_nil, List.append_nil, List.append_assoc]
  congr 2
  induction l1 with
  | nil => rfl
  | cons x l ih => simp only [List.map_cons, List.flatten_cons, List.cons_append, List.nil_append, ih, List.append_assoc]
theorem row_le (l0 : List Int) (l1 : List (List Int)) (k : Nat) (h : k < l1.length) : (rowD l1 k).length ≤ (l0 ++ listL l1).length := by
  have h1 : rowL (rowD l1 k) ∈ l1.map rowL := List.mem_map.2 ⟨_, by unfold rowD; rw [List.getD_eq_getElem?_getD, List.getElem?_eq_getElem h]; exact List.getElem_mem h, rfl⟩
  have h2 : (rowL (rowD l1 k)).length ≤ ((l1.map rowL).flatten).length := by
    obtain ⟨a, b, e⟩ := List.append_of_mem h1
    rw [e]
    simp only [List.flatten_append, List.flatten_cons, List.length_append]
    omega
  have h3 : (rowD l1 k).length ≤ (rowL (rowD l1 k)).length := by simp [rowL]
  simp only [listL, List.length_append]
  omega
def listW (w : World) (A0 : Option Addr) (c0 : Nat) (l0 : List Int) (l1 : List (List Int)) : World := ((w.alloc (.cells (cells9 (formL l1.length)) 51)).alloc (.cells #[.slice A0 l0.length c0, .slice (some ⟨w.heap.size, 8 - (digs l1.length).length, none⟩) (formL l1.length).length (formL l1.length).length] 23)).alloc (.cells #[.slice (some ⟨w.heap.size + 1, 0, none⟩) 2 2] 27)
theorem list_start (w : World) (A0 : Option Addr) (c0 : Nat) (l0 : List Int) (l1 : List (List Int)) (hr : B.C w A0 l0.length l0) (hc : l0.length ≤ c0) (hn : l1.length < 18446744073709551616) :
    (listW w A0 c0 l0 l1).heap[w.heap.size + 1 + 1]? = some (.cells #[.slice (some ⟨w.heap.size + 1, 0, none⟩) 2 2] 27 (0, 0)) ∧
    Rows (listW w A0 c0 l0 l1) w.heap.size (w.heap.size + 1 + 1) (.slice (some ⟨w.heap.size + 1, 0, none⟩) 2 2) (gathered l0 l1 0) ∧ Below w.heap.size w (listW w A0 c0 l0 l1) := by
  unfold listW
  refine ⟨heap_new' _ _ _ (by simp), ⟨[.slice A0 l0.length c0, .slice (some ⟨w.heap.size, 8 - (digs l1.length).length, none⟩) (formL l1.length).length (formL l1.length).length], ?_, fun j x hj => ?_⟩, ?_⟩
  · have h := World.ownsRow_lit (base := w.heap.size) (e := 23) (size := 1) (w.alloc (.cells (cells9 (formL l1.length)) 51)) #[.slice A0 l0.length c0, .slice (some ⟨w.heap.size, 8 - (digs l1.length).length, none⟩) (formL l1.length).length (formL l1.length).length] 2 (by simp) (by simp [maxLen]) rfl
    have h2 := h.alloc (.cells #[.slice (some ⟨w.heap.size + 1, 0, none⟩) 2 2] 27)
    rw [gathered_len _ _ _ (Nat.zero_le _)]
    simpa using h2
  · have hj' : [l0, formL l1.length][j]? = some x := by simpa [gathered] using hj
    rcases j with _ | _ | j
    · obtain rfl : l0 = x := by simpa using hj'
      refine ⟨A0, c0, rfl, hc, Kd.C_alloc (Kd.C_alloc (Kd.C_alloc hr _) _) _, fun ad e hp => ?_⟩
      have := C_lt hr ad e hp
      refine ⟨by simp; omega, fun e => ?_, by omega⟩
      injection e with e
      simp at e
      omega
    · obtain rfl : formL l1.length = x := by simpa using hj'
      refine ⟨_, _, rfl, Nat.le_refl _, Kd.C_alloc (Kd.C_alloc (form_reads w _ l1.length hn) _) _, fun ad e hp => ?_⟩
      cases e
      refine ⟨by simp; omega, fun e => ?_, by show w.heap.size ≠ _; omega⟩
      injection e with e
      simp at e
    · simp at hj'
  · exact (((Below.refl w.heap.size w).alloc (Nat.le_refl _) _).alloc (by simp) _).alloc (by simp; omega) _
set_option maxHeartbeats 1600000 in
set_option maxRecDepth 100000 in
/-- A list behind bytes. -/
theorem appendList_calls (A0 : Option Addr) (c0 : Nat) (l0 : List Int) (A1 : Option Addr) (c1 : Nat) (l1 : List (List Int)) (w : World) (hr0 : B.C w A0 l0.length l0) (hc0 : l0.length ≤ c0) (hr1 : Kd.C (Kd.slice 5 B) w A1 l1.length l1) (hc1 : l1.length ≤ c1) (hL : (l0 ++ listL l1).length < 140737488355300) (h1 : l1.length ≤ 100000) :
    Calls Try.prog 12 #[.slice A0 l0.length c0, .slice A1 l1.length c1] w fun e w' => ∃ v0_ : Value, e = .returned v0_ ∧ Kd.R B 5 w' w.heap.size (fun _ => True) v0_ (l0 ++ listL l1) ∧ Below w.heap.size w w' := by
  have HR := Aside0.mk hr0
  have HR1 := Aside0.mk hr1
  have hn : l1.length < 18446744073709551616 := by omega
  have hf := formL_len l1.length hn
  clear hr0 hr1
  have hm : l1.length ≤ 18446744073709551615 := by omega
  go_enter Try.func12, Try.ntmps12
  go_wp2_with (go_at_call 24; refine (form_calls l1.length hn _).mono ?_; rintro e w' ⟨rfl, rfl⟩)
  go_loopw [18] (fun i wr => ∃ (k : Nat) (v : Value), k ≤ l1.length ∧ i = .int .i64 k ∧ Aside0 (wr.heap[w.heap.size + 1 + 1]? = some (.cells #[v] 27 (0, 0))) ∧ Aside0 (Rows wr w.heap.size (w.heap.size + 1 + 1) v (gathered l0 l1 k)) ∧ Aside0 (v.ownBlock ≠ some (w.heap.size + 1 + 1)) ∧ Aside0 (Below w.heap.size w wr)) (fun i _ => l1.length - (intOf i).toNat)
  case atStart =>
    obtain ⟨s1, s2, s3⟩ := list_start w A0 c0 l0 l1 HR.out hc0 hn
    exact ⟨0, _, Nat.zero_le _, rfl, ⟨s1⟩, ⟨s2⟩, ⟨by simp [Value.ownBlock]⟩, ⟨s3⟩⟩
  case round =>
    obtain ⟨k, v, hk, rfl, HG, HS, HV, HB⟩ := hrel
    by_cases hlt : k < l1.length
    · obtain ⟨ad, Ax, cx, rfl, hx0, hcx, hrx0⟩ := row_at HR1.out k hlt
      have hq := row_le l0 l1 k hlt
      have hx : wr.cell? (ad.add k) = some (.slice Ax (rowD l1 k).length cx) := (HB.out.cell (World.block_lt_of_cell? w _ hx0)).trans hx0
      have HX := Aside0.mk (Kd.C_below hrx0 HB.out)
      have HF := Aside0.mk (C_lt hrx0)
      have hgl := gathered_len l0 l1 k hk
      have HGS := Aside0.mk (gathered_succ l0 l1 k hlt)
      clear hrx0 hx0
      generalize rowD l1 k = x at *
      go_wp2_with (go_at_call 25; refine (add_calls Ax cx x (w.heap.size + 1 + 1) w.heap.size v (gathered l0 l1 k) _ HX.out hcx (by omega) HG.out (by omega) HS.out HV.out HF.out (by rw [hgl]; omega)).mono ?_; rintro e w1 ⟨rfl, v1, hg1, hs1, hv1, hz1, hb1⟩; have HG1 := Aside0.mk hg1; have HS1 := Aside0.mk hs1; have HV1 := Aside0.mk hv1; have HB1 := Aside0.mk (HB.out.trans hb1); clear hg1 hs1 hv1 hb1 hz1)
      go_roundw
      case rel => exact ⟨k + 1, v1, by omega, by go_num, HG1, ⟨by rw [HGS.out]; exact HS1.out⟩, HV1, HB1⟩
      case measure => simp [intOf]; omega
    · obtain rfl : k = l1.length := by omega
      obtain ⟨Av, cv, rfl, hcv, hrv⟩ := HS.out.reads (by rw [gathered_len _ _ _ (Nat.le_refl _)]; omega)
      have hcell := var_cell HG.out
      have HRV := Aside0.mk hrv
      have HFL := Aside0.mk (gathered_flat l0 l1)
      clear hrv
      generalize gathered l0 l1 l1.length = xs at *
      go_wp2_with fail
      refine (behind_calls Av cv xs _ HRV.out hcv ?h2).mono ?_
      case h2 => rw [flen_all, HFL.out]; omega
      rintro e w' ⟨v, rfl, hr, hb⟩
      rw [HFL.out] at hr
      go_wp2
      go_ret
      exact ⟨v, rfl, Kd.R_lower hr HB.out.size, below_step HB.out hb⟩
end Go.Proofs.Ytekhejpkmlhllaa.Hand
