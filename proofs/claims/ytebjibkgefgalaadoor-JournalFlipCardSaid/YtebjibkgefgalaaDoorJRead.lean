/- What calls of Go functions of this seat come to, as the rows need it: under the conditions that each theorem names. -/
import Derived.Test.YtebjibkgefgalaaDoorJAll
import Derived.Maps.AppendAt
namespace Go.Proofs.YtebjibkgefgalaaDoor.Jr
open Go.RowKit Go.Proofs.YtebjibkgefgalaaDoorW.PrintWords Go.Proofs.YtebjibkgefgalaaDoorW.PrintLast Go.Proofs.YtebjibkgefgalaaDoorW.PrintMore
set_option linter.unusedVariables false
set_option linter.unusedSimpArgs false
open Go.Shelf
open Go.Proofs.YtebjibkgefgalaaDoor.Hand (B info5)
open Go.Proofs.YtebjibkgefgalaaDoor.Sha (Tab heap_new heap_keep cell_of)
attribute [local go_sem] Oper.semAt_some
/-- A block of bytes, whatever bytes below place i, the row's from there on. -/
def Bk (w : World) (g i : Nat) (l : List Int) : Prop := ∃ cur : Array Value, w.heap[g]? = some (.cells cur 5 (0, 0)) ∧ (∀ j, j < l.length → j < cur.size) ∧ ∀ j, i ≤ j → ∀ x, l[j]? = some x → cur[j]? = some (.int .u8 x)
theorem Bk.set {w : World} {g i : Nat} {l : List Int} (h : Bk w g i l) (y : Int) : Bk (w.setCell ⟨g, i, none⟩ (.int .u8 y)) g (i + 1) l := by
  obtain ⟨cur, h1, h2, h3⟩ := h
  refine ⟨_, blk_set h1 i _, fun j hj => by rw [Array.size_setIfInBounds]; exact h2 j hj, fun j hj x hx => ?_⟩
  rw [Array.getElem?_setIfInBounds_ne (by omega)]
  exact h3 j (by omega) x hx
theorem Bk.cell {w : World} {g i : Nat} {l : List Int} (h : Bk w g i l) (x : Int) (hx : l[i]? = some x) : w.cell? ⟨g, i, none⟩ = some (.int .u8 x) ∧ w.frozen? ⟨g, i, none⟩ = false := by
  obtain ⟨cur, h1, h2, h3⟩ := h
  exact ⟨(cell_of h1).2 (h3 i (Nat.le_refl i) x hx), by simp [World.frozen?, h1]⟩
theorem Bk.keep {w w' : World} {g i : Nat} {l : List Int} (h : Bk w g i l) (hk : ∀ cells, w.heap[g]? = some (.cells cells 5 (0, 0)) → w'.heap[g]? = some (.cells cells 5 (0, 0))) : Bk w' g i l := by
  obtain ⟨cur, h1, h2⟩ := h
  exact ⟨cur, hk _ h1, h2⟩
theorem Bk.lt {w : World} {g i : Nat} {l : List Int} (h : Bk w g i l) : g < w.heap.size := by
  obtain ⟨cur, h1, _⟩ := h
  exact (Array.getElem?_eq_some_iff.1 h1).1
theorem Bk.below {w w' : World} {g i : Nat} {l : List Int} (h : Bk w g i l) (hb : Below w.heap.size w w') : Bk w' g i l := h.keep (fun _ h1 => heap_keep h1 hb)
theorem Bk.C {w : World} {g : Nat} {l : List Int} (h : Bk w g 0 l) (hl : l.length ≤ 9223372036854775807) : B.C w (some ⟨g, 0, none⟩) l.length l := by
  obtain ⟨cur, h1, _, h3⟩ := h
  refine Hand.C_block .u8 h1 l (fun j x hx => ?_) hl
  rw [Nat.zero_add]
  exact h3 j (Nat.zero_le j) x hx
theorem Bk.of {w : World} {base : Nat} {ok : Nat → Prop} {A : Option Addr} {n c : Nat} {xs : List Int} (h : Kd.R B 5 w base ok (.slice A n c) xs) (hp : 0 < xs.length) : ∃ g, A = some ⟨g, 0, none⟩ ∧ base ≤ g ∧ Bk w g 0 xs := by
  have hC := (Kd.R_reads' h).2.2
  obtain ⟨g, cap, e, hb, _, cells, hc⟩ := Kd.R_form h hp
  injection e with e1 e2 e3
  have hx : ∀ j, ∀ x, xs[j]? = some x → cells[j]? = some (Value.int .u8 x) := fun j x hx => by
    obtain ⟨hj, hjx⟩ := List.getElem?_eq_some_iff.1 hx
    obtain ⟨ad, e, hx⟩ := Hand.getB hC j hj
    rw [e1] at e
    injection e with e
    subst e
    rw [show (Addr.mk g 0 none).add j = ⟨g, j, none⟩ by simp [Addr.add_lit], show rd xs (j : Int) = x by unfold rd; rw [Int.toNat_natCast, List.getD_eq_getElem?_getD, List.getElem?_eq_getElem hj, hjx]; rfl] at hx
    exact (cell_of hc).1 hx
  exact ⟨g, e1, hb, cells, hc, fun j hj => (Array.getElem?_eq_some_iff.1 (hx j xs[j] (List.getElem?_eq_getElem hj))).1, fun j _ x h => hx j x h⟩
/-- The records that are had: heads in a row of the call's own, each one's bytes in a block of its own. -/
def Recs (W : World) (base : Nat) (v : Value) (xs : List (List Int)) : Prop := ∃ (hs : List Value) (g cc : Nat → Nat), W.ownsRow base 22 1 v xs.length hs ∧ hs.length = xs.length ∧
  ∀ i x, xs[i]? = some x → hs[i]? = some (.slice (some ⟨g i, 0, none⟩) x.length (cc i)) ∧ x.length ≤ cc i ∧ base ≤ g i ∧ Bk W (g i) 0 x ∧ ∀ j, j < i → g j < g i
theorem Recs.keep {W W' : World} {base : Nat} {v : Value} {xs : List (List Int)} (h : Recs W base v xs) (hv : ∀ k, v.ownBlock = some k → W'.heap[k]? = W.heap[k]?) (hk : ∀ (k : Nat) (cells : Array Value), W.heap[k]? = some (.cells cells 5 (0, 0)) → W'.heap[k]? = some (.cells cells 5 (0, 0))) : Recs W' base v xs := by
  obtain ⟨hs, g, cc, ho, hl, hi⟩ := h
  refine ⟨hs, g, cc, own_move ho hv, hl, fun i x hx => ?_⟩
  obtain ⟨h1, h2, h3, h4, h5⟩ := hi i x hx
  exact ⟨h1, h2, h3, h4.keep (hk _), h5⟩
theorem Recs.below {W W' : World} {base : Nat} {v : Value} {xs : List (List Int)} (h : Recs W base v xs) (hb : Below W.heap.size W W') : Recs W' base v xs := by
  have ho := h.choose_spec.choose_spec.choose_spec.1
  exact h.keep (fun k hk => hb.block k (own_lt ho k hk)) (fun k cells hk => heap_keep hk hb)
theorem Recs.nil (W : World) (base : Nat) : Recs W base (.slice none 0 0) [] := ⟨[], fun _ => 0, fun _ => 0, World.ownsRow_nil _ _ _ _, rfl, fun i x hx => by simp at hx⟩
theorem Recs.snoc {W : World} {base : Nat} {S : Value} {hs : List Value} {g cc : Nat → Nat} {xs : List (List Int)} {x : List Int} {gx cx : Nat} (co : W.ownsRow base 22 1 S (xs.length + 1) (hs ++ [.slice (some ⟨gx, 0, none⟩) x.length cx])) (hl : hs.length = xs.length)
    (hit : ∀ i y, xs[i]? = some y → hs[i]? = some (.slice (some ⟨g i, 0, none⟩) y.length (cc i)) ∧ y.length ≤ cc i ∧ base ≤ g i ∧ Bk W (g i) 0 y ∧ (∀ j, j < i → g j < g i) ∧ g i < gx) (hcx : x.length ≤ cx) (hgx : base ≤ gx) (hbk : Bk W gx 0 x) : Recs W base S (xs ++ [x]) := by
  obtain ⟨G, hG1, hG2⟩ : ∃ G : Nat → Nat, (∀ i, i ≠ xs.length → G i = g i) ∧ G xs.length = gx := ⟨fun i => if i = xs.length then gx else g i, fun i h => if_neg h, if_pos rfl⟩
  obtain ⟨D, hD1, hD2⟩ : ∃ G : Nat → Nat, (∀ i, i ≠ xs.length → G i = cc i) ∧ G xs.length = cx := ⟨fun i => if i = xs.length then cx else cc i, fun i h => if_neg h, if_pos rfl⟩
  refine ⟨hs ++ [.slice (some ⟨gx, 0, none⟩) x.length cx], G, D, by rw [List.length_append]; exact co, by simp [hl], fun i y hy => ?_⟩
  rcases Nat.lt_trichotomy i xs.length with hi | hi | hi
  · rw [List.getElem?_append_left hi] at hy
    obtain ⟨h1, h2, h3, h4, h5, h6⟩ := hit i y hy
    rw [hG1 i (by omega), hD1 i (by omega)]
    refine ⟨by rw [List.getElem?_append_left (by rw [hl]; exact hi)]; exact h1, h2, h3, h4, fun j hj => ?_⟩
    rw [hG1 j (by omega)]
    exact h5 j hj
  · subst hi
    rw [List.getElem?_append_right (Nat.le_refl _), Nat.sub_self] at hy
    obtain rfl : x = y := by simpa using hy
    rw [hG2, hD2]
    refine ⟨by rw [List.getElem?_append_right (by rw [hl]; exact Nat.le_refl _), hl, Nat.sub_self]; rfl, hcx, hgx, hbk, fun j hj => ?_⟩
    rw [hG1 j (by omega)]
    exact (hit j _ (List.getElem?_eq_getElem hj)).2.2.2.2.2
  · rw [List.getElem?_eq_none (by simp; omega)] at hy
    cases hy
theorem Recs.lower {W : World} {base base' : Nat} {v : Value} {xs : List (List Int)} (h : Recs W base v xs) (hb : base' ≤ base) : Recs W base' v xs := by
  obtain ⟨hs, g, cc, ho, hl, hi⟩ := h
  exact ⟨hs, g, cc, own_weaken ho hb, hl, fun i x hx => by
    obtain ⟨h1, h2, h3, h4, h5⟩ := hi i x hx
    exact ⟨h1, h2, Nat.le_trans hb h3, h4, h5⟩⟩
/-- Entering a range over a closure: its record and the block for deferred calls are laid, the closure is called with yield. -/
theorem range_enter {P : Program} {n : Nat} {g : Operand} {ps : Array Tmp} {assign body : Code} {Q : Exit → Act → World → Prop} {a : Act} {w : World} {gf : Nat} {lb : Array Value} (h1 : 1 ≤ n)
    (hg : a.eval g = .func (.func gf) #[] lb) (eg : ∀ (args : Array Value) (w : World), (callFunc gf args).run P w = .ok (.enter gf args) w)
    (h : ∀ fn : FuncId, CallsIn Fence.wide (n - 1) P gf (#[.func (.yield (w.heap.size + 1)) #[] #[]] ++ lb)
      ((w.alloc (.deferred (some []))).alloc (.loop { state := .ready, pending := none, fn := fn, tmps := a.tmps, params := ps, assign := assign, body := body, defers := w.heap.size }))
      (rangePost Fence.wide n P (w.heap.size + 1) Q { a with defers := [{ target := .collected w.heap.size, args := #[] }] ++ a.defers })) :
    (Code.rangeFunc g ps assign body).wpIn Fence.wide n P Q a w := by
  refine wpIn_rangeFunc (fun fn _ => ?_)
  have hc := h fn
  have he := run_enterLoop_outer (P := P) (w := w) fn a.tmps ps assign body
  revert he hc
  generalize (w.alloc (.deferred (some []))).alloc (.loop { state := .ready, pending := none, fn := fn, tmps := a.tmps, params := ps, assign := assign, body := body, defers := w.heap.size }) = W1
  intro hc he
  refine ⟨w.heap.size + 1, [{ target := .collected w.heap.size, args := #[] }], W1, { target := .fn (.func gf) lb, args := #[.func (.yield (w.heap.size + 1)) #[] #[]] }, W1, gf, _, W1, he, ?_, fun _ _ => trivial, ?_, fun _ => h1, hc⟩
  · simp only [resolve, hg]
    simp [go_sem]
  · simp [invoke, go_sem, eg]
theorem infoB : (Tryd.prog.info? 22).map (fun i => (i.zero, i.size, i.bytes)) = some (some (.slice none 0 0), 1, 24) := by kernel_rfl
theorem all_calls (A : Option Addr) (l c : Nat) (w : World) (hl : l ≤ 9223372036854775807) (hc : l ≤ c) :
    Calls Tryd.prog 21 #[.slice A l c] w fun e w' => e = .returned (.func (.func 29) #[] #[.pointer (some ⟨w.heap.size, 0, none⟩)]) ∧ w' = w.alloc (.cells #[.slice A l c] 22) := by
  go_enter Tryd.func21, Tryd.ntmps21
  go_wp2
  go_ret
  exact ⟨rfl, rfl⟩
/-- What the loop over the records holds between two rounds. -/
structure JR (w0 : World) (A : Option Addr) (n c l D : Nat) (rec : Loop) (pre : List (List Int)) (a : Nat) (W : World) : Prop where
  vec : ∃ v, Boxed W w0.heap.size 31 v ∧ Recs W (w0.heap.size + 1 + 1 + 1) v pre
  num : Boxed W (w0.heap.size + 1) 3 (.int .i64 (a : Int))
  arg : Boxed W (w0.heap.size + 1 + 1) 22 (.slice A n c)
  loop : W.heap[l]? = some (.loop rec)
  dfr : W.heap[D]? = some (.deferred (some []))
  bel : Below w0.heap.size w0 W
theorem JR.below {w0 : World} {A : Option Addr} {n c l D : Nat} {rec : Loop} {pre : List (List Int)} {a : Nat} {W W' : World} (h : JR w0 A n c l D rec pre a W) (hb : Below W.heap.size W W') : JR w0 A n c l D rec pre a W' := by
  obtain ⟨v, h1, h2⟩ := h.vec
  exact ⟨⟨v, heap_keep h1 hb, h2.below hb⟩, heap_keep h.num hb, heap_keep h.arg hb, heap_keep h.loop hb, heap_keep h.dfr hb, below_step h.bel hb⟩
/-- What is told at the end. -/
structure JF (w0 : World) (v : Value) (xs : List (List Int)) (a D : Nat) (W : World) : Prop where
  vec : Boxed W w0.heap.size 31 v
  num : Boxed W (w0.heap.size + 1) 3 (.int .i64 (a : Int))
  recs : Recs W (w0.heap.size + 1 + 1 + 1) v xs
  dfr : W.heap[D]? = some (.deferred (some []))
  bel : Below w0.heap.size w0 W
theorem JF.keep {w0 : World} {v : Value} {xs : List (List Int)} {a D B : Nat} {W W' : World} {t : TypeId} {u : Value} (h : JF w0 v xs a D W) (hB : Boxed W B t u) (ht : t ≠ 22 ∧ t ≠ 5) (hw : w0.heap.size ≤ B) (h2 : Boxed W' w0.heap.size 31 v) (h3 : Boxed W' (w0.heap.size + 1) 3 (.int .i64 (a : Int))) (x : Value) (hW : W' = W.setCell ⟨B, 0, none⟩ x) : JF w0 v xs a D W' := by
  have hk : ∀ k, k ≠ B → W'.heap[k]? = W.heap[k]? := fun k hk => by rw [hW]; exact Below.heap_setCell _ ⟨B, 0, none⟩ _ k hk
  refine ⟨h2, h3, h.recs.keep (fun k hk2 => ?_) (fun k cells hk2 => (hk k (fun e => ?_)).trans hk2), (hk D (fun e => ?_)).trans h.dfr, by rw [hW]; exact h.bel.setCell (p := ⟨B, 0, none⟩) hw _⟩
  · obtain ⟨cells, hc⟩ := own_typed h.recs.choose_spec.choose_spec.choose_spec.1 k hk2
    refine hk k (fun e => ?_)
    rw [e, show W.heap[B]? = _ from hB] at hc
    injection hc with hc
    injection hc with _ hc
    exact ht.1 hc
  · rw [e, show W.heap[B]? = _ from hB] at hk2
    injection hk2 with hk2
    injection hk2 with _ hk2
    exact ht.2 hk2
  · have := h.dfr
    rw [e, show W.heap[B]? = _ from hB] at this
    cases this
theorem results_two {P : Program} {fn : Func} {p q : Tmp} {ty uy : TypeId} (h : fn.results = #[.cell p ty, .cell q uy]) (tmps : Array Value) (w : World) (g1 g2 : Nat) (v u : Value)
    (hp : tmps.getD p undef = .pointer (some ⟨g1, 0, none⟩)) (hq : tmps.getD q undef = .pointer (some ⟨g2, 0, none⟩)) (h1 : (loadVar ty ⟨g1, 0, none⟩).run P w = .ok v w) (h2 : (loadVar uy ⟨g2, 0, none⟩).run P w = .ok u w) :
    (results fn tmps).run P w = .ok (.tuple #[v, u]) w := by
  have hp' : tmps[p]?.getD undef = .pointer (some ⟨g1, 0, none⟩) := by simpa using hp
  have hq' : tmps[q]?.getD undef = .pointer (some ⟨g2, 0, none⟩) := by simpa using hq
  simp [results, h, hp', hq', asAddr, h1, h2]
def jrd_T5 : Bool × List (List Nat × List Nat) := (true, [([], []), ([], []), ([0, 0], [0]), ([1, 2, 0, 1, 2], [1])])
def jrd_B5 : List Nat := [0, 0, 1, 7]
theorem jrd_tab5 : rtab .any (opsOf Tryd.f13 5) = jrd_T5 := by kernel_rfl
theorem jrd_bits5 : waitsOk jrd_T5.2 jrd_B5 = true := by kernel_rfl
set_option maxHeartbeats 3200000 in
set_option maxRecDepth 100000 in
theorem read_calls (A : Option Addr) (c : Nat) (b : List Int) (w : World) (hr : B.C w A b.length b) (hc : b.length ≤ c) (hb : bys b) (hL : b.length < 1000000000) (hT : Tab w) :
    Calls Tryd.prog 13 #[.slice A b.length c] w fun e w' => ∃ v, e = .returned (.tuple #[v, .int .i64 ((readJ b).2 : Int)]) ∧ Recs w' w.heap.size v (readJ b).1 ∧ Below w.heap.size w w' := by
  have HY := Aside0.mk hb
  have HLL := Aside0.mk hL
  have HR := Aside0.mk hr
  have HTAB := Aside0.mk hT
  have hl63 : b.length ≤ 9223372036854775807 := hr.2.1
  clear hr hT hb hL
  refine (callsIn_wide (n := 4)).1 ?_
  refine callsIn_of_wp_marks Tryd.func13 rfl trivial ?_ rfl
  simp only [Tryd.ntmps13, List.size_toArray, List.length_cons, List.length_nil, Nat.reduceAdd, Nat.reduceSub, Array.replicate_succ, Array.replicate_zero, List.push_toArray, List.append_toArray, List.nil_append, List.cons_append]
  refine wpIn_wide.2 ?_
  go_wp2_with fail
  refine (all_calls A b.length c _ hl63 hc).mono ?_
  rintro e w' ⟨rfl, hw'⟩
  have b2 : Boxed w' w.heap.size 31 (.slice none 0 0) := by rw [hw']; exact ((Boxed.new w 31 (.slice none 0 0)).alloc _).alloc _
  have b3 : Boxed w' (w.heap.size + 1) 3 (.int .i64 0) := by
    have := Boxed.new (w.alloc (.cells #[.slice none 0 0] 31)) 3 (.int .i64 0)
    rw [World.size_alloc] at this
    rw [hw']
    exact this.alloc _
  have b1 : Boxed w' (w.heap.size + 1 + 1) 22 (.slice A b.length c) := by
    have := Boxed.new ((w.alloc (.cells #[.slice none 0 0] 31)).alloc (.cells #[.int .i64 0] 3)) 22 (.slice A b.length c)
    rw [World.size_alloc, World.size_alloc] at this
    rw [hw']
    exact this
  have hbw : Below w.heap.size w w' := by rw [hw']; exact (((Below.refl _ w).alloc (Nat.le_refl _) _).alloc (by simp) _).alloc (by simp; omega) _
  have HBX := Aside0.mk (And.intro b2 (And.intro b3 b1))
  have HBW := Aside0.mk hbw
  have hsz : w'.heap.size = w.heap.size + 3 := by rw [hw']; simp
  have HSZ := Aside0.mk hsz
  clear b1 b2 b3 hbw hsz hw'
  go_wp2_with fail
  refine (wpIn_wide (n := 3)).1 ?_
  refine range_enter (gf := 29) (lb := #[.pointer (some ⟨w.heap.size + 1 + 1, 0, none⟩)]) (by omega) rfl (enters_of Tryd.func29 (by kernel_rfl) rfl) ?_
  intro fn
  refine callsIn_wide.2 ?_
  generalize hrec : ({ state := .ready, pending := none, fn := fn, tmps := _, params := _, assign := _, body := _, defers := w'.heap.size } : Loop) = rec
  have HREC := Aside0.mk hrec
  clear hrec
  refine (all1_calls (w'.heap.size + 1) (w.heap.size + 1 + 1) A c b HY.out (by have := HLL.out; omega) hc w HR.out HTAB.out (JR w A b.length c (w'.heap.size + 1) w'.heap.size rec) (fun _ _ _ _ h hb => h.below hb) (fun _ _ _ h => ⟨h.arg.cell, h.bel⟩) ?yield _ ?start).mono ?fin
  case start =>
    obtain ⟨b2, b3, b1⟩ := HBX.out
    refine ⟨⟨_, (b2.alloc _).alloc _, Recs.nil _ _⟩, (b3.alloc _).alloc _, (b1.alloc _).alloc _, ?_, ?_, ?_⟩
    · have := World.alloc_heap_new (w'.alloc (.deferred (some []))) (.loop rec)
      rwa [World.size_alloc] at this
    · exact (Below.heap_alloc _ _ _ (by simp)).trans (World.alloc_heap_new w' _)
    · exact (HBW.out.alloc HBW.out.size _).alloc (by have := HBW.out.size; simp; omega) _
  case yield =>
    intro pre a a' x v Wb W hJb hbW hR hok ha' hpl
    have HJ := Aside0.mk (hJb.below hbW)
    have hy := run_yield (P := Tryd.prog) (args := #[.int .i64 (a' : Int), v]) HJ.out.loop (by rw [← HREC.out]; rfl)
    rw [← HREC.out] at hy
    refine ⟨fn, _, _, _, hy, roundIn_of_wpIn trivial ?_⟩
    clear hy
    obtain ⟨Ax, cx, rfl, hcx, _⟩ := Kd.R_reads hR
    obtain ⟨gx, rfl, hgx, hbk⟩ := Bk.of hR (by have := hok.1; omega)
    have HBK := Aside0.mk hbk
    have HGX := Aside0.mk hgx
    have HJB := Aside0.mk hJb
    have HCX := Aside0.mk hcx
    have HWW := Aside0.mk hbW
    clear hbk hgx hJb hR hbW hok
    gi_wp2
    refine ⟨_, run_beginRound HJ.out.loop (by rw [← HREC.out]), ?_⟩
    obtain ⟨W2, hW2⟩ : ∃ W2, W.putObj (w'.heap.size + 1) (.loop { rec with state := .busy }) = W2 := ⟨_, rfl⟩
    rw [hW2]
    have hkp : ∀ k, k ≠ w'.heap.size + 1 → W2.heap[k]? = W.heap[k]? := fun k hk => by rw [← hW2]; exact World.putObj_heap_other hk
    have hl2 : W2.heap[w'.heap.size + 1]? = some (.loop { rec with state := .busy }) := by rw [← hW2]; exact World.putObj_heap_same (Array.getElem?_eq_some_iff.1 HJ.out.loop).1
    have hz2 : W2.heap.size = W.heap.size := by rw [← hW2]; simp
    have hB2 : Below w.heap.size W W2 := by rw [← hW2]; exact belowK_b (w := w') HBW.out.size W _ _ _ (by omega) HJ.out.loop rfl rfl
    obtain ⟨v0, hvb, hrb⟩ := HJB.out.vec
    have hv : Boxed W w.heap.size 31 v0 := heap_keep hvb HWW.out
    have hsz := HSZ.out
    have hll := HLL.out
    have bv2 : Boxed W2 w.heap.size 31 v0 := (hkp _ (by omega)).trans hv
    have bn2 : Boxed W2 (w.heap.size + 1) 3 (.int .i64 (a : Int)) := (hkp _ (by omega)).trans HJ.out.num
    have ba2 : Boxed W2 (w.heap.size + 1 + 1) 22 (.slice A b.length c) := (hkp _ (by omega)).trans HJ.out.arg
    have hd2 : W2.heap[w'.heap.size]? = some (.deferred (some [])) := (hkp _ (by omega)).trans HJ.out.dfr
    have hnl : ∀ (k : Nat) (cells : Array Value) (t : TypeId), W.heap[k]? = some (.cells cells t (0, 0)) → k ≠ w'.heap.size + 1 := fun k cells t hk e => by
      rw [e, HJ.out.loop] at hk
      cases hk
    have hrs2 : ∃ (hs : List Value) (g cc : Nat → Nat), W2.ownsRow (w.heap.size + 1 + 1 + 1) 22 1 v0 pre.length hs ∧ hs.length = pre.length ∧
        ∀ i x, pre[i]? = some x → hs[i]? = some (.slice (some ⟨g i, 0, none⟩) x.length (cc i)) ∧ x.length ≤ cc i ∧ w.heap.size + 1 + 1 + 1 ≤ g i ∧ Bk W2 (g i) 0 x ∧ (∀ j, j < i → g j < g i) ∧ g i < gx := by
      obtain ⟨hs, g, cc, ho, hln, hit⟩ := hrb
      have ho1 := own_move ho (fun k hk => HWW.out.block k (own_lt ho k hk))
      have ho2 : W2.ownsRow (w.heap.size + 1 + 1 + 1) 22 1 v0 pre.length hs := own_move ho1 (fun k hk => by
        obtain ⟨cells, hc⟩ := own_typed ho1 k hk
        exact hkp k (hnl k cells _ hc))
      refine ⟨hs, g, cc, ho2, hln, fun i y hy => ?_⟩
      obtain ⟨h1, h2, h3, h4, h5⟩ := hit i y hy
      exact ⟨h1, h2, h3, (h4.below HWW.out).keep (fun cells hk => (hkp _ (hnl _ cells _ hk)).trans hk), h5, Nat.lt_of_lt_of_le h4.lt HGX.out⟩
    have HBK2 := Aside0.mk (HBK.out.keep (fun cells hk => (hkp gx (hnl gx cells _ hk)).trans hk))
    obtain ⟨hs, g, cc, ho, hln, hit⟩ := hrs2
    have HIT := Aside0.mk hit
    have HLN := Aside0.mk hln
    have HBZ := Aside0.mk (HBW.out.size)
    have HKP := Aside0.mk hkp
    have HL2 := Aside0.mk hl2
    have HD2 := Aside0.mk hd2
    have HB2 := Aside0.mk hB2
    have HWS := Aside0.mk (show w.heap.size + 1 + 1 + 1 ≤ W2.heap.size by have := HJ.out.arg.lt; omega)
    have hc0 := bv2.cell
    have HZ2 := Aside0.mk hz2
    have hpl9 : pre.length < 1000000000 := by omega
    clear hit hln hkp hl2 hd2 hB2 hrb hnl hv hvb hz2 hsz hll
    obtain ⟨i0, hi, hz0, hz1, hz2⟩ := info_parts infoB
    have hw3 : w.heap.size ≤ w.heap.size + 1 + 1 + 1 := by omega
    have HNR := Aside0.mk (show some (w.heap.size + 1 + 1) ≠ v0.ownBlock from fun e => by have := own_base ho _ e.symm; omega)
    have HNT := Aside0.mk (fun (k : Nat) (cells : Array Value) (hk : W2.heap[k]? = some (.cells cells 5 (0, 0))) => show some k ≠ v0.ownBlock from fun e => by
      obtain ⟨cells2, hc⟩ := own_typed ho k e.symm
      rw [hk] at hc
      cases hc)
    have HBV := Aside0.mk bv2
    have HBN := Aside0.mk bn2
    have HBA := Aside0.mk ba2
    clear ba2
    gi_wp2_with (gi_at_builtin; refine wpListIn_append_own _ rfl _ _ 31 rfl (w.heap.size + 1 + 1 + 1) 22 i0 (.slice none 0 0) 1 24 Tryd.underlying31 hi hz0 hz1 hz2 rfl (by decide) _ _ _ rfl (ho.alloc _) ⟨W2.heap.size, 0, none⟩ 1 1 [.slice (some ⟨gx, 0, none⟩) x.length cx] rfl rfl (cell_one_new _ _ _) (by simp [Value.oneCell']) (by simp only [maxLen]; omega) (by omega) (by have := HWS.out; simp; omega) ?_; intro v' w1 hown' hgrow _; obtain ⟨g', cap', rfl⟩ := ownsRow_succ hown'; obtain ⟨hv1, hv2, _, hk2, hb2⟩ := bv2.appended (by decide) (own_weaken ho hw3) (by have := HWS.out; omega) (Nat.le_refl _) (own_weaken hown' hw3) hgrow; have hr2 := hown'.kept (grownBy_setCell' w1 w.heap.size (.slice (some ⟨g', 0, none⟩) (pre.length + 1) cap')) (.inr (hv1.not_row (by decide) hown').symm); have hc1 := hv1.cell; have hf1 := hv1.frozen; have bn3 := ((bn2.alloc _).kept hgrow (bn2.not_row (by decide) ho)).other (B' := w.heap.size) (by omega) (.slice (some ⟨g', 0, none⟩) (pre.length + 1) cap'); have hc3 := bn3.cell; have hf3 := bn3.frozen)
    replace hgrow : (W2.alloc (.cells #[.slice (some ⟨gx, 0, none⟩) x.length cx] 22)).grownBy w1 v0.ownBlock := hgrow
    replace hown' := hown'
    clear hc1 hf1 hc3 hf3 hc0
    obtain ⟨S, hS⟩ : ∃ S : Value, S = .slice (some ⟨g', 0, none⟩) (pre.length + 1) cap' := ⟨_, rfl⟩
    rw [← hS] at hv2 hr2 hk2 hb2 bn3 ⊢
    obtain ⟨W3, hW3⟩ : ∃ W3, (w1.setCell ⟨w.heap.size, 0, none⟩ S).setCell ⟨w.heap.size + 1, 0, none⟩ (.int .i64 (a' : Int)) = W3 := ⟨_, rfl⟩
    rw [hW3]
    have c2 : Boxed W3 w.heap.size 31 S := by rw [← hW3]; exact hv2.other (by omega) _
    have c3 : Boxed W3 (w.heap.size + 1) 3 (.int .i64 (a' : Int)) := by rw [← hW3]; exact bn3.set _
    have c1 : Boxed W3 (w.heap.size + 1 + 1) 22 (.slice A b.length c) := by rw [← hW3]; exact ((((HBA.out.alloc _).kept hgrow HNR.out).other (by omega) _).other (by omega) _)
    have co : W3.ownsRow (w.heap.size + 1 + 1 + 1) 22 1 S (pre.length + 1) (hs ++ [.slice (some ⟨gx, 0, none⟩) x.length cx]) := by rw [← hW3]; exact hr2.kept (grownBy_setCell' _ (w.heap.size + 1) _) (.inr (bn3.not_row (by decide) hr2).symm)
    have cl : W3.heap[w'.heap.size + 1]? = some (.loop { rec with state := .busy }) := by rw [← hW3]; exact (KeepsOthers.setCell _ _ _).same _ _ (hk2.same _ _ HL2.out rfl) rfl
    have cd : W3.heap[w'.heap.size]? = some (.deferred (some [])) := by rw [← hW3]; exact (KeepsOthers.setCell _ _ _).same _ _ (hk2.same _ _ HD2.out rfl) rfl
    have ck : ∀ (k : Nat) (cells : Array Value), W2.heap[k]? = some (.cells cells 5 (0, 0)) → W3.heap[k]? = some (.cells cells 5 (0, 0)) := fun k cells hk => by
      have h1 : (W2.alloc (.cells #[.slice (some ⟨gx, 0, none⟩) x.length cx] 22)).heap[k]? = some (.cells cells 5 (0, 0)) := (Below.heap_alloc _ _ _ (Array.getElem?_eq_some_iff.1 hk).1).trans hk
      have h2 := (hgrow.block k (Array.getElem?_eq_some_iff.1 h1).1 (HNT.out k cells hk)).trans h1
      have n2 : k ≠ w.heap.size := fun e => by rw [e, show W2.heap[w.heap.size]? = _ from HBV.out] at hk; cases hk
      have n3 : k ≠ w.heap.size + 1 := fun e => by rw [e, show W2.heap[w.heap.size + 1]? = _ from HBN.out] at hk; cases hk
      rw [← hW3]
      exact (Below.heap_setCell _ ⟨w.heap.size + 1, 0, none⟩ _ k n3).trans ((Below.heap_setCell _ ⟨w.heap.size, 0, none⟩ _ k n2).trans h2)
    have cb : Below w.heap.size w W3 := by rw [← hW3]; exact ((HJ.out.bel.trans HB2.out).trans hb2).setCell (p := ⟨w.heap.size + 1, 0, none⟩) (Nat.le_succ w.heap.size) _
    clear hv1 hv2 hr2 hk2 hb2 bn3 hgrow hown' bv2 bn2 ho hW3 hS hi hz0 hz1 hz2
    have hsz := HSZ.out
    refine ⟨_, _, run_endRound none cl, rfl, ?_⟩
    have hreq : ({ ({ rec with state := .busy } : Loop) with state := if (none : Option Code).isNone then .ready else .done, pending := none } : Loop) = rec := by rw [← HREC.out]; rfl
    rw [hreq]
    have e1 : ∀ k, k ≠ w'.heap.size + 1 → (W3.putObj (w'.heap.size + 1) (.loop rec)).heap[k]? = W3.heap[k]? := fun k hk => World.putObj_heap_other hk
    have e2 : ∀ (k : Nat) (cells : Array Value) (t : TypeId), W3.heap[k]? = some (.cells cells t (0, 0)) → k ≠ w'.heap.size + 1 := fun k cells t hk e => by
      rw [e, cl] at hk
      cases hk
    refine ⟨⟨S, (e1 _ (by omega)).trans c2, ?_⟩, (e1 _ (by omega)).trans c3, (e1 _ (by omega)).trans c1, World.putObj_heap_same (Array.getElem?_eq_some_iff.1 cl).1, (e1 _ (by omega)).trans cd, cb.trans (belowK_b (w := w') HBW.out.size W3 _ _ _ (by omega) cl rfl rfl)⟩
    have hgx3 : w.heap.size + 1 + 1 + 1 ≤ gx := by
      have h1 := HGX.out
      have h2 := HJB.out.loop
      have h3 := (Array.getElem?_eq_some_iff.1 h2).1
      omega
    refine (Recs.snoc (g := g) (cc := cc) co HLN.out (fun i y hy => ?_) HCX.out hgx3 (HBK2.out.keep (ck _))).keep (fun k hk => ?_) (fun k cells hk => (e1 k (e2 k cells _ hk)).trans hk)
    · obtain ⟨h1, h2, h3, h4, h5, h6⟩ := HIT.out i y hy
      exact ⟨h1, h2, h3, h4.keep (ck _), h5, h6⟩
    · obtain ⟨cells, hc⟩ := own_typed co k hk
      exact e1 k (e2 k cells _ hc)
  case fin =>
    rintro e W ⟨⟨v, rfl⟩, hJ⟩
    have HJ := Aside0.mk hJ
    clear hJ
    have hend := run_endLoop (P := Tryd.prog) HJ.out.loop (by rw [← HREC.out]; simp)
    obtain ⟨W4, hW4⟩ : ∃ W4, W.putObj (w'.heap.size + 1) (.loop { rec with state := .exhausted }) = W4 := ⟨_, rfl⟩
    rw [hW4, show rec.pending = none from by rw [← HREC.out]] at hend
    refine ⟨none, W4, hend, ?_⟩
    clear hend
    obtain ⟨v0, hv, hrs⟩ := HJ.out.vec
    have hsz := HSZ.out
    have e1 : ∀ k, k ≠ w'.heap.size + 1 → W4.heap[k]? = W.heap[k]? := fun k hk => by rw [← hW4]; exact World.putObj_heap_other hk
    have e2 : ∀ (k : Nat) (cells : Array Value) (t : TypeId), W.heap[k]? = some (.cells cells t (0, 0)) → k ≠ w'.heap.size + 1 := fun k cells t hk e => by
      rw [e, HJ.out.loop] at hk
      cases hk
    have c2 : Boxed W4 w.heap.size 31 v0 := (e1 _ (by omega)).trans hv
    have c3 : Boxed W4 (w.heap.size + 1) 3 (.int .i64 ((readJ b).2 : Int)) := (e1 _ (by omega)).trans HJ.out.num
    have cd : W4.heap[w'.heap.size]? = some (.deferred (some [])) := (e1 _ (by omega)).trans HJ.out.dfr
    have hr4 : Recs W4 (w.heap.size + 1 + 1 + 1) v0 (readJ b).1 := by
      have ho := hrs.choose_spec.choose_spec.choose_spec.1
      refine hrs.keep (fun k hk => ?_) (fun k cells hk => (e1 k (e2 k cells _ hk)).trans hk)
      obtain ⟨cells, hc⟩ := own_typed ho k hk
      exact e1 k (e2 k cells _ hc)
    have cb : Below w.heap.size w W4 := HJ.out.bel.trans (by rw [← hW4]; exact belowK_b (w := w') HBW.out.size W _ _ _ (by omega) HJ.out.loop rfl rfl)
    have HC2 := Aside0.mk c2
    have HC3 := Aside0.mk c3
    have HCD := Aside0.mk cd
    have HR4 := Aside0.mk hr4
    have HCB := Aside0.mk cb
    have HWD := Aside0.mk (show w.heap.size ≤ w'.heap.size from HBW.out.size)
    clear hv hrs hsz e1 e2 hW4 c2 c3 cd hr4 cb HREC HJ HSZ HBX
    obtain ⟨xs, hxs⟩ : ∃ xs, (readJ b).1 = xs := ⟨_, rfl⟩
    obtain ⟨a, ha⟩ : ∃ a, (readJ b).2 = a := ⟨_, rfl⟩
    have HXS := Aside0.mk hxs
    have HXA := Aside0.mk ha
    rw [hxs] at HR4
    rw [ha] at HC3
    clear hxs ha
    generalize w'.heap.size = D at HCD HWD ⊢
    obtain ⟨A0, c0, rfl, hc0, _⟩ : ∃ A0 c0, v0 = .slice A0 xs.length c0 ∧ xs.length ≤ c0 ∧ True := by
      obtain ⟨hs, g, cc, ho, _⟩ := HR4.out
      rcases ho.2 with ⟨rfl, h0⟩ | ⟨g, cap, cur, rfl, _, _, _, h1, _⟩
      · exact ⟨none, 0, by rw [h0], by omega, trivial⟩
      · exact ⟨_, _, rfl, by omega, trivial⟩
    have hS0 : JF w (.slice A0 xs.length c0) xs a D W4.drew := ⟨HC2.out, HC3.out, HR4.out, HCD.out, below_drew1 HCB.out⟩
    go_upto_region 5 with (fail)
    refine wp_mono (Q := Exit.then _ (fun _ _ _ => False)) ?_ (fun e a w h => by cases e <;> first | exact h | exact h.elim)
    refine start_ (n := 4) (S := fun w' => JF w (.slice A0 xs.length c0) xs a D w') (ds := []) #[false, false, false, false] (by kernel_rfl) rfl rfl (by exact hS0) (fun hHeld => ?_)
    refine with_tabW jrd_tab5 jrd_bits5 (fun HT_ HW_ => ?_)
    generalize W4.drew = W5 at hHeld hS0 ⊢
    refine take_ (i := 0) (N := some 15) (v := ?_) (a' := ?_) #[true, false, false, false] rfl rfl (take_ofW HT_.out HW_.out (by kernel_rfl)) (fun _ _ _ h => h) (Or.inl ⟨by rfl, ?_⟩) hHeld ?_ ?_
    rotate_left
    · intro w' hSt
      have hc2 := hSt.vec.cell
      go_simp
      with_reducible rfl
    rotate_left
    · simp only [Act.put, List.setIfInBounds_toArray, List.set_cons_zero, List.set_cons_succ, i64_w, i32_w]
      rfl
    refine take_ (i := 1) (N := some 16) (v := ?_) (a' := ?_) #[true, true, false, false] rfl rfl (take_ofW HT_.out HW_.out (by kernel_rfl)) (fun _ _ _ h => h) (Or.inl ⟨by rfl, ?_⟩) hHeld ?_ ?_
    rotate_left
    · intro w' hSt
      have hc3 := hSt.num.cell
      go_simp
      with_reducible rfl
    rotate_left
    · simp only [Act.put, List.setIfInBounds_toArray, List.set_cons_zero, List.set_cons_succ, i64_w, i32_w]
      rfl
    refine one_ (i := 2) (N := none) #[true, true, true, false] rfl rfl (one_of HT_.out (by kernel_rfl)) (by decide) (fun K hK => ?_)
    have y0 := hHeld.vec.cell
    have z0 := hHeld.vec.frozen
    refine skip_ (w1 := ?_) (by rfl) rfl ?_ ?_
    rotate_left
    · go_simp
      rfl
    clear y0 z0
    have hS1 := hHeld.keep hHeld.vec (by decide) (Nat.le_refl _) (hHeld.vec.set (.slice A0 xs.length c0)) (hHeld.num.other (by omega) (.slice A0 xs.length c0)) (.slice A0 xs.length c0) rfl
    generalize W5.setCell ⟨w.heap.size, 0, none⟩ (.slice A0 xs.length c0) = W6 at hS1 ⊢
    refine hK.out _ _ (by exact hS1) (fun hHeld => ?_)
    clear hK K
    refine one_ (i := 3) (N := none) #[true, true, true, true] rfl rfl (one_of HT_.out (by kernel_rfl)) (by decide) (fun K hK => ?_)
    have y0 := hHeld.num.cell
    have z0 := hHeld.num.frozen
    refine skip_ (w1 := ?_) (by rfl) rfl ?_ ?_
    rotate_left
    · go_simp
      rfl
    clear y0 z0
    have hS1 := hHeld.keep hHeld.num (by decide) (Nat.le_succ _) (hHeld.vec.other (by omega) (.int .i64 (a : Int))) (hHeld.num.set _) (.int .i64 (a : Int)) rfl
    generalize W6.setCell ⟨w.heap.size + 1, 0, none⟩ (.int .i64 (a : Int)) = W7 at hS1 ⊢
    refine hK.out _ _ (by exact hS1) (fun hHeld => ?_)
    clear hK K
    refine done_ (done_of HT_.out (by kernel_rfl)) ?_
    have HF := Aside0.mk hHeld
    clear hS0 hHeld HT_ HW_ HC2 HC3 HR4 HCD HCB
    go_wp2
    refine ⟨by simp, .inl ⟨_, _, rfl, run_takeDeferred HF.out.dfr, ?_⟩⟩
    have k1 : ∀ k, k ≠ D → (W7.putObj D (.deferred none)).heap[k]? = W7.heap[k]? := fun k hk => World.putObj_heap_other hk
    have k2 : ∀ (k : Nat) (cells : Array Value) (t : TypeId), W7.heap[k]? = some (.cells cells t (0, 0)) → k ≠ D := fun k cells t hk e => by
      rw [e, HF.out.dfr] at hk
      cases hk
    have c2 : Boxed (W7.putObj D (.deferred none)) w.heap.size 31 (.slice A0 xs.length c0) := (k1 _ (k2 _ _ _ HF.out.vec)).trans HF.out.vec
    have c3 : Boxed (W7.putObj D (.deferred none)) (w.heap.size + 1) 3 (.int .i64 (a : Int)) := (k1 _ (k2 _ _ _ HF.out.num)).trans HF.out.num
    have x2 := c2.cell
    have x3 := c3.cell
    refine ⟨_, results_two rfl _ _ w.heap.size (w.heap.size + 1) (.slice A0 xs.length c0) (.int .i64 (a : Int)) rfl rfl (by go_simp) (by go_simp), .slice A0 xs.length c0, by rw [HXA.out], ?_, ?_⟩
    · rw [HXS.out]
      refine (HF.out.recs.keep (fun k hk => ?_) (fun k cells hk => (k1 k (k2 k cells _ hk)).trans hk)).lower (by omega)
      obtain ⟨cells, hc⟩ := own_typed HF.out.recs.choose_spec.choose_spec.choose_spec.1 k hk
      exact k1 k (k2 k cells _ hc)
    · exact HF.out.bel.trans ((Below.refl _ _).grown (grownBy_putObj' _ _ _) HF.out.bel.size (fun k e => by cases e; exact HWD.out))
end Go.Proofs.YtebjibkgefgalaaDoor.Jr
