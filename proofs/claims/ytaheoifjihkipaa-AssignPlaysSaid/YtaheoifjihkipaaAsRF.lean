/- What calls of Go functions of this seat come to, as the rows need it: under the conditions that each theorem names. -/
import Derived.Test.YtaheoifjihkipaaAsRE
import Derived.Maps.AppendAt
namespace Go.Proofs.Ytaheoifjihkipaa.As
open Go.RowKit Go.Proofs.YtaheoifjihkipaaW.PrintWords Go.Proofs.YtaheoifjihkipaaW.PrintLast Go.Proofs.YtaheoifjihkipaaW.PrintMore
set_option linter.unusedVariables false
set_option linter.unusedSimpArgs false
theorem infoS : (Try.prog.info? 35).map (fun i => (i.zero, i.size, i.bytes)) = some (some (.slice none 0 0), 1, 24) := by kernel_rfl
/-- Rows of the call's own that share no block. -/
def apt (u v : Value) : Prop := u.ownBlock = none ∨ u.ownBlock ≠ v.ownBlock
theorem apt.symm {u v : Value} (h : apt u v) : apt v u := by
  unfold apt at *
  rcases h with h | h
  · by_cases e : v.ownBlock = none
    · exact Or.inl e
    · exact Or.inr (fun e2 => e (e2.trans h))
  · exact Or.inr (fun e => h e.symm)
section
variable {ops : Array Oper} {rest : List Oper} {o : Oper} {a : Act} {w : World} {Q : Exit → Act → World → Prop}
theorem app1 (hgd : o.guard = none) (s x : Operand) (ho : o.op = .call { callee := .builtin .append, args := #[s, x], argTypes := #[35, 35] }) (B : Nat) (v : Value) (n : Nat) (hs : a.eval s = v) (g : Nat)
    (hx : a.eval x = .slice (some ⟨g, 0, none⟩) 1 1) (hw : w.heap[g]? = some (.cells #[.int .i64 0] 3 (0, 0))) (hown : w.ownsRow B 3 1 v n (List.replicate n (.int .i64 0))) (hn : n ≤ 1000) (hB : B ≤ w.heap.size)
    (h : ∀ v' w', w'.ownsRow B 3 1 v' (n + 1) (List.replicate (n + 1) (.int .i64 0)) → w.grownBy w' v.ownBlock → (v'.ownBlock = v.ownBlock ∨ v'.ownBlock = some w.heap.size) → wpList Try.prog ops Q rest (a.put o.dst v') w') : wpList Try.prog ops Q (o :: rest) a w := by
  obtain ⟨i, hi, hz, hsz, hb⟩ := info_parts infoI
  refine wpList_append_own_at (P := Try.prog) w hgd s x 35 ho B 3 i (.int .i64 0) 1 8 Try.underlying35 hi hz hsz hb rfl (by decide) v n _ hs hown ⟨g, 0, none⟩ 1 1 [.int .i64 0] hx rfl (fun j u hj => ?_) (by simp [Value.oneCell']) (by unfold maxLen; omega) (by omega) hB (fun v' w' h1 h2 _ h4 => h v' w' ?_ h2 h4)
  · match j, hj with
    | 0, hj =>
      simp at hj
      subst hj
      simp [Addr.add]
      exact (cell_of hw).2 rfl
  · rw [List.replicate_succ']
    exact h1
theorem appS (hgd : o.guard = none) (s x : Operand) (ho : o.op = .call { callee := .builtin .append, args := #[s, x], argTypes := #[63, 63] }) (B : Nat) (v : Value) (n : Nat) (xs : List Value) (hs : a.eval s = v) (g : Nat) (u : Value) (hu : u.oneCell' = true)
    (hx : a.eval x = .slice (some ⟨g, 0, none⟩) 1 1) (hw : w.heap[g]? = some (.cells #[u] 35 (0, 0))) (hown : w.ownsRow B 35 1 v n xs) (hn : n ≤ 1000) (hB : B ≤ w.heap.size)
    (h : ∀ v' w', w'.ownsRow B 35 1 v' (n + 1) (xs ++ [u]) → w.grownBy w' v.ownBlock → (v'.ownBlock = v.ownBlock ∨ v'.ownBlock = some w.heap.size) → wpList Try.prog ops Q rest (a.put o.dst v') w') : wpList Try.prog ops Q (o :: rest) a w := by
  obtain ⟨i, hi, hz, hsz, hb⟩ := info_parts infoS
  refine wpList_append_own_at (P := Try.prog) w hgd s x 63 ho B 35 i (.slice none 0 0) 1 24 Try.underlying63 hi hz hsz hb rfl (by decide) v n _ hs hown ⟨g, 0, none⟩ 1 1 [u] hx rfl (fun j u' hj => ?_) (by simp [hu]) (by unfold maxLen; omega) (by omega) hB (fun v' w' h1 h2 _ h4 => h v' w' h1 h2 h4)
  match j, hj with
  | 0, hj =>
    simp at hj
    subst hj
    simp [Addr.add]
    exact (cell_of hw).2 rfl
end
/-- The plan while it is made: so many stand in each row. -/
structure NW (w : World) (r m : Nat) (win tm : Int) (k0 k1 k2 : Nat) (v0 v1 v2 v4 : Value) (tl : List Nat) : Prop where
  blk : w.heap[r]? = some (.cells #[v0, v1, v2, .slice none 0 0, v4, .int .i64 win, .int .i64 tm] 65 (0, 0))
  o0 : w.ownsRow (r + 1) 3 1 v0 k0 (List.replicate k0 (.int .i64 0))
  o1 : w.ownsRow (r + 1) 3 1 v1 k1 (List.replicate k1 (.int .i64 0))
  o2 : w.ownsRow (r + 1) 3 1 v2 k2 (List.replicate k2 (.int .i64 0))
  o4 : w.ownsRow (r + 1) 35 1 v4 tl.length (tl.map fun t => .slice (some ⟨t, 0, none⟩) m m)
  a01 : apt v0 v1
  a02 : apt v0 v2
  a04 : apt v0 v4
  a12 : apt v1 v2
  a14 : apt v1 v4
  a24 : apt v2 v4
  tnd : tl.Nodup
  tr : ∀ t ∈ tl, r < t ∧ Ri w t m (fun _ => 0)
  t0 : ∀ t ∈ tl, v0.ownBlock ≠ some t
  t1 : ∀ t ∈ tl, v1.ownBlock ≠ some t
  t2 : ∀ t ∈ tl, v2.ownBlock ≠ some t
  t4 : ∀ t ∈ tl, v4.ownBlock ≠ some t
theorem grown_set (w : World) (r j : Nat) (v : Value) : w.grownBy (w.setCell ⟨r, j, none⟩ v) (some r) :=
  have h : Below r w (w.setCell ⟨r, j, none⟩ v) := (Below.refl r w).setCell (p := ⟨r, j, none⟩) (Nat.le_refl r) v
  ⟨h.os, h.tape, h.output, h.size, fun k _ hk => Below.heap_setCell w ⟨r, j, none⟩ v k (fun e => hk (by rw [e]))⟩
theorem own_ne {w : World} {r e k : Nat} {v : Value} {xs : List Value} (h : w.ownsRow (r + 1) e 1 v k xs) : v.ownBlock = none ∨ v.ownBlock ≠ some r := by
  by_cases hv : v.ownBlock = some r
  · have := (h.lt r hv).1
    omega
  · exact Or.inr hv
theorem apt_new {w : World} {r e k g : Nat} {v u u' : Value} {xs : List Value} (h : w.ownsRow (r + 1) e 1 v k xs) (ha : apt u v) (hl : u'.ownBlock = u.ownBlock ∨ u'.ownBlock = some g) (hg : w.heap.size ≤ g) : apt u' v := by
  rcases hl with hl | hl
  · unfold apt at *
    rw [hl]
    exact ha
  · refine Or.inr (fun e => ?_)
    rw [hl] at e
    have := (h.lt g e.symm).2
    omega
theorem ne_new {w : World} {m g t : Nat} {u u' : Value} {f : Nat → Int} (ht : Ri w t m f) (hn : u.ownBlock ≠ some t) (hl : u'.ownBlock = u.ownBlock ∨ u'.ownBlock = some g) (hg : w.heap.size ≤ g) : u'.ownBlock ≠ some t := by
  rcases hl with hl | hl
  · rw [hl]; exact hn
  · rw [hl]
    intro e
    have := ht.lt
    injection e with e
    omega
section
variable {w w1 w2 : World} {r m : Nat} {win tm : Int} {k0 k1 k2 : Nat} {v0 v1 v2 v4 : Value} {tl : List Nat}
theorem NW.step0 (h : NW w r m win tm k0 k1 k2 v0 v1 v2 v4 tl) (o : Obj) {v : Value} (ho : w2.ownsRow (r + 1) 3 1 v (k0 + 1) (List.replicate (k0 + 1) (.int .i64 0))) (hg : (w.alloc o).grownBy w2 v0.ownBlock) (hl : v.ownBlock = v0.ownBlock ∨ v.ownBlock = some (w.alloc o).heap.size) :
    NW (w2.setCell ⟨r, 0, none⟩ v) r m win tm (k0 + 1) k1 k2 v v1 v2 v4 tl := by
  have hs : (w.alloc o).heap.size = w.heap.size + 1 := by simp
  have hge : w.heap.size ≤ (w.alloc o).heap.size := by omega
  have hr := (Array.getElem?_eq_some_iff.1 h.blk).1
  have hgs := grown_set w2 r 0 v
  have hri : ∀ t, t ∈ tl → r < t ∧ Ri (w2.setCell ⟨r, 0, none⟩ v) t m (fun _ => 0) := fun t ht => by
    obtain ⟨a, b⟩ := h.tr t ht
    have hlt := b.lt
    refine ⟨a, ((b.keep (Below.heap_alloc w o t hlt)).keep (hg.block t (by omega) (fun e => h.t0 t ht e.symm))).keep (Below.heap_setCell w2 _ v t (fun e => by have : t = r := e; omega))⟩
  refine { blk := ?_, o0 := (ho.kept hgs (own_ne ho)), o1 := (((h.o1.alloc o).kept hg (h.a01.symm)).kept hgs (own_ne h.o1)), o2 := (((h.o2.alloc o).kept hg (h.a02.symm)).kept hgs (own_ne h.o2)), o4 := (((h.o4.alloc o).kept hg (h.a04.symm)).kept hgs (own_ne h.o4)), a01 := (apt_new h.o1 h.a01 hl hge), a02 := (apt_new h.o2 h.a02 hl hge), a04 := (apt_new h.o4 h.a04 hl hge), a12 := h.a12, a14 := h.a14, a24 := h.a24, tnd := h.tnd, tr := hri, t0 := (fun t ht => ne_new (h.tr t ht).2 (h.t0 t ht) hl hge), t1 := h.t1, t2 := h.t2, t4 := h.t4 }
  have hb : w2.heap[r]? = some (.cells #[v0, v1, v2, .slice none 0 0, v4, .int .i64 win, .int .i64 tm] 65 (0, 0)) := (hg.block r (by omega) (fun e => (own_ne h.o0).elim (fun a => by rw [a] at e; cases e) (fun a => a e.symm))).trans ((Below.heap_alloc w o r hr).trans h.blk)
  rw [heap_setCell_same w2 r 0 _ _ v hb]
  rfl
theorem NW.step1 (h : NW w r m win tm k0 k1 k2 v0 v1 v2 v4 tl) (o : Obj) {v : Value} (ho : w2.ownsRow (r + 1) 3 1 v (k1 + 1) (List.replicate (k1 + 1) (.int .i64 0))) (hg : (w.alloc o).grownBy w2 v1.ownBlock) (hl : v.ownBlock = v1.ownBlock ∨ v.ownBlock = some (w.alloc o).heap.size) :
    NW (w2.setCell ⟨r, 1, none⟩ v) r m win tm k0 (k1 + 1) k2 v0 v v2 v4 tl := by
  have hs : (w.alloc o).heap.size = w.heap.size + 1 := by simp
  have hge : w.heap.size ≤ (w.alloc o).heap.size := by omega
  have hr := (Array.getElem?_eq_some_iff.1 h.blk).1
  have hgs := grown_set w2 r 1 v
  have hri : ∀ t, t ∈ tl → r < t ∧ Ri (w2.setCell ⟨r, 1, none⟩ v) t m (fun _ => 0) := fun t ht => by
    obtain ⟨a, b⟩ := h.tr t ht
    have hlt := b.lt
    refine ⟨a, ((b.keep (Below.heap_alloc w o t hlt)).keep (hg.block t (by omega) (fun e => h.t1 t ht e.symm))).keep (Below.heap_setCell w2 _ v t (fun e => by have : t = r := e; omega))⟩
  refine { blk := ?_, o0 := (((h.o0.alloc o).kept hg (h.a01)).kept hgs (own_ne h.o0)), o1 := (ho.kept hgs (own_ne ho)), o2 := (((h.o2.alloc o).kept hg (h.a12.symm)).kept hgs (own_ne h.o2)), o4 := (((h.o4.alloc o).kept hg (h.a14.symm)).kept hgs (own_ne h.o4)), a01 := (apt_new h.o0 h.a01.symm hl hge).symm, a02 := h.a02, a04 := h.a04, a12 := (apt_new h.o2 h.a12 hl hge), a14 := (apt_new h.o4 h.a14 hl hge), a24 := h.a24, tnd := h.tnd, tr := hri, t0 := h.t0, t1 := (fun t ht => ne_new (h.tr t ht).2 (h.t1 t ht) hl hge), t2 := h.t2, t4 := h.t4 }
  have hb : w2.heap[r]? = some (.cells #[v0, v1, v2, .slice none 0 0, v4, .int .i64 win, .int .i64 tm] 65 (0, 0)) := (hg.block r (by omega) (fun e => (own_ne h.o1).elim (fun a => by rw [a] at e; cases e) (fun a => a e.symm))).trans ((Below.heap_alloc w o r hr).trans h.blk)
  rw [heap_setCell_same w2 r 1 _ _ v hb]
  rfl
theorem NW.step2 (h : NW w r m win tm k0 k1 k2 v0 v1 v2 v4 tl) (o : Obj) {v : Value} (ho : w2.ownsRow (r + 1) 3 1 v (k2 + 1) (List.replicate (k2 + 1) (.int .i64 0))) (hg : (w.alloc o).grownBy w2 v2.ownBlock) (hl : v.ownBlock = v2.ownBlock ∨ v.ownBlock = some (w.alloc o).heap.size) :
    NW (w2.setCell ⟨r, 2, none⟩ v) r m win tm k0 k1 (k2 + 1) v0 v1 v v4 tl := by
  have hs : (w.alloc o).heap.size = w.heap.size + 1 := by simp
  have hge : w.heap.size ≤ (w.alloc o).heap.size := by omega
  have hr := (Array.getElem?_eq_some_iff.1 h.blk).1
  have hgs := grown_set w2 r 2 v
  have hri : ∀ t, t ∈ tl → r < t ∧ Ri (w2.setCell ⟨r, 2, none⟩ v) t m (fun _ => 0) := fun t ht => by
    obtain ⟨a, b⟩ := h.tr t ht
    have hlt := b.lt
    refine ⟨a, ((b.keep (Below.heap_alloc w o t hlt)).keep (hg.block t (by omega) (fun e => h.t2 t ht e.symm))).keep (Below.heap_setCell w2 _ v t (fun e => by have : t = r := e; omega))⟩
  refine { blk := ?_, o0 := (((h.o0.alloc o).kept hg (h.a02)).kept hgs (own_ne h.o0)), o1 := (((h.o1.alloc o).kept hg (h.a12)).kept hgs (own_ne h.o1)), o2 := (ho.kept hgs (own_ne ho)), o4 := (((h.o4.alloc o).kept hg (h.a24.symm)).kept hgs (own_ne h.o4)), a01 := h.a01, a02 := (apt_new h.o0 h.a02.symm hl hge).symm, a04 := h.a04, a12 := (apt_new h.o1 h.a12.symm hl hge).symm, a14 := h.a14, a24 := (apt_new h.o4 h.a24 hl hge), tnd := h.tnd, tr := hri, t0 := h.t0, t1 := h.t1, t2 := (fun t ht => ne_new (h.tr t ht).2 (h.t2 t ht) hl hge), t4 := h.t4 }
  have hb : w2.heap[r]? = some (.cells #[v0, v1, v2, .slice none 0 0, v4, .int .i64 win, .int .i64 tm] 65 (0, 0)) := (hg.block r (by omega) (fun e => (own_ne h.o2).elim (fun a => by rw [a] at e; cases e) (fun a => a e.symm))).trans ((Below.heap_alloc w o r hr).trans h.blk)
  rw [heap_setCell_same w2 r 2 _ _ v hb]
  rfl
theorem NW.step4 (h : NW w r m win tm k0 k1 k2 v0 v1 v2 v4 tl) (bx : Obj) {v : Value} (ho : w2.ownsRow (r + 1) 35 1 v (tl.length + 1) ((tl.map fun t => .slice (some ⟨t, 0, none⟩) m m) ++ [.slice (some ⟨w.heap.size, 0, none⟩) m m]))
    (hg : ((w.alloc (.cells (zI m) 3)).alloc bx).grownBy w2 v4.ownBlock) (hl : v.ownBlock = v4.ownBlock ∨ v.ownBlock = some ((w.alloc (.cells (zI m) 3)).alloc bx).heap.size) :
    NW (w2.setCell ⟨r, 4, none⟩ v) r m win tm k0 k1 k2 v0 v1 v2 v (tl ++ [w.heap.size]) := by
  have hs : ((w.alloc (.cells (zI m) 3)).alloc bx).heap.size = w.heap.size + 2 := by simp
  have hge : w.heap.size ≤ ((w.alloc (.cells (zI m) 3)).alloc bx).heap.size := by omega
  have hr := (Array.getElem?_eq_some_iff.1 h.blk).1
  have hgs := grown_set w2 r 4 v
  have hold : ∀ k, k < w.heap.size → v4.ownBlock ≠ some k → k ≠ r → (w2.setCell ⟨r, 4, none⟩ v).heap[k]? = w.heap[k]? := fun k hk hn hkr =>
    (Below.heap_setCell w2 _ v k hkr).trans ((hg.block k (by omega) (fun e => hn e.symm)).trans ((Below.heap_alloc _ bx k (by simp; omega)).trans (Below.heap_alloc w _ k hk)))
  have hlt : ∀ t ∈ tl, t < w.heap.size := fun t ht => (h.tr t ht).2.lt
  have h4n : v4.ownBlock ≠ some w.heap.size := fun e => by have := (h.o4.lt _ e).2; omega
  have hnew : Ri (w2.setCell ⟨r, 4, none⟩ v) w.heap.size m (fun _ => 0) := by
    refine ⟨zI m, ?_, by simp [zI, size_madeCells], fun k hk => zI_at _ _ hk⟩
    refine (Below.heap_setCell w2 _ v _ (fun e => by have : w.heap.size = r := e; omega)).trans ((hg.block _ (by omega) (fun e => h4n e.symm)).trans ?_)
    exact al_old (al_new rfl)
  have hown : ∀ {u : Value} {e k : Nat} {xs : List Value}, w.ownsRow (r + 1) e 1 u k xs → apt u v4 → (w2.setCell ⟨r, 4, none⟩ v).ownsRow (r + 1) e 1 u k xs := fun h1 h2 => (((h1.alloc _).alloc bx).kept hg h2).kept hgs (own_ne h1)
  have hne : ∀ {u : Value} {e k : Nat} {xs : List Value}, w.ownsRow (r + 1) e 1 u k xs → (∀ t ∈ tl, u.ownBlock ≠ some t) → ∀ t ∈ tl ++ [w.heap.size], u.ownBlock ≠ some t := fun h1 h2 t ht => by
    rcases List.mem_append.1 ht with ht | ht
    · exact h2 t ht
    · rw [List.mem_singleton] at ht
      rw [ht]
      intro e
      have := (h1.lt _ e).2
      omega
  refine { blk := ?_, o0 := hown h.o0 h.a04, o1 := hown h.o1 h.a14, o2 := hown h.o2 h.a24, o4 := ?_, a01 := h.a01, a02 := h.a02, a04 := (apt_new h.o0 h.a04.symm hl hge).symm, a12 := h.a12, a14 := (apt_new h.o1 h.a14.symm hl hge).symm, a24 := (apt_new h.o2 h.a24.symm hl hge).symm, tnd := ?_, tr := ?_, t0 := hne h.o0 h.t0, t1 := hne h.o1 h.t1, t2 := hne h.o2 h.t2, t4 := ?_ }
  · have hb : w2.heap[r]? = some (.cells #[v0, v1, v2, .slice none 0 0, v4, .int .i64 win, .int .i64 tm] 65 (0, 0)) :=
      (hg.block r (by omega) (fun e => (own_ne h.o4).elim (fun a => by rw [a] at e; cases e) (fun a => a e.symm))).trans ((Below.heap_alloc _ bx r (by simp; omega)).trans ((Below.heap_alloc w _ r hr).trans h.blk))
    rw [heap_setCell_same w2 r 4 _ _ v hb]
    rfl
  · rw [List.length_append, List.map_append]
    exact ho.kept hgs (own_ne ho)
  · exact List.nodup_append.2 ⟨h.tnd, by simp, fun a ha b hb => by rw [List.mem_singleton] at hb; have := hlt a ha; omega⟩
  · intro t ht
    rcases List.mem_append.1 ht with ht | ht
    · obtain ⟨a, b⟩ := h.tr t ht
      exact ⟨a, b.keep (hold t (hlt t ht) (h.t4 t ht) (by omega))⟩
    · rw [List.mem_singleton] at ht
      rw [ht]
      exact ⟨hr, hnew⟩
  · intro t ht
    rcases List.mem_append.1 ht with ht | ht
    · exact ne_new (h.tr t ht).2 (h.t4 t ht) hl hge
    · rw [List.mem_singleton] at ht
      rw [ht]
      rcases hl with hl | hl
      · rw [hl]; exact h4n
      · rw [hl]
        intro e
        injection e with e
        omega
theorem NW.below (h : NW w r m win tm k0 k1 k2 v0 v1 v2 v4 tl) (hb : Below w.heap.size w w1) : NW w1 r m win tm k0 k1 k2 v0 v1 v2 v4 tl :=
  have hg : w.grownBy w1 none := ⟨hb.os, hb.tape, hb.output, hb.size, fun k hk _ => hb.block k hk⟩
  have hk : ∀ {v : Value} {e k : Nat} {xs : List Value}, w.ownsRow (r + 1) e 1 v k xs → w1.ownsRow (r + 1) e 1 v k xs := fun h1 => h1.kept hg (by
    rename_i v _ _ _
    by_cases e : v.ownBlock = none
    · exact Or.inl e
    · exact Or.inr e)
  { blk := heap_keep h.blk hb, o0 := hk h.o0, o1 := hk h.o1, o2 := hk h.o2, o4 := hk h.o4, a01 := h.a01, a02 := h.a02, a04 := h.a04, a12 := h.a12, a14 := h.a14, a24 := h.a24, tnd := h.tnd, tr := fun t ht => ⟨(h.tr t ht).1, (h.tr t ht).2.keep (hb.block t (h.tr t ht).2.lt)⟩, t0 := h.t0, t1 := h.t1, t2 := h.t2, t4 := h.t4 }
theorem NW.cu (h : NW w r m win tm k0 k1 k2 v0 v1 v2 v4 tl) : w.cell? ⟨r, 0, none⟩ = some v0 ∧ w.cell? ⟨r, 1, none⟩ = some v1 ∧ w.cell? ⟨r, 2, none⟩ = some v2 ∧ w.cell? ⟨r, 4, none⟩ = some v4 :=
  ⟨(cell_of h.blk).2 rfl, (cell_of h.blk).2 rfl, (cell_of h.blk).2 rfl, (cell_of h.blk).2 rfl⟩
theorem NW.fz (h : NW w r m win tm k0 k1 k2 v0 v1 v2 v4 tl) (j : Nat) : w.frozen? ⟨r, j, none⟩ = false := frozen_of_row w r j _ _ h.blk
end
end Go.Proofs.Ytaheoifjihkipaa.As
