/- What calls of Go functions of this seat come to, as the rows need it: under the conditions that each theorem names. -/
import Derived.Test.YtebjibkgefgalaaDoorShaB
import Derived.Laws.OwnMore
import Derived.Laws.CopyOwn
namespace Go.Proofs.YtebjibkgefgalaaDoor.Sha
open Go.RowKit Go.Proofs.YtebjibkgefgalaaDoorW.PrintWords Go.Proofs.YtebjibkgefgalaaDoorW.PrintLast Go.Proofs.YtebjibkgefgalaaDoorW.PrintMore
set_option linter.unusedVariables false
set_option linter.unusedSimpArgs false
theorem info5 : (Tryd.prog.info? 5).map (fun i => (i.zero, i.size, i.bytes)) = some (some (.int .u8 0), 1, 1) := by kernel_rfl
theorem cutB (A : Option Addr) (c : Nat) (l : List Int) (n : Nat) (hn : n ≤ l.length) (hc : l.length ≤ c) :
    ∃ (A' : Option Addr) (c' : Nat), (∀ W : World, (Instr.slice 22 (.slice A l.length c) (some (.int .i64 (n : Int))) none none).run Tryd.prog W = .ok (.slice A' (l.drop n).length c') W) ∧
      (∀ w : World, B.C w A l.length l → B.C w A' (l.drop n).length (l.drop n)) ∧ (l.drop n).length ≤ c' := by
  obtain ⟨i0, hi, _, hsz, _⟩ := info_parts info5
  obtain ⟨A', h1, h2, h3⟩ := print_drop_of (P := Tryd.prog) (Value.int .u8) 0 22 5 .i64 Tryd.underlying22 hi hsz A c l (n : Int) (by omega) (by omega) hc
  simp only [Int.toNat_natCast] at h1 h2 h3
  exact ⟨A', _, h1, fun w h => Kd.C_of_reads (h1 := fun _ => rfl) (h2 w (Kd.reads_of_C h)), h3⟩
theorem add_zero3 (g o j : Nat) : (⟨g, o, none⟩ : Addr).add j = ⟨g, o + j, none⟩ := by
  unfold Addr.add
  split <;> simp_all

theorem C_block {w : World} {g off : Nat} {cs : Array Value} {t : TypeId} {fr : Nat × Nat} (k : IntKind) (hg : w.heap[g]? = some (.cells cs t fr)) (xs : List Int) (h : ∀ (j : Nat) (x : Int), xs[j]? = some x → cs[off + j]? = some (.int k x)) (hl : xs.length ≤ 9223372036854775807) :
    (Kd.int k).C w (some ⟨g, off, none⟩) xs.length xs := by
  refine ⟨rfl, hl, fun _ => ⟨_, rfl, fun j p hj => ⟨[.int k p], rfl, rfl, fun i u hu => ?_⟩⟩⟩
  have hi : i = 0 := by
    rcases i with _ | i
    · rfl
    · simp at hu
  subst hi
  have hu' : u = .int k p := by simpa using hu.symm
  subst hu'
  rw [add_zero3, cell_of_row w g _ cs t fr hg]
  show cs[off + (j * 1 + 0)]? = _
  rw [show off + (j * 1 + 0) = off + j by omega]
  exact h j p hj

theorem C_rows_block {w : World} {g : Nat} {cs : Array Value} {t : TypeId} {fr : Nat × Nat} (e : Nat) (hg : w.heap[g]? = some (.cells cs t fr)) (xs : List (List Int)) (h : ∀ (j : Nat) (x : List Int), xs[j]? = some x → ∃ A c, cs[j]? = some (.slice A x.length c) ∧ x.length ≤ c ∧ B.C w A x.length x) (hl : xs.length ≤ 9223372036854775807) :
    Kd.C (Kd.slice e B) w (some ⟨g, 0, none⟩) xs.length xs := by
  refine ⟨rfl, hl, fun _ => ⟨_, rfl, fun j p hj => ?_⟩⟩
  obtain ⟨A, c, h1, h2, h3⟩ := h j p hj
  refine ⟨[.slice A p.length c], rfl, ⟨A, c, rfl, h2, h3⟩, fun i u hu => ?_⟩
  have hi : i = 0 := by
    rcases i with _ | i
    · rfl
    · simp at hu
  subst hi
  have hu' : u = .slice A p.length c := by simpa using hu.symm
  subst hu'
  rw [add_zero3, cell_of_row w g _ cs t fr hg]
  show cs[0 + (j * 1 + 0)]? = _
  rw [show 0 + (j * 1 + 0) = j by omega]
  exact h1

/-- A row of bytes in a block of its own, between two places of the heap. -/
def Rw (w : World) (A : Option Addr) (b : List Int) (lo hi : Nat) : Prop := b.length ≤ 9223372036854775807 ∧ (0 < b.length → ∃ (q : Nat) (cur : Array Value), A = some ⟨q, 0, none⟩ ∧ lo ≤ q ∧ q < hi ∧ w.heap[q]? = some (.cells cur 5 (0, 0)) ∧ ∀ (j : Nat) (x : Int), b[j]? = some x → cur[j]? = some (.int .u8 x))
theorem Rw.C {w : World} {A : Option Addr} {b : List Int} {lo hi : Nat} (h : Rw w A b lo hi) : B.C w A b.length b := by
  rcases Nat.eq_zero_or_pos b.length with h0 | h0
  · exact ⟨rfl, h.1, fun hp => absurd hp (by omega)⟩
  · obtain ⟨q, cur, rfl, _, _, hc, hv⟩ := h.2 h0
    exact C_block .u8 hc b (fun j x hj => by rw [Nat.zero_add]; exact hv j x hj) h.1
theorem Rw.below {w w' : World} {A : Option Addr} {b : List Int} {lo hi : Nat} (h : Rw w A b lo hi) (hb : Below w.heap.size w w') : Rw w' A b lo hi :=
  ⟨h.1, fun hp => by obtain ⟨q, cur, e, e1, e2, hc, hv⟩ := h.2 hp; exact ⟨q, cur, e, e1, e2, heap_keep hc hb, hv⟩⟩
theorem Rw.far {w : World} {A : Option Addr} {b : List Int} {lo hi : Nat} (h : Rw w A b lo hi) (q j : Nat) (v : Value) (hq : q < lo ∨ hi ≤ q) : Rw (w.setCell ⟨q, j, none⟩ v) A b lo hi :=
  ⟨h.1, fun hp => by obtain ⟨g, cur, e, e1, e2, hc, hv⟩ := h.2 hp; exact ⟨g, cur, e, e1, e2, blk_far hc (p := ⟨q, j, none⟩) (show g ≠ q by omega) _, hv⟩⟩
theorem Rw.of {w : World} {base : Nat} {ok : Nat → Prop} {A : Option Addr} {n c : Nat} {b : List Int} (h : Kd.R B 5 w base ok (.slice A n c) b) : Rw w A b base w.heap.size := by
  obtain ⟨rfl, _, hC⟩ := Kd.R_reads' h
  refine ⟨hC.2.1, fun hp => ?_⟩
  obtain ⟨g, cap, e, hb, _, cells, hc⟩ := Kd.R_form h hp
  injection e with e1 e2 e3
  subst e1
  refine ⟨g, cells, rfl, hb, (Array.getElem?_eq_some_iff.1 hc).1, hc, fun j x hj => ?_⟩
  obtain ⟨ad, e, hx⟩ := getB hC j (List.getElem?_eq_some_iff.1 hj).1
  injection e with e
  subst e
  rw [show (Addr.mk g 0 none).add j = ⟨g, j, none⟩ by simp [Addr.add_lit]] at hx
  have := (cell_of hc).1 hx
  rw [this]
  unfold rd
  rw [Int.toNat_natCast, List.getD_eq_getElem?_getD, hj]
  rfl
theorem print_load_ok : True := trivial
/-- The first words. -/
def fS : S8 := (1779033703, 3144134277, 1013904242, 2773480762, 1359893119, 2600822924, 528734635, 1541459225)
/-- Blocks done one behind the other. -/
def blocksI (s : S8) (l : List Int) : Nat → S8
  | 0 => s
  | k + 1 => blockI (blocksI s l k) (l.drop (64 * k))
def be8 (n : Nat) : List Int := [((n / 72057594037927936 % 256 : Nat) : Int), ((n / 281474976710656 % 256 : Nat) : Int), ((n / 1099511627776 % 256 : Nat) : Int), ((n / 4294967296 % 256 : Nat) : Int), ((n / 16777216 % 256 : Nat) : Int), ((n / 65536 % 256 : Nat) : Int), ((n / 256 % 256 : Nat) : Int), ((n % 256 : Nat) : Int)]
def zerosN (n : Nat) : Nat := (119 - n % 64) % 64
def tailL (l : List Int) : List Int := l.drop (64 * (l.length / 64)) ++ [128] ++ List.replicate (zerosN l.length) 0 ++ be8 (l.length * 8)
/-- A word of a state. -/
def wd (s : S8) : Nat → Int
  | 0 => s.1 | 1 => s.2.1 | 2 => s.2.2.1 | 3 => s.2.2.2.1 | 4 => s.2.2.2.2.1 | 5 => s.2.2.2.2.2.1 | 6 => s.2.2.2.2.2.2.1 | _ => s.2.2.2.2.2.2.2
theorem c8_wd (s : S8) (q : Nat) (h : q < 8) : (c8 s)[q]? = some (.int .u32 (wd s q)) := by
  obtain rfl | rfl | rfl | rfl | rfl | rfl | rfl | rfl : q = 0 ∨ q = 1 ∨ q = 2 ∨ q = 3 ∨ q = 4 ∨ q = 5 ∨ q = 6 ∨ q = 7 := by omega
  all_goals rfl
def byteI (s : S8) (k : Nat) : Int := IntKind.u8.wrap (wd s (k / 4) / 2 ^ (24 - 8 * (k % 4)))
def outs (s : S8) : Nat → List Int
  | 0 => List.replicate 32 0
  | k + 1 => (outs s k).set k (byteI s k)
theorem outs_len (s : S8) (k : Nat) : (outs s k).length = 32 := by
  induction k with
  | zero => simp [outs]
  | succ k ih => simp [outs, ih]
/-- The digest of bytes. -/
def shaI (l : List Int) : List Int := outs (blocksI (blocksI fS l (l.length / 64)) (tailL l) ((tailL l).length / 64)) 32
theorem shaI_len (l : List Int) : (shaI l).length = 32 := outs_len _ _
def cb (xs : List Int) : Array Value := (xs.map (Value.int .u8)).toArray
theorem cb_get {xs : List Int} {j : Nat} (h : j < xs.length) : (cb xs)[j]? = some (.int .u8 (rd xs (j : Int))) := by
  unfold cb rd
  rw [Int.toNat_natCast, List.getD_eq_getElem?_getD, List.getElem?_toArray, List.getElem?_map, List.getElem?_eq_getElem h]
  rfl
theorem cb_set (xs : List Int) (j : Nat) (x : Int) : (cb xs).setIfInBounds j (.int .u8 x) = cb (xs.set j x) := by
  unfold cb
  rw [List.setIfInBounds_toArray, List.map_set]
theorem cb_size (xs : List Int) : (cb xs).size = xs.length := by simp [cb]
theorem cb_one (xs : List Int) : (cb xs).all (·.oneCell') = true := by
  rw [Array.all_eq_true_iff_forall_mem]
  intro v hv
  unfold cb at hv
  simp only [List.mem_toArray, List.mem_map] at hv
  obtain ⟨x, _, rfl⟩ := hv
  rfl
abbrev vd (xs : List Int) : Value := .agg (cb xs)
/-- A sum's memory: what is told, the state. -/
structure Sm (w0 w : World) (d : List Int) (s : S8) : Prop where
  d : w.heap[w0.heap.size]? = some (.cells (cb d) 41 (0, 0))
  s : w.heap[w0.heap.size + 1]? = some (.cells (c8 s) 47 (0, 0))
  b : Below w0.heap.size w0 w
theorem Sm.below {w0 w w' : World} {d : List Int} {s : S8} (h : Sm w0 w d s) (hb : Below w.heap.size w w') : Sm w0 w' d s := ⟨heap_keep h.d hb, heap_keep h.s hb, below_step h.b hb⟩
theorem Sm.row {w0 w : World} {d : List Int} {s : S8} (h : Sm w0 w d s) (r : S8) : Sm w0 (w.setRow (w0.heap.size + 1) (c8 r)) d r :=
  ⟨by rw [setRow_other _ _ _ _ (by omega)]; exact h.d, setRow_heap _ _ _ _ _ _ h.s, below_setRow h.b (by omega) _⟩
theorem Sm.set {w0 w : World} {d : List Int} {s : S8} (h : Sm w0 w d s) (j : Nat) (x : Int) : Sm w0 (w.setCell ⟨w0.heap.size, j, none⟩ (.int .u8 x)) (d.set j x) s :=
  ⟨by rw [← cb_set]; exact blk_set h.d j _, blk_far h.s (p := ⟨w0.heap.size, j, none⟩) (by show _ ≠ _; simp) _, h.b.setCell (p := ⟨w0.heap.size, j, none⟩) (Nat.le_refl _) _⟩
theorem bytes_drop {l : List Int} (h : bytes l) (k : Nat) : bytes (l.drop k) := fun x hx => h x (List.mem_of_mem_drop hx)
theorem bytes_app {l m : List Int} (h : bytes l) (g : bytes m) : bytes (l ++ m) := fun x hx => by
  rcases List.mem_append.1 hx with h' | h'
  · exact h x h'
  · exact g x h'
theorem c8_one (s : S8) : (c8 s).all (·.oneCell') = true := by simp [c8, Value.oneCell']
theorem infoS : (Tryd.prog.info? 47).map (·.size) = some 8 := by kernel_rfl
theorem infoD : (Tryd.prog.info? 41).map (·.size) = some 32 := by kernel_rfl
theorem C_one (w : World) (x : Int) (t : TypeId) : B.C (w.alloc (.cells #[.int .u8 x] t)) (some ⟨w.heap.size, 0, none⟩) 1 [x] :=
  C_block .u8 (heap_new _ _) [x] (fun j y hj => by
    rcases j with _ | j
    · obtain rfl : x = y := by simpa using hj
      rfl
    · simp at hj) (by simp)
theorem be8_bytes (n : Nat) : bytes (be8 n) := by
  intro x hx
  simp only [be8, List.mem_cons, List.not_mem_nil, or_false] at hx
  omega
theorem bytes_rep (n : Nat) : bytes (List.replicate n 0) := by
  intro x hx
  obtain ⟨_, rfl⟩ := List.mem_replicate.1 hx
  omega
theorem tailL_bytes {l : List Int} (h : bytes l) : bytes (tailL l) := by
  unfold tailL
  refine bytes_app (bytes_app (bytes_app (bytes_drop h _) ?_) (bytes_rep _)) (be8_bytes _)
  intro x hx
  simp only [List.mem_cons, List.not_mem_nil, or_false] at hx
  omega
theorem Rw.row {w : World} {A : Option Addr} {b : List Int} {lo hi : Nat} (h : Rw w A b lo hi) (q : Nat) (cs : Array Value) (hq : q < lo) : Rw (w.setRow q cs) A b lo hi :=
  ⟨h.1, fun hp => by obtain ⟨g, cur, e, e1, e2, hc, hv⟩ := h.2 hp; exact ⟨g, cur, e, e1, e2, (setRow_other _ _ _ _ (by omega)).trans hc, hv⟩⟩
theorem be8_step {N q : Nat} {x : Int} {t t2 : List Int} (h : t2 = t ++ (be8 N).take q) (hx : (be8 N)[q]? = some x) : t2 ++ [x] = t ++ (be8 N).take (q + 1) := by
  rw [h, List.append_assoc, List.take_add_one, hx]
  rfl
def slLen : Value → Nat
  | .slice _ n _ => n
  | _ => 0
set_option maxHeartbeats 1600000 in
set_option maxRecDepth 100000 in
theorem sum_calls (A : Option Addr) (c : Nat) (l : List Int) (w : World) (hr : B.C w A l.length l) (hc : l.length ≤ c) (hb : bytes l) (hT : Tab w) (h60 : l.length < 1152921504606846976) :
    Calls Tryd.prog 24 #[.slice A l.length c] w fun e w' => e = .returned (vd (shaI l)) ∧ Below w.heap.size w w' := by
  have HR := Aside0.mk hr
  have HY := Aside0.mk hb
  have HTAB := Aside0.mk hT
  clear hr hb
  have hp2 := hT.pos
  clear hT
  go_enter Tryd.func24, Tryd.ntmps24
  go_upto_region 1 with (fail)
  obtain ⟨w1, hw1, HB1, HD, HZ1, hT⟩ : ∃ w1, w.alloc (.cells #[.int .u8 0, .int .u8 0, .int .u8 0, .int .u8 0, .int .u8 0, .int .u8 0, .int .u8 0, .int .u8 0, .int .u8 0, .int .u8 0, .int .u8 0, .int .u8 0, .int .u8 0, .int .u8 0, .int .u8 0, .int .u8 0, .int .u8 0, .int .u8 0, .int .u8 0, .int .u8 0, .int .u8 0, .int .u8 0, .int .u8 0, .int .u8 0, .int .u8 0, .int .u8 0, .int .u8 0, .int .u8 0, .int .u8 0, .int .u8 0, .int .u8 0, .int .u8 0] 41) = w1 ∧ Aside0 (Below w.heap.size w w1) ∧ Aside0 (w1.heap[w.heap.size]? = some (.cells (cb (List.replicate 32 0)) 41 (0, 0))) ∧ Aside0 (w1.heap.size = w.heap.size + 1) ∧ Tab w1 :=
    ⟨_, rfl, ⟨(Below.refl w.heap.size w).alloc (Nat.le_refl _) _⟩, ⟨heap_new _ _⟩, ⟨by simp⟩, HTAB.out.below ((Below.refl w.heap.size w).alloc (Nat.le_refl _) _)⟩
  rw [hw1]
  clear hw1
  have hf0 : w1.cell? ⟨0, 0, none⟩ = some (.int .u32 1779033703) := hT.f 0 (by decide)
  have hf1 : w1.cell? ⟨0, 1, none⟩ = some (.int .u32 3144134277) := hT.f 1 (by decide)
  have hf2 : w1.cell? ⟨0, 2, none⟩ = some (.int .u32 1013904242) := hT.f 2 (by decide)
  have hf3 : w1.cell? ⟨0, 3, none⟩ = some (.int .u32 2773480762) := hT.f 3 (by decide)
  have hf4 : w1.cell? ⟨0, 4, none⟩ = some (.int .u32 1359893119) := hT.f 4 (by decide)
  have hf5 : w1.cell? ⟨0, 5, none⟩ = some (.int .u32 2600822924) := hT.f 5 (by decide)
  have hf6 : w1.cell? ⟨0, 6, none⟩ = some (.int .u32 528734635) := hT.f 6 (by decide)
  have hf7 : w1.cell? ⟨0, 7, none⟩ = some (.int .u32 1541459225) := hT.f 7 (by decide)
  clear hT
  go_wp2
  rw [HZ1.out]
  obtain ⟨wa, hwa, HS⟩ : ∃ wa, w1.alloc (.cells #[.int .u32 1779033703, .int .u32 3144134277, .int .u32 1013904242, .int .u32 2773480762, .int .u32 1359893119, .int .u32 2600822924, .int .u32 528734635, .int .u32 1541459225] 47) = wa ∧ Aside0 (Sm w wa (List.replicate 32 0) fS) :=
    ⟨_, rfl, ⟨by rw [Below.heap_alloc _ _ _ (by have := HZ1.out; omega)]; exact HD.out, heap_new' _ _ _ HZ1.out.symm, HB1.out.alloc HB1.out.size _⟩⟩
  rw [hwa]
  clear hwa hf0 hf1 hf2 hf3 hf4 hf5 hf6 hf7 HB1 HD HZ1
  go_loopw [0] (fun v wr => ∃ (k : Nat) (A' : Option Addr) (c' : Nat) (r : List Int), 64 * k ≤ l.length ∧ Aside0 (r = l.drop (64 * k)) ∧ v = .slice A' r.length c' ∧ r.length ≤ c' ∧ Aside0 (∀ W : World, B.C W A l.length l → B.C W A' r.length r) ∧ Aside0 (Sm w wr (List.replicate 32 0) (blocksI fS l k))) (fun v _ => slLen v)
  case atStart => exact ⟨0, A, c, l, Nat.zero_le _, ⟨by simp⟩, rfl, hc, ⟨fun _ h => h⟩, HS⟩
  case round =>
    clear HS
    obtain ⟨k, A', c', r, hk, HRE, rfl, hc', HRC, HS⟩ := hrel
    have hrl : r.length = l.length - 64 * k := by rw [HRE.out, List.length_drop]
    have HBK := Aside0.mk (show blocksI fS l (k + 1) = blockI (blocksI fS l k) r by rw [HRE.out]; rfl)
    generalize hsk : blocksI fS l k = s at HS HBK
    have HS0 := Aside0.mk hsk
    clear hsk
    by_cases h64 : 64 ≤ r.length
    · have e1 : decide ((r.length : Int) ≥ 64) = true := decide_eq_true (by omega)
      have hk2 : 64 * (k + 1) ≤ l.length := by omega
      have hr60 : r.length < 1152921504606846976 := by omega
      obtain ⟨A2, c2, hcut, hcc, hc2⟩ := cutB A' c' r 64 h64 hc'
      replace hcut : ∀ W : World, (Instr.slice 22 (.slice A' r.length c') (some (.int .i64 64)) none none).run Tryd.prog W = .ok (.slice A2 (r.drop 64).length c2) W := hcut
      have HRE2 := Aside0.mk (show r.drop 64 = l.drop (64 * (k + 1)) by rw [HRE.out, List.drop_drop, Nat.mul_add])
      have HRC2 := Aside0.mk (show ∀ W : World, B.C W A l.length l → B.C W A2 (r.drop 64).length (r.drop 64) from fun W h => hcc W (HRC.out W h))
      have hrl2 : (r.drop 64).length < r.length := by rw [List.length_drop]; omega
      generalize r.drop 64 = r2 at *
      clear hrl hk
      go_wp2_with (first | (refine wpList_load_row rfl 47 (.tmp 3) rfl (w.heap.size + 1) rfl 47 (c8 s) (0, 0) _ HS.out.s Tryd.underlying47 rfl infoS ?_))
      refine (block_calls s A' c' r _ (HRC.out _ (Kd.C_below HR.out HS.out.b)) hc' (by rw [HRE.out]; exact bytes_drop HY.out _) h64 (HTAB.out.below HS.out.b)).mono ?_
      rintro e w2 ⟨rfl, hb⟩
      rw [← HBK.out]
      replace HS := Aside0.mk (HS.out.below hb)
      clear hb
      go_wp2_with (first | (refine wpList_store_row rfl 47 (.tmp 3) (.tmp 18) rfl (w.heap.size + 1) (c8 (blocksI fS l (k + 1))) rfl rfl 47 _ HS.out.s infoS rfl (c8_one _) ?_))
      go_roundw
      case rel => exact ⟨k + 1, A2, c2, r2, hk2, HRE2, rfl, hc2, HRC2, ⟨HS.out.row _⟩⟩
      case measure => exact hrl2
    · have hk2 : k = l.length / 64 := by omega
      have hr64 : r.length ≤ 63 := by omega
      have hrm : l.length % 64 = r.length := by omega
      have e1 : decide ((r.length : Int) ≥ 64) = false := decide_eq_false (by omega)
      subst hk2
      have HS1 := Aside0.mk HS.out
      clear hrl hk HBK h64 HS
      have HRR := Aside0.mk (HRC.out _ (Kd.C_below HR.out HS1.out.b))
      obtain ⟨i0, hi0, hz0, hz1, hz2⟩ := info_parts info5
      go_wp2_with (first | ((with_reducible refine gate_dst (N := 19) rfl ?_); refine wpList_make_own wr rfl _ _ 22 rfl wr.heap.size 5 i0 (.int .u8 0) 1 Tryd.underlying22 hi0 hz0 hz1 .i64 .i64 _ 128 rfl rfl rfl ?c1 ?c2 (Nat.le_refl _) ?_; (case c1 => rw [hz2]; omega); (case c2 => unfold maxLen; omega); intro w2 hown hgrow; have HO := Aside0.mk (show Kd.R B 5 w2 wr.heap.size (fun _ => True) (.slice (some ⟨wr.heap.size, 0, none⟩) 0 128) [] from ⟨fun _ _ => trivial, [], hown, Reps.none _ _⟩); have HB := Aside0.mk ((Below.refl wr.heap.size wr).grown hgrow (Nat.le_refl _) (fun _ h => by cases h)); clear hown hgrow) | ((with_reducible refine gate_builtin (b := .append) (xs := #[.tmp 19, .tmp 20]) rfl ?_); at_builtin; refine Kd.R_append_rows B (w0 := wr) wr.heap.size rfl (.tmp 19) (.tmp 20) 22 5 (.int .u8 0) 1 rfl Tryd.underlying22 info5 rfl (by decide) (by omega) _ ([]) (r) _ _ _ (fun _ => True) (fun _ => False) rfl rfl HO.out (Kd.C_below HRR.out HB.out) (fun _ _ h => h) (fun _ h => h.elim) (fun _ _ => trivial) HB.out HB.out.size ?aL ?_; (case aL => simp; omega); intro v2 w3 ho hb2 hg hat; rw [List.nil_append] at ho; obtain ⟨A2, c2, rfl, hc2, hr2⟩ := Kd.R_reads ho; have HO2 := Aside0.mk ho; have HB2 := Aside0.mk hb2; clear ho hb2 hg hat hr2) | ((with_reducible refine gate_builtin (b := .append) (xs := #[.tmp 21, .tmp 22]) rfl ?_); at_builtin; refine Kd.R_append_rows B (w0 := wr) wr.heap.size rfl (.tmp 21) (.tmp 22) 22 5 (.int .u8 0) 1 rfl Tryd.underlying22 info5 rfl (by decide) (by omega) _ (r) ([128]) _ _ _ (fun _ => True) (fun _ => False) rfl rfl (by (with_reducible repeat (first | apply Kd.R_alloc | apply Kd.R_drewN | apply Kd.R_drew)); exact HO2.out) (C_one w3 128 _) (fun _ _ h => h) (fun _ h => h.elim) (fun _ _ => trivial) (HB2.out.alloc HB2.out.size _) (HB2.out.alloc HB2.out.size _).size ?aL ?_; (case aL => simp; omega); intro v3 w4 ho hb2 hg hat; have HO3 := Aside0.mk ho; have HB3 := Aside0.mk hb2; clear ho hb2 hg hat))
      clear HO HO2 HB HB2 hi0 hz0 hz1 hz2
      obtain ⟨wb, rfl⟩ : ∃ wb, wb = wr := ⟨_, rfl⟩
      obtain ⟨A5, c5, rfl, hc5, hr5⟩ := Kd.R_reads HO3.out
      clear hr5
      have hZ : (r.length + 1 + zerosN l.length) % 64 = 56 := by unfold zerosN; rw [hrm]; omega
      have hZ2 : zerosN l.length < 64 := by unfold zerosN; omega
      have hZ3 : ∀ j, j < zerosN l.length → (r.length + 1 + j) % 64 ≠ 56 := by intro j hj; unfold zerosN at hj; rw [hrm] at hj; omega
      have HTL := Aside0.mk (show tailL l = r ++ [128] ++ List.replicate (zerosN l.length) 0 ++ be8 (l.length * 8) by unfold tailL; rw [HRE.out])
      generalize zerosN l.length = Z at hZ hZ2 hZ3 HTL
      have HZ3 := Aside0.mk hZ3
      clear hZ3
      have ht0 : (r ++ [128]).length = r.length + 1 := by simp
      generalize hT0 : r ++ [128] = t0 at *
      have HT0 := Aside0.mk hT0
      replace ht0 := Aside0.mk ht0
      clear hT0
      go_loopw [5] (fun v wz => ∃ (j : Nat) (t : List Int) (A5 : Option Addr) (c5 : Nat), j ≤ Z ∧ Aside0 (t.length = r.length + 1 + j) ∧ Aside0 (t = t0 ++ List.replicate j 0) ∧ v = .slice A5 t.length c5 ∧ Aside0 (Kd.R B 5 wz wb.heap.size (fun _ => True) (.slice A5 t.length c5) t) ∧ Aside0 (Below wb.heap.size wb wz)) (fun v _ => 200 - slLen v)
      case atStart => exact ⟨0, t0, A5, c5, Nat.zero_le _, ⟨ht0.out⟩, ⟨by simp⟩, rfl, HO3, HB3⟩
      case round =>
        clear HO3 HB3 ht0
        obtain ⟨j, t, A5, c5, hj, htl, HTE, rfl, HO, HB⟩ := hrel
        by_cases hlt : j < Z
        · have hm := HZ3.out j hlt
          rw [← htl.out] at hm
          have hn63 : t.length ≤ 199 := by have := htl.out; omega
          have e1 : (((t.length : Nat) : Int) % 64 == 56) = false := by simp; omega
          have HT2 := Aside0.mk (show t ++ [0] = t0 ++ List.replicate (j + 1) 0 by rw [HTE.out, List.append_assoc, List.replicate_succ'])
          have htl2 : (t ++ [0]).length = r.length + 1 + (j + 1) := by have := htl.out; simp; omega
          have hts : (t ++ [0]).length = t.length + 1 := by simp
          replace htl2 := Aside0.mk htl2
          clear hm
          go_wp2_with (first | ((with_reducible refine gate_builtin (b := .append) (xs := #[.tmp 28, .tmp 29]) rfl ?_); at_builtin; refine Kd.R_append_rows B (w0 := wb) wb.heap.size rfl (.tmp 28) (.tmp 29) 22 5 (.int .u8 0) 1 rfl Tryd.underlying22 info5 rfl (by decide) (by omega) _ (t) ([0]) _ _ _ (fun _ => True) (fun _ => False) rfl rfl (by (with_reducible repeat (first | apply Kd.R_alloc | apply Kd.R_drewN | apply Kd.R_drew)); exact HO.out) (C_one wr 0 _) (fun _ _ h => h) (fun _ h => h.elim) (fun _ _ => trivial) (HB.out.alloc HB.out.size _) (HB.out.alloc HB.out.size _).size ?aL ?_; (case aL => have := htl.out; simp; omega); intro v2 w6 ho hb2 hg hat; have HO2 := Aside0.mk ho; have HB2 := Aside0.mk hb2; clear ho hb2 hg hat))
          generalize t ++ [0] = t2 at *
          obtain ⟨A6, c6, rfl, hc6, hr6⟩ := Kd.R_reads HO2.out
          clear hr6
          go_roundw
          case rel => exact ⟨j + 1, t2, A6, c6, by omega, htl2, HT2, rfl, HO2, HB2⟩
          case measure => simp [slLen]; omega
        · obtain rfl : j = Z := by omega
          have e1 : (((t.length : Nat) : Int) % 64 == 56) = true := by rw [htl.out]; simp; omega
          have e2 : (((t.length : Nat) : Int) % 64 != 56) = false := by simp only [bne, e1, Bool.not_true]
          have htb : t.length ≤ 128 := by have := htl.out; omega
          have HTM := Aside0.mk (show (t.length + 8) % 64 = 0 by have := htl.out; omega)
          replace HTL := Aside0.mk (show tailL l = t ++ be8 (l.length * 8) by rw [HTL.out, HTE.out])
          clear HZ3 HTE htl hZ hZ2 hlt hj HT0
          go_wp2
          clear e2
          go_loopw [5, 6] (fun v i wz => ∃ (q : Nat) (t2 : List Int) (A5 : Option Addr) (c5 : Nat), q ≤ 8 ∧ Aside0 (t2.length = t.length + q) ∧ Aside0 (t2 = t ++ (be8 (l.length * 8)).take q) ∧ v = .slice A5 t2.length c5 ∧ i = .int .i64 (56 - 8 * (q : Int)) ∧ Aside0 (Kd.R B 5 wz wb.heap.size (fun _ => True) (.slice A5 t2.length c5) t2) ∧ Aside0 (Below wb.heap.size wb wz)) (fun v _ _ => 200 - slLen v)
          case atStart => exact ⟨0, t, A5, c5, Nat.zero_le _, ⟨rfl⟩, ⟨by simp⟩, rfl, rfl, HO, HB⟩
          case round =>
            clear HO HB e1
            obtain ⟨q, t2, A5, c5, hq, htl, HTE, rfl, rfl, HO, HB⟩ := hrel
            have hn63 : t2.length ≤ 199 := by have := htl.out; omega
            by_cases hlt : q < 8
            · obtain rfl | rfl | rfl | rfl | rfl | rfl | rfl | rfl : q = 0 ∨ q = 1 ∨ q = 2 ∨ q = 3 ∨ q = 4 ∨ q = 5 ∨ q = 6 ∨ q = 7 := by omega
              · rw [show (56 - 8 * ((0 : Nat) : Int)) = 56 from rfl]
                clear hlt hq
                go_wp2_with (first | ((with_reducible refine gate_builtin (b := .append) (xs := #[.tmp 35, .tmp 42]) rfl ?_); at_builtin; refine Kd.R_append_rows B (w0 := wb) wb.heap.size rfl (.tmp 35) (.tmp 42) 22 5 (.int .u8 0) 1 rfl Tryd.underlying22 info5 rfl (by decide) (by omega) _ (t2) ([_]) _ _ _ (fun _ => True) (fun _ => False) rfl rfl (by (with_reducible repeat (first | apply Kd.R_alloc | apply Kd.R_drewN | apply Kd.R_drew)); exact HO.out) (C_one wr _ _) (fun _ _ h => h) (fun _ h => h.elim) (fun _ _ => trivial) (HB.out.alloc HB.out.size _) (HB.out.alloc HB.out.size _).size ?aL ?_; (case aL => simp; omega); intro v2 w6 ho hb2 hg hat; have HO2 := Aside0.mk ho; have HB2 := Aside0.mk hb2; clear ho hb2 hg hat))
                have HT2 := Aside0.mk (be8_step HTE.out (show _ = some ((l.length : Int) * 8 / 72057594037927936 : Int) from congrArg some (show ((l.length * 8 / 72057594037927936 % 256 : Nat) : Int) = (l.length : Int) * 8 / 72057594037927936 by omega)))
                have htl2 := Aside0.mk (show (t2 ++ [((l.length : Int) * 8 / 72057594037927936 : Int)]).length = t.length + 1 by have := htl.out; simp; omega)
                have hts : (t2 ++ [((l.length : Int) * 8 / 72057594037927936 : Int)]).length = t2.length + 1 := by simp
                generalize t2 ++ [((l.length : Int) * 8 / 72057594037927936 : Int)] = t3 at *
                obtain ⟨A6, c6, rfl, hc6, hr6⟩ := Kd.R_reads HO2.out
                clear hr6
                go_roundw
                case rel => exact ⟨1, t3, A6, c6, by omega, htl2, HT2, rfl, rfl, HO2, HB2⟩
                case measure => simp [slLen]; omega
              · rw [show (56 - 8 * ((1 : Nat) : Int)) = 48 from rfl]
                clear hlt hq
                go_wp2_with (first | ((with_reducible refine gate_builtin (b := .append) (xs := #[.tmp 35, .tmp 42]) rfl ?_); at_builtin; refine Kd.R_append_rows B (w0 := wb) wb.heap.size rfl (.tmp 35) (.tmp 42) 22 5 (.int .u8 0) 1 rfl Tryd.underlying22 info5 rfl (by decide) (by omega) _ (t2) ([_]) _ _ _ (fun _ => True) (fun _ => False) rfl rfl (by (with_reducible repeat (first | apply Kd.R_alloc | apply Kd.R_drewN | apply Kd.R_drew)); exact HO.out) (C_one wr _ _) (fun _ _ h => h) (fun _ h => h.elim) (fun _ _ => trivial) (HB.out.alloc HB.out.size _) (HB.out.alloc HB.out.size _).size ?aL ?_; (case aL => simp; omega); intro v2 w6 ho hb2 hg hat; have HO2 := Aside0.mk ho; have HB2 := Aside0.mk hb2; clear ho hb2 hg hat))
                have HT2 := Aside0.mk (be8_step HTE.out (show _ = some ((l.length : Int) * 8 / 281474976710656 % 256 : Int) from congrArg some (show ((l.length * 8 / 281474976710656 % 256 : Nat) : Int) = (l.length : Int) * 8 / 281474976710656 % 256 by omega)))
                have htl2 := Aside0.mk (show (t2 ++ [((l.length : Int) * 8 / 281474976710656 % 256 : Int)]).length = t.length + 2 by have := htl.out; simp; omega)
                have hts : (t2 ++ [((l.length : Int) * 8 / 281474976710656 % 256 : Int)]).length = t2.length + 1 := by simp
                generalize t2 ++ [((l.length : Int) * 8 / 281474976710656 % 256 : Int)] = t3 at *
                obtain ⟨A6, c6, rfl, hc6, hr6⟩ := Kd.R_reads HO2.out
                clear hr6
                go_roundw
                case rel => exact ⟨2, t3, A6, c6, by omega, htl2, HT2, rfl, rfl, HO2, HB2⟩
                case measure => simp [slLen]; omega
              · rw [show (56 - 8 * ((2 : Nat) : Int)) = 40 from rfl]
                clear hlt hq
                go_wp2_with (first | ((with_reducible refine gate_builtin (b := .append) (xs := #[.tmp 35, .tmp 42]) rfl ?_); at_builtin; refine Kd.R_append_rows B (w0 := wb) wb.heap.size rfl (.tmp 35) (.tmp 42) 22 5 (.int .u8 0) 1 rfl Tryd.underlying22 info5 rfl (by decide) (by omega) _ (t2) ([_]) _ _ _ (fun _ => True) (fun _ => False) rfl rfl (by (with_reducible repeat (first | apply Kd.R_alloc | apply Kd.R_drewN | apply Kd.R_drew)); exact HO.out) (C_one wr _ _) (fun _ _ h => h) (fun _ h => h.elim) (fun _ _ => trivial) (HB.out.alloc HB.out.size _) (HB.out.alloc HB.out.size _).size ?aL ?_; (case aL => simp; omega); intro v2 w6 ho hb2 hg hat; have HO2 := Aside0.mk ho; have HB2 := Aside0.mk hb2; clear ho hb2 hg hat))
                have HT2 := Aside0.mk (be8_step HTE.out (show _ = some ((l.length : Int) * 8 / 1099511627776 % 256 : Int) from congrArg some (show ((l.length * 8 / 1099511627776 % 256 : Nat) : Int) = (l.length : Int) * 8 / 1099511627776 % 256 by omega)))
                have htl2 := Aside0.mk (show (t2 ++ [((l.length : Int) * 8 / 1099511627776 % 256 : Int)]).length = t.length + 3 by have := htl.out; simp; omega)
                have hts : (t2 ++ [((l.length : Int) * 8 / 1099511627776 % 256 : Int)]).length = t2.length + 1 := by simp
                generalize t2 ++ [((l.length : Int) * 8 / 1099511627776 % 256 : Int)] = t3 at *
                obtain ⟨A6, c6, rfl, hc6, hr6⟩ := Kd.R_reads HO2.out
                clear hr6
                go_roundw
                case rel => exact ⟨3, t3, A6, c6, by omega, htl2, HT2, rfl, rfl, HO2, HB2⟩
                case measure => simp [slLen]; omega
              · rw [show (56 - 8 * ((3 : Nat) : Int)) = 32 from rfl]
                clear hlt hq
                go_wp2_with (first | ((with_reducible refine gate_builtin (b := .append) (xs := #[.tmp 35, .tmp 42]) rfl ?_); at_builtin; refine Kd.R_append_rows B (w0 := wb) wb.heap.size rfl (.tmp 35) (.tmp 42) 22 5 (.int .u8 0) 1 rfl Tryd.underlying22 info5 rfl (by decide) (by omega) _ (t2) ([_]) _ _ _ (fun _ => True) (fun _ => False) rfl rfl (by (with_reducible repeat (first | apply Kd.R_alloc | apply Kd.R_drewN | apply Kd.R_drew)); exact HO.out) (C_one wr _ _) (fun _ _ h => h) (fun _ h => h.elim) (fun _ _ => trivial) (HB.out.alloc HB.out.size _) (HB.out.alloc HB.out.size _).size ?aL ?_; (case aL => simp; omega); intro v2 w6 ho hb2 hg hat; have HO2 := Aside0.mk ho; have HB2 := Aside0.mk hb2; clear ho hb2 hg hat))
                have HT2 := Aside0.mk (be8_step HTE.out (show _ = some ((l.length : Int) * 8 / 4294967296 % 256 : Int) from congrArg some (show ((l.length * 8 / 4294967296 % 256 : Nat) : Int) = (l.length : Int) * 8 / 4294967296 % 256 by omega)))
                have htl2 := Aside0.mk (show (t2 ++ [((l.length : Int) * 8 / 4294967296 % 256 : Int)]).length = t.length + 4 by have := htl.out; simp; omega)
                have hts : (t2 ++ [((l.length : Int) * 8 / 4294967296 % 256 : Int)]).length = t2.length + 1 := by simp
                generalize t2 ++ [((l.length : Int) * 8 / 4294967296 % 256 : Int)] = t3 at *
                obtain ⟨A6, c6, rfl, hc6, hr6⟩ := Kd.R_reads HO2.out
                clear hr6
                go_roundw
                case rel => exact ⟨4, t3, A6, c6, by omega, htl2, HT2, rfl, rfl, HO2, HB2⟩
                case measure => simp [slLen]; omega
              · rw [show (56 - 8 * ((4 : Nat) : Int)) = 24 from rfl]
                clear hlt hq
                go_wp2_with (first | ((with_reducible refine gate_builtin (b := .append) (xs := #[.tmp 35, .tmp 42]) rfl ?_); at_builtin; refine Kd.R_append_rows B (w0 := wb) wb.heap.size rfl (.tmp 35) (.tmp 42) 22 5 (.int .u8 0) 1 rfl Tryd.underlying22 info5 rfl (by decide) (by omega) _ (t2) ([_]) _ _ _ (fun _ => True) (fun _ => False) rfl rfl (by (with_reducible repeat (first | apply Kd.R_alloc | apply Kd.R_drewN | apply Kd.R_drew)); exact HO.out) (C_one wr _ _) (fun _ _ h => h) (fun _ h => h.elim) (fun _ _ => trivial) (HB.out.alloc HB.out.size _) (HB.out.alloc HB.out.size _).size ?aL ?_; (case aL => simp; omega); intro v2 w6 ho hb2 hg hat; have HO2 := Aside0.mk ho; have HB2 := Aside0.mk hb2; clear ho hb2 hg hat))
                have HT2 := Aside0.mk (be8_step HTE.out (show _ = some ((l.length : Int) * 8 / 16777216 % 256 : Int) from congrArg some (show ((l.length * 8 / 16777216 % 256 : Nat) : Int) = (l.length : Int) * 8 / 16777216 % 256 by omega)))
                have htl2 := Aside0.mk (show (t2 ++ [((l.length : Int) * 8 / 16777216 % 256 : Int)]).length = t.length + 5 by have := htl.out; simp; omega)
                have hts : (t2 ++ [((l.length : Int) * 8 / 16777216 % 256 : Int)]).length = t2.length + 1 := by simp
                generalize t2 ++ [((l.length : Int) * 8 / 16777216 % 256 : Int)] = t3 at *
                obtain ⟨A6, c6, rfl, hc6, hr6⟩ := Kd.R_reads HO2.out
                clear hr6
                go_roundw
                case rel => exact ⟨5, t3, A6, c6, by omega, htl2, HT2, rfl, rfl, HO2, HB2⟩
                case measure => simp [slLen]; omega
              · rw [show (56 - 8 * ((5 : Nat) : Int)) = 16 from rfl]
                clear hlt hq
                go_wp2_with (first | ((with_reducible refine gate_builtin (b := .append) (xs := #[.tmp 35, .tmp 42]) rfl ?_); at_builtin; refine Kd.R_append_rows B (w0 := wb) wb.heap.size rfl (.tmp 35) (.tmp 42) 22 5 (.int .u8 0) 1 rfl Tryd.underlying22 info5 rfl (by decide) (by omega) _ (t2) ([_]) _ _ _ (fun _ => True) (fun _ => False) rfl rfl (by (with_reducible repeat (first | apply Kd.R_alloc | apply Kd.R_drewN | apply Kd.R_drew)); exact HO.out) (C_one wr _ _) (fun _ _ h => h) (fun _ h => h.elim) (fun _ _ => trivial) (HB.out.alloc HB.out.size _) (HB.out.alloc HB.out.size _).size ?aL ?_; (case aL => simp; omega); intro v2 w6 ho hb2 hg hat; have HO2 := Aside0.mk ho; have HB2 := Aside0.mk hb2; clear ho hb2 hg hat))
                have HT2 := Aside0.mk (be8_step HTE.out (show _ = some ((l.length : Int) * 8 / 65536 % 256 : Int) from congrArg some (show ((l.length * 8 / 65536 % 256 : Nat) : Int) = (l.length : Int) * 8 / 65536 % 256 by omega)))
                have htl2 := Aside0.mk (show (t2 ++ [((l.length : Int) * 8 / 65536 % 256 : Int)]).length = t.length + 6 by have := htl.out; simp; omega)
                have hts : (t2 ++ [((l.length : Int) * 8 / 65536 % 256 : Int)]).length = t2.length + 1 := by simp
                generalize t2 ++ [((l.length : Int) * 8 / 65536 % 256 : Int)] = t3 at *
                obtain ⟨A6, c6, rfl, hc6, hr6⟩ := Kd.R_reads HO2.out
                clear hr6
                go_roundw
                case rel => exact ⟨6, t3, A6, c6, by omega, htl2, HT2, rfl, rfl, HO2, HB2⟩
                case measure => simp [slLen]; omega
              · rw [show (56 - 8 * ((6 : Nat) : Int)) = 8 from rfl]
                clear hlt hq
                go_wp2_with (first | ((with_reducible refine gate_builtin (b := .append) (xs := #[.tmp 35, .tmp 42]) rfl ?_); at_builtin; refine Kd.R_append_rows B (w0 := wb) wb.heap.size rfl (.tmp 35) (.tmp 42) 22 5 (.int .u8 0) 1 rfl Tryd.underlying22 info5 rfl (by decide) (by omega) _ (t2) ([_]) _ _ _ (fun _ => True) (fun _ => False) rfl rfl (by (with_reducible repeat (first | apply Kd.R_alloc | apply Kd.R_drewN | apply Kd.R_drew)); exact HO.out) (C_one wr _ _) (fun _ _ h => h) (fun _ h => h.elim) (fun _ _ => trivial) (HB.out.alloc HB.out.size _) (HB.out.alloc HB.out.size _).size ?aL ?_; (case aL => simp; omega); intro v2 w6 ho hb2 hg hat; have HO2 := Aside0.mk ho; have HB2 := Aside0.mk hb2; clear ho hb2 hg hat))
                have HT2 := Aside0.mk (be8_step HTE.out (show _ = some ((l.length : Int) * 8 / 256 % 256 : Int) from congrArg some (show ((l.length * 8 / 256 % 256 : Nat) : Int) = (l.length : Int) * 8 / 256 % 256 by omega)))
                have htl2 := Aside0.mk (show (t2 ++ [((l.length : Int) * 8 / 256 % 256 : Int)]).length = t.length + 7 by have := htl.out; simp; omega)
                have hts : (t2 ++ [((l.length : Int) * 8 / 256 % 256 : Int)]).length = t2.length + 1 := by simp
                generalize t2 ++ [((l.length : Int) * 8 / 256 % 256 : Int)] = t3 at *
                obtain ⟨A6, c6, rfl, hc6, hr6⟩ := Kd.R_reads HO2.out
                clear hr6
                go_roundw
                case rel => exact ⟨7, t3, A6, c6, by omega, htl2, HT2, rfl, rfl, HO2, HB2⟩
                case measure => simp [slLen]; omega
              · rw [show (56 - 8 * ((7 : Nat) : Int)) = 0 from rfl]
                clear hlt hq
                go_wp2_with (first | ((with_reducible refine gate_builtin (b := .append) (xs := #[.tmp 35, .tmp 42]) rfl ?_); at_builtin; refine Kd.R_append_rows B (w0 := wb) wb.heap.size rfl (.tmp 35) (.tmp 42) 22 5 (.int .u8 0) 1 rfl Tryd.underlying22 info5 rfl (by decide) (by omega) _ (t2) ([_]) _ _ _ (fun _ => True) (fun _ => False) rfl rfl (by (with_reducible repeat (first | apply Kd.R_alloc | apply Kd.R_drewN | apply Kd.R_drew)); exact HO.out) (C_one wr _ _) (fun _ _ h => h) (fun _ h => h.elim) (fun _ _ => trivial) (HB.out.alloc HB.out.size _) (HB.out.alloc HB.out.size _).size ?aL ?_; (case aL => simp; omega); intro v2 w6 ho hb2 hg hat; have HO2 := Aside0.mk ho; have HB2 := Aside0.mk hb2; clear ho hb2 hg hat))
                have HT2 := Aside0.mk (be8_step HTE.out (show _ = some ((l.length : Int) * 8 % 256 : Int) from congrArg some (show ((l.length * 8 % 256 : Nat) : Int) = (l.length : Int) * 8 % 256 by omega)))
                have htl2 := Aside0.mk (show (t2 ++ [((l.length : Int) * 8 % 256 : Int)]).length = t.length + 8 by have := htl.out; simp; omega)
                have hts : (t2 ++ [((l.length : Int) * 8 % 256 : Int)]).length = t2.length + 1 := by simp
                generalize t2 ++ [((l.length : Int) * 8 % 256 : Int)] = t3 at *
                obtain ⟨A6, c6, rfl, hc6, hr6⟩ := Kd.R_reads HO2.out
                clear hr6
                go_roundw
                case rel => exact ⟨8, t3, A6, c6, by omega, htl2, HT2, rfl, rfl, HO2, HB2⟩
                case measure => simp [slLen]; omega
            · obtain rfl : q = 8 := by omega
              rw [show (56 - 8 * ((8 : Nat) : Int)) = -8 from rfl]
              have HT := Aside0.mk (show t2 = tailL l by rw [HTE.out, HTL.out]; rfl)
              have htm : t2.length % 64 = 0 := by rw [htl.out]; exact HTM.out
              have HRW := Aside0.mk (Rw.of HO.out)
              have hc9 : t2.length ≤ c5 := by obtain ⟨_, _, e, hh, _⟩ := Kd.R_reads HO.out; injection e with _ _ e3; omega
              have htl9 : t2.length ≤ 300 := by omega
              have HSA := Aside0.mk (HS1.out.below HB.out)
              have hlo := Aside0.mk (show w.heap.size + 1 < wb.heap.size from (Array.getElem?_eq_some_iff.1 HS1.out.s).1)
              have HYT := Aside0.mk (show bytes t2 by rw [HT.out]; exact tailL_bytes HY.out)
              have hhi : wr.heap.size = wr.heap.size := rfl
              generalize h9 : wr.heap.size = hi at HRW
              clear h9 hhi HTE htl HTM HTL hlt hq hn63 htb HB HO HS1
              obtain ⟨T, rfl⟩ : ∃ T, T = t2 := ⟨_, rfl⟩
              go_wp2
              go_loopw [5] (fun v wr => ∃ (k : Nat) (A' : Option Addr) (c' : Nat) (r : List Int), 64 * k ≤ T.length ∧ Aside0 (r = T.drop (64 * k)) ∧ v = .slice A' r.length c' ∧ r.length ≤ c' ∧ Aside0 (∀ W : World, B.C W A5 T.length T → B.C W A' r.length r) ∧ Aside0 (Sm w wr (List.replicate 32 0) (blocksI s T k)) ∧ Aside0 (Rw wr A5 T wb.heap.size hi)) (fun v _ => slLen v)
              case atStart => exact ⟨0, A5, c5, T, Nat.zero_le _, ⟨by simp⟩, rfl, hc9, ⟨fun _ h => h⟩, HSA, HRW⟩
              case round =>
                clear HSA HRW
                obtain ⟨k, A', c', r, hk, HRE, rfl, hc', HRC, HS, HRW⟩ := hrel
                have hrl : r.length = T.length - 64 * k := by rw [HRE.out, List.length_drop]
                have HBK := Aside0.mk (show blocksI s T (k + 1) = blockI (blocksI s T k) r by rw [HRE.out]; rfl)
                generalize hsk : blocksI s T k = s' at HS HBK
                have HSK := Aside0.mk hsk
                clear hsk
                by_cases h64 : 0 < r.length
                · have h64 : 64 ≤ r.length := by omega
                  have hk2 : 64 * (k + 1) ≤ T.length := by omega
                  obtain ⟨A2, c2, hcut, hcc, hc2⟩ := cutB A' c' r 64 h64 hc'
                  replace hcut : ∀ W : World, (Instr.slice 22 (.slice A' r.length c') (some (.int .i64 64)) none none).run Tryd.prog W = .ok (.slice A2 (r.drop 64).length c2) W := hcut
                  have HRE2 := Aside0.mk (show r.drop 64 = T.drop (64 * (k + 1)) by rw [HRE.out, List.drop_drop, Nat.mul_add])
                  have HRC2 := Aside0.mk (show ∀ W : World, B.C W A5 T.length T → B.C W A2 (r.drop 64).length (r.drop 64) from fun W h => hcc W (HRC.out W h))
                  have hrl2 : (r.drop 64).length < r.length := by rw [List.length_drop]; omega
                  have hr300 : r.length ≤ 300 := by omega
                  generalize r.drop 64 = r2 at *
                  clear hrl hk
                  go_wp2_with (first | (refine wpList_load_row rfl 47 (.tmp 3) rfl (w.heap.size + 1) rfl 47 (c8 s') (0, 0) _ HS.out.s Tryd.underlying47 rfl infoS ?_))
                  refine (block_calls s' A' c' r _ (HRC.out _ HRW.out.C) hc' (by rw [HRE.out]; exact bytes_drop HYT.out _) h64 (HTAB.out.below HS.out.b)).mono ?_
                  rintro e w2 ⟨rfl, hb⟩
                  rw [← HBK.out]
                  replace HS := Aside0.mk (HS.out.below hb)
                  replace HRW := Aside0.mk (HRW.out.below hb)
                  clear hb
                  go_wp2_with (first | (refine wpList_store_row rfl 47 (.tmp 3) (.tmp 51) rfl (w.heap.size + 1) (c8 (blocksI s T (k + 1))) rfl rfl 47 _ HS.out.s infoS rfl (c8_one _) ?_))
                  go_roundw
                  case rel => exact ⟨k + 1, A2, c2, r2, hk2, HRE2, rfl, hc2, HRC2, ⟨HS.out.row _⟩, ⟨HRW.out.row _ _ hlo.out⟩⟩
                  case measure => exact hrl2
                · have hr0 : r.length = 0 := by omega
                  have hkq : k = T.length / 64 := by omega
                  subst hkq
                  have HSH := Aside0.mk (show shaI l = outs s' 32 by unfold shaI; rw [HS0.out, ← HT.out, HSK.out])
                  have hrz : (r.length : Int) = 0 := by omega
                  have HSS := Aside0.mk HS.out
                  clear HS HRW HRC HRE HBK hrl hk h64 HS0 HYT HT hlo hc9 htl9 hc' hp2 HRR HSK
                  go_wp2
                  go_loopw [52] (fun i wr => ∃ k : Nat, k ≤ 32 ∧ i = .int .i64 (k : Int) ∧ Aside0 (Sm w wr (outs s' k) s')) (fun i _ => 32 - (intOf i).toNat)
                  case atStart => exact ⟨0, Nat.zero_le _, rfl, HSS⟩
                  case round =>
                    clear HSS
                    obtain ⟨k, hk, rfl, HS⟩ := hrel
                    by_cases hlt : k < 32
                    · have hk32 : (k : Int) < 32 := by omega
                      have HN := Aside0.mk (show outs s' (k + 1) = (outs s' k).set k (byteI s' k) from rfl)
                      have HV := Aside0.mk (show byteI s' k = IntKind.u8.wrap (wd s' (k / 4) / 2 ^ (24 - 8 * (k % 4))) from rfl)
                      generalize byteI s' k = bv at HN HV
                      obtain ⟨q, hq0⟩ : ∃ q, q = k / 4 := ⟨_, rfl⟩
                      obtain ⟨m, hm0⟩ : ∃ m, m = k % 4 := ⟨_, rfl⟩
                      obtain ⟨a, ha0⟩ : ∃ a, a = 24 - 8 * m := ⟨_, rfl⟩
                      rw [← hq0, ← hm0, ← ha0] at HV
                      have hq : (k : Int) / 4 = (q : Int) := by omega
                      have hm : (k : Int) % 4 = (m : Int) := by omega
                      have hm3 : m ≤ 3 := by omega
                      have hq8 : (q : Int) < 8 := by omega
                      have ha : 24 - 8 * (m : Int) = (a : Int) := by omega
                      have hx := (cell_of HS.out.s).2 (c8_wd s' q (by omega))
                      have hd := (cell_of HS.out.d).2 (cb_get (xs := outs s' k) (j := k) (by rw [outs_len]; omega))
                      have hf : wr.frozen? ⟨w.heap.size, k, none⟩ = false := by simp [World.frozen?, HS.out.d]
                      have ha24 : (a : Int) ≤ 32 := by omega
                      have ha1 : a ≤ 32 := by omega
                      generalize wd s' q = v at HV hx
                      generalize rd (outs s' k) (k : Int) = dv at hd
                      clear hq0 hm0 ha0
                      go_wp2
                      go_roundw
                      case rel => exact ⟨k + 1, by omega, by go_num, ⟨by rw [HN.out, HV.out]; exact HS.out.set k _⟩⟩
                      case measure => simp [intOf]; omega
                    · obtain rfl : k = 32 := by omega
                      clear hlt hk
                      rw [← HSH.out] at HS
                      have hi : (Tryd.prog.info? 41).map (·.size) = some (cb (shaI l)).size := by rw [cb_size, shaI_len]; exact infoD
                      generalize hD : shaI l = D at HS hi
                      have HDD := Aside0.mk hD
                      clear hD
                      have HI := Aside0.mk hi
                      clear hi
                      rw [show ((32 : Nat) : Int) = 32 from rfl]
                      go_wp2_with (first | (refine wpList_load_row rfl 41 (.tmp 2) rfl w.heap.size rfl 41 (cb D) (0, 0) _ HS.out.d Tryd.underlying41 rfl HI.out ?_) | (refine wpList_store_row rfl 41 (.tmp 2) (.tmp 68) rfl w.heap.size (cb D) rfl rfl 41 _ HS.out.d HI.out rfl (cb_one _) ?_))
                      have HF := Aside0.mk (setRow_heap _ _ _ (cb D) _ _ HS.out.d)
                      have HB := Aside0.mk (below_setRow HS.out.b (Nat.le_refl _) (cb D))
                      (try simp only [Exit.inBlock, Exit.then])
                      refine bodyPost_ret (results_cell_row rfl _ _ w.heap.size 41 (cb D) (0, 0) _ rfl HF.out Tryd.underlying41 rfl HI.out) rfl ?_
                      exact ⟨by rw [HDD.out], HB.out⟩
end Go.Proofs.YtebjibkgefgalaaDoor.Sha
