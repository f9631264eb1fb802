/- What calls of Go functions of this seat come to, as the rows need it: under the conditions that each theorem names. -/
import Derived.Test.YtoiblfmlahedlaaDoorH1f87673584ff
import Derived.Test.YtoiblfmlahedlaaDoorHd37212cbe2bb
import Derived.Laws.OwnMore
import Derived.Laws.CopyOwn
section
namespace Go.Proofs.YtoiblfmlahedlaaDoor.Sha
open Go.RowKit Go.Proofs.YtoiblfmlahedlaaDoorW.PrintWords Go.Proofs.YtoiblfmlahedlaaDoorW.PrintLast Go.Proofs.YtoiblfmlahedlaaDoorW.PrintMore
set_option linter.unusedVariables false
set_option linter.unusedSimpArgs false
set_option maxRecDepth 100000
theorem info5 : (Tryd.prog.info? 5).map (fun i => (i.zero, i.size, i.bytes)) = some (some (.int .u8 0), 1, 1) := by kernel_rfl
theorem cutB (A : Option Addr) (c : Nat) (l : List Int) (n : Nat) (hn : n ≤ l.length) (hc : l.length ≤ c) :
    ∃ (A' : Option Addr) (c' : Nat), (∀ W : World, (Instr.slice 22 (.slice A l.length c) (some (.int .i64 (n : Int))) none none).run Tryd.prog W = .ok (.slice A' (l.drop n).length c') W) ∧
      (∀ w : World, B.C w A l.length l → B.C w A' (l.drop n).length (l.drop n)) ∧ (l.drop n).length ≤ c' := by
  obtain ⟨i0, hi, _, hsz, _⟩ := info_parts info5
  obtain ⟨A', h1, h2, h3⟩ := print_drop_of (P := Tryd.prog) (Value.int .u8) 0 22 5 .i64 Tryd.underlying22 hi hsz A c l (n : Int) (by omega) (by omega) hc
  simp only [Int.toNat_natCast] at h1 h2 h3
  exact ⟨A', _, h1, fun w h => Kd.C_of_reads (h1 := fun _ => rfl) (h2 w (Kd.reads_of_C h)), h3⟩
theorem add_zero3 (g o j : Nat) : (⟨g, o, none⟩ : Addr).add j = ⟨g, o + j, none⟩ := by
  unfold Addr.add
  split <;> simp_all
theorem C_block {w : World} {g off : Nat} {cs : Array Value} {t : TypeId} {fr : Nat × Nat} (k : IntKind) (hg : w.heap[g]? = some (.cells cs t fr)) (xs : List Int) (h : ∀ (j : Nat) (x : Int), xs[j]? = some x → cs[off + j]? = some (.int k x)) (hl : xs.length ≤ 9223372036854775807) :
    (Kd.int k).C w (some ⟨g, off, none⟩) xs.length xs := by
  refine ⟨rfl, hl, fun _ => ⟨_, rfl, fun j p hj => ⟨[.int k p], rfl, rfl, fun i u hu => ?_⟩⟩⟩
  have hi : i = 0 := by
    rcases i with _ | i
    · rfl
    · simp at hu
  subst hi
  have hu' : u = .int k p := by simpa using hu.symm
  subst hu'
  rw [add_zero3, cell_of_row w g _ cs t fr hg]
  show cs[off + (j * 1 + 0)]? = _
  rw [show off + (j * 1 + 0) = off + j by omega]
  exact h j p hj
theorem C_rows_block {w : World} {g : Nat} {cs : Array Value} {t : TypeId} {fr : Nat × Nat} (e : Nat) (hg : w.heap[g]? = some (.cells cs t fr)) (xs : List (List Int)) (h : ∀ (j : Nat) (x : List Int), xs[j]? = some x → ∃ A c, cs[j]? = some (.slice A x.length c) ∧ x.length ≤ c ∧ B.C w A x.length x) (hl : xs.length ≤ 9223372036854775807) :
    Kd.C (Kd.slice e B) w (some ⟨g, 0, none⟩) xs.length xs := by
  refine ⟨rfl, hl, fun _ => ⟨_, rfl, fun j p hj => ?_⟩⟩
  obtain ⟨A, c, h1, h2, h3⟩ := h j p hj
  refine ⟨[.slice A p.length c], rfl, ⟨A, c, rfl, h2, h3⟩, fun i u hu => ?_⟩
  have hi : i = 0 := by
    rcases i with _ | i
    · rfl
    · simp at hu
  subst hi
  have hu' : u = .slice A p.length c := by simpa using hu.symm
  subst hu'
  rw [add_zero3, cell_of_row w g _ cs t fr hg]
  show cs[0 + (j * 1 + 0)]? = _
  rw [show 0 + (j * 1 + 0) = j by omega]
  exact h1
def Rw (w : World) (A : Option Addr) (b : List Int) (lo hi : Nat) : Prop := b.length ≤ 9223372036854775807 ∧ (0 < b.length → ∃ (q : Nat) (cur : Array Value), A = some ⟨q, 0, none⟩ ∧ lo ≤ q ∧ q < hi ∧ w.heap[q]? = some (.cells cur 5 (0, 0)) ∧ ∀ (j : Nat) (x : Int), b[j]? = some x → cur[j]? = some (.int .u8 x))
theorem Rw.C {w : World} {A : Option Addr} {b : List Int} {lo hi : Nat} (h : Rw w A b lo hi) : B.C w A b.length b := by
  rcases Nat.eq_zero_or_pos b.length with h0 | h0
  · exact ⟨rfl, h.1, fun hp => absurd hp (by omega)⟩
  · obtain ⟨q, cur, rfl, _, _, hc, hv⟩ := h.2 h0
    exact C_block .u8 hc b (fun j x hj => by rw [Nat.zero_add]; exact hv j x hj) h.1
theorem Rw.below {w w' : World} {A : Option Addr} {b : List Int} {lo hi : Nat} (h : Rw w A b lo hi) (hb : Below w.heap.size w w') : Rw w' A b lo hi :=
  ⟨h.1, fun hp => by obtain ⟨q, cur, e, e1, e2, hc, hv⟩ := h.2 hp; exact ⟨q, cur, e, e1, e2, heap_keep hc hb, hv⟩⟩
theorem Rw.far {w : World} {A : Option Addr} {b : List Int} {lo hi : Nat} (h : Rw w A b lo hi) (q j : Nat) (v : Value) (hq : q < lo ∨ hi ≤ q) : Rw (w.setCell ⟨q, j, none⟩ v) A b lo hi :=
  ⟨h.1, fun hp => by obtain ⟨g, cur, e, e1, e2, hc, hv⟩ := h.2 hp; exact ⟨g, cur, e, e1, e2, blk_far hc (p := ⟨q, j, none⟩) (show g ≠ q by omega) _, hv⟩⟩
theorem Rw.of {w : World} {base : Nat} {ok : Nat → Prop} {A : Option Addr} {n c : Nat} {b : List Int} (h : Kd.R B 5 w base ok (.slice A n c) b) : Rw w A b base w.heap.size := by
  obtain ⟨rfl, _, hC⟩ := Kd.R_reads' h
  refine ⟨hC.2.1, fun hp => ?_⟩
  obtain ⟨g, cap, e, hb, _, cells, hc⟩ := Kd.R_form h hp
  injection e with e1 e2 e3
  subst e1
  refine ⟨g, cells, rfl, hb, (Array.getElem?_eq_some_iff.1 hc).1, hc, fun j x hj => ?_⟩
  obtain ⟨ad, e, hx⟩ := getB hC j (List.getElem?_eq_some_iff.1 hj).1
  injection e with e
  subst e
  rw [show (Addr.mk g 0 none).add j = ⟨g, j, none⟩ by simp [Addr.add_lit]] at hx
  have := (cell_of hc).1 hx
  rw [this]
  unfold rd
  rw [Int.toNat_natCast, List.getD_eq_getElem?_getD, hj]
  rfl
def fS : S8 := (1779033703, 3144134277, 1013904242, 2773480762, 1359893119, 2600822924, 528734635, 1541459225)
def blocksI (s : S8) (l : List Int) : Nat → S8
  | 0 => s
  | k + 1 => blockI (blocksI s l k) (l.drop (64 * k))
def be8 (n : Nat) : List Int := [((n / 72057594037927936 % 256 : Nat) : Int), ((n / 281474976710656 % 256 : Nat) : Int), ((n / 1099511627776 % 256 : Nat) : Int), ((n / 4294967296 % 256 : Nat) : Int), ((n / 16777216 % 256 : Nat) : Int), ((n / 65536 % 256 : Nat) : Int), ((n / 256 % 256 : Nat) : Int), ((n % 256 : Nat) : Int)]
def zerosN (n : Nat) : Nat := (119 - n % 64) % 64
def tailL (l : List Int) : List Int := l.drop (64 * (l.length / 64)) ++ [128] ++ List.replicate (zerosN l.length) 0 ++ be8 (l.length * 8)
def wd (s : S8) : Nat → Int
  | 0 => s.1 | 1 => s.2.1 | 2 => s.2.2.1 | 3 => s.2.2.2.1 | 4 => s.2.2.2.2.1 | 5 => s.2.2.2.2.2.1 | 6 => s.2.2.2.2.2.2.1 | _ => s.2.2.2.2.2.2.2
theorem c8_wd (s : S8) (q : Nat) (h : q < 8) : (c8 s)[q]? = some (.int .u32 (wd s q)) := by
  obtain rfl | rfl | rfl | rfl | rfl | rfl | rfl | rfl : q = 0 ∨ q = 1 ∨ q = 2 ∨ q = 3 ∨ q = 4 ∨ q = 5 ∨ q = 6 ∨ q = 7 := by omega
  all_goals rfl
def byteI (s : S8) (k : Nat) : Int := IntKind.u8.wrap (wd s (k / 4) / 2 ^ (24 - 8 * (k % 4)))
def outs (s : S8) : Nat → List Int
  | 0 => List.replicate 32 0
  | k + 1 => (outs s k).set k (byteI s k)
theorem outs_len (s : S8) (k : Nat) : (outs s k).length = 32 := by
  induction k with
  | zero => simp [outs]
  | succ k ih => simp [outs, ih]
def shaI (l : List Int) : List Int := outs (blocksI (blocksI fS l (l.length / 64)) (tailL l) ((tailL l).length / 64)) 32
theorem shaI_len (l : List Int) : (shaI l).length = 32 := outs_len _ _
def cb (xs : List Int) : Array Value := (xs.map (Value.int .u8)).toArray
theorem cb_get {xs : List Int} {j : Nat} (h : j < xs.length) : (cb xs)[j]? = some (.int .u8 (rd xs (j : Int))) := by
  unfold cb rd
  rw [Int.toNat_natCast, List.getD_eq_getElem?_getD, List.getElem?_toArray, List.getElem?_map, List.getElem?_eq_getElem h]
  rfl
theorem cb_set (xs : List Int) (j : Nat) (x : Int) : (cb xs).setIfInBounds j (.int .u8 x) = cb (xs.set j x) := by
  unfold cb
  rw [List.setIfInBounds_toArray, List.map_set]
theorem cb_size (xs : List Int) : (cb xs).size = xs.length := by simp [cb]
theorem cb_one (xs : List Int) : (cb xs).all (·.oneCell') = true := by
  rw [Array.all_eq_true_iff_forall_mem]
  intro v hv
  unfold cb at hv
  simp only [List.mem_toArray, List.mem_map] at hv
  obtain ⟨x, _, rfl⟩ := hv
  rfl
abbrev vd (xs : List Int) : Value := .agg (cb xs)
structure Sm (w0 w : World) (d : List Int) (s : S8) : Prop where
  d : w.heap[w0.heap.size]? = some (.cells (cb d) 31 (0, 0))
  s : w.heap[w0.heap.size + 1]? = some (.cells (c8 s) 67 (0, 0))
  b : Below w0.heap.size w0 w
theorem Sm.below {w0 w w' : World} {d : List Int} {s : S8} (h : Sm w0 w d s) (hb : Below w.heap.size w w') : Sm w0 w' d s := ⟨heap_keep h.d hb, heap_keep h.s hb, below_step h.b hb⟩
theorem Sm.row {w0 w : World} {d : List Int} {s : S8} (h : Sm w0 w d s) (r : S8) : Sm w0 (w.setRow (w0.heap.size + 1) (c8 r)) d r :=
  ⟨by rw [setRow_other _ _ _ _ (by omega)]; exact h.d, setRow_heap _ _ _ _ _ _ h.s, below_setRow h.b (by omega) _⟩
theorem Sm.set {w0 w : World} {d : List Int} {s : S8} (h : Sm w0 w d s) (j : Nat) (x : Int) : Sm w0 (w.setCell ⟨w0.heap.size, j, none⟩ (.int .u8 x)) (d.set j x) s :=
  ⟨by rw [← cb_set]; exact blk_set h.d j _, blk_far h.s (p := ⟨w0.heap.size, j, none⟩) (by show _ ≠ _; simp) _, h.b.setCell (p := ⟨w0.heap.size, j, none⟩) (Nat.le_refl _) _⟩
theorem bytes_drop {l : List Int} (h : bytes l) (k : Nat) : bytes (l.drop k) := fun x hx => h x (List.mem_of_mem_drop hx)
theorem bytes_app {l m : List Int} (h : bytes l) (g : bytes m) : bytes (l ++ m) := fun x hx => by
  rcases List.mem_append.1 hx with h' | h'
  · exact h x h'
  · exact g x h'
theorem c8_one (s : S8) : (c8 s).all (·.oneCell') = true := by simp [c8, Value.oneCell']
theorem infoS : (Tryd.prog.info? 67).map (·.size) = some 8 := by kernel_rfl
theorem infoD : (Tryd.prog.info? 31).map (·.size) = some 32 := by kernel_rfl
theorem C_one (w : World) (x : Int) (t : TypeId) : B.C (w.alloc (.cells #[.int .u8 x] t)) (some ⟨w.heap.size, 0, none⟩) 1 [x] :=
  C_block .u8 (heap_new _ _) [x] (fun j y hj => by
    rcases j with _ | j
    · obtain rfl : x = y := by simpa using hj
      rfl
    · simp at hj) (by simp)
theorem be8_bytes (n : Nat) : bytes (be8 n) := by
  intro x hx
  simp only [be8, List.mem_cons, List.not_mem_nil, or_false] at hx
  omega
theorem bytes_rep (n : Nat) : bytes (List.replicate n 0) := by
  intro x hx
  obtain ⟨_, rfl⟩ := List.mem_replicate.1 hx
  omega
theorem tailL_bytes {l : List Int} (h : bytes l) : bytes (tailL l) := by
  unfold tailL
  refine bytes_app (bytes_app (bytes_app (bytes_drop h _) ?_) (bytes_rep _)) (be8_bytes _)
  intro x hx
  simp only [List.mem_cons, List.not_mem_nil, or_false] at hx
  omega
theorem Rw.row {w : World} {A : Option Addr} {b : List Int} {lo hi : Nat} (h : Rw w A b lo hi) (q : Nat) (cs : Array Value) (hq : q < lo) : Rw (w.setRow q cs) A b lo hi :=
  ⟨h.1, fun hp => by obtain ⟨g, cur, e, e1, e2, hc, hv⟩ := h.2 hp; exact ⟨g, cur, e, e1, e2, (setRow_other _ _ _ _ (by omega)).trans hc, hv⟩⟩
theorem be8_step {N q : Nat} {x : Int} {t t2 : List Int} (h : t2 = t ++ (be8 N).take q) (hx : (be8 N)[q]? = some x) : t2 ++ [x] = t ++ (be8 N).take (q + 1) := by
  rw [h, List.append_assoc, List.take_add_one, hx]
  rfl
def slLen : Value → Nat
  | .slice _ n _ => n
  | _ => 0
set_option maxHeartbeats 1600000 in
set_option maxRecDepth 100000 in
theorem sum_calls (A : Option Addr) (c : Nat) (l : List Int) (w : World) (hr : B.C w A l.length l) (hc : l.length ≤ c) (hb : bytes l) (hT : Tab w) (h60 : l.length < 1152921504606846976) :
    Calls Tryd.prog 103 #[.slice A l.length c] w fun e w' => e = .returned (vd (shaI l)) ∧ Below w.heap.size w w' := by
  have HR := Aside0.mk hr
  have HY := Aside0.mk hb
  have HTAB := Aside0.mk hT
  clear hr hb
  have hp2 := hT.pos
  clear hT
  go_enter Tryd.func103, Tryd.ntmps103
  go_upto_region 1 with (fail)
  obtain ⟨w1, hw1, HB1, HD, HZ1, hT⟩ : ∃ w1, w.alloc (.cells #[.int .u8 0, .int .u8 0, .int .u8 0, .int .u8 0, .int .u8 0, .int .u8 0, .int .u8 0, .int .u8 0, .int .u8 0, .int .u8 0, .int .u8 0, .int .u8 0, .int .u8 0, .int .u8 0, .int .u8 0, .int .u8 0, .int .u8 0, .int .u8 0, .int .u8 0, .int .u8 0, .int .u8 0, .int .u8 0, .int .u8 0, .int .u8 0, .int .u8 0, .int .u8 0, .int .u8 0, .int .u8 0, .int .u8 0, .int .u8 0, .int .u8 0, .int .u8 0] 31) = w1 ∧ Aside0 (Below w.heap.size w w1) ∧ Aside0 (w1.heap[w.heap.size]? = some (.cells (cb (List.replicate 32 0)) 31 (0, 0))) ∧ Aside0 (w1.heap.size = w.heap.size + 1) ∧ Tab w1 :=
    ⟨_, rfl, ⟨(Below.refl w.heap.size w).alloc (Nat.le_refl _) _⟩, ⟨heap_new _ _⟩, ⟨by simp⟩, HTAB.out.below ((Below.refl w.heap.size w).alloc (Nat.le_refl _) _)⟩
  rw [hw1]
  clear hw1
  have hf0 : w1.cell? ⟨0, 0, none⟩ = some (.int .u32 1779033703) := hT.f 0 (by decide)
  have hf1 : w1.cell? ⟨0, 1, none⟩ = some (.int .u32 3144134277) := hT.f 1 (by decide)
  have hf2 : w1.cell? ⟨0, 2, none⟩ = some (.int .u32 1013904242) := hT.f 2 (by decide)
  have hf3 : w1.cell? ⟨0, 3, none⟩ = some (.int .u32 2773480762) := hT.f 3 (by decide)
  have hf4 : w1.cell? ⟨0, 4, none⟩ = some (.int .u32 1359893119) := hT.f 4 (by decide)
  have hf5 : w1.cell? ⟨0, 5, none⟩ = some (.int .u32 2600822924) := hT.f 5 (by decide)
  have hf6 : w1.cell? ⟨0, 6, none⟩ = some (.int .u32 528734635) := hT.f 6 (by decide)
  have hf7 : w1.cell? ⟨0, 7, none⟩ = some (.int .u32 1541459225) := hT.f 7 (by decide)
  clear hT
  go_wp2
  rw [HZ1.out]
  obtain ⟨wa, hwa, HS⟩ : ∃ wa, w1.alloc (.cells #[.int .u32 1779033703, .int .u32 3144134277, .int .u32 1013904242, .int .u32 2773480762, .int .u32 1359893119, .int .u32 2600822924, .int .u32 528734635, .int .u32 1541459225] 67) = wa ∧ Aside0 (Sm w wa (List.replicate 32 0) fS) :=
    ⟨_, rfl, ⟨by rw [Below.heap_alloc _ _ _ (by have := HZ1.out; omega)]; exact HD.out, heap_new' _ _ _ HZ1.out.symm, HB1.out.alloc HB1.out.size _⟩⟩
  rw [hwa]
  clear hwa hf0 hf1 hf2 hf3 hf4 hf5 hf6 hf7 HB1 HD HZ1
  go_loopw [0] (fun v wr => ∃ (k : Nat) (A' : Option Addr) (c' : Nat) (r : List Int), 64 * k ≤ l.length ∧ Aside0 (r = l.drop (64 * k)) ∧ v = .slice A' r.length c' ∧ r.length ≤ c' ∧ Aside0 (∀ W : World, B.C W A l.length l → B.C W A' r.length r) ∧ Aside0 (Sm w wr (List.replicate 32 0) (blocksI fS l k))) (fun v _ => slLen v)
  case atStart => exact ⟨0, A, c, l, Nat.zero_le _, ⟨by simp⟩, rfl, hc, ⟨fun _ h => h⟩, HS⟩
  case round =>
    clear HS
    obtain ⟨k, A', c', r, hk, HRE, rfl, hc', HRC, HS⟩ := hrel
    have hrl : r.length = l.length - 64 * k := by rw [HRE.out, List.length_drop]
    have HBK := Aside0.mk (show blocksI fS l (k + 1) = blockI (blocksI fS l k) r by rw [HRE.out]; rfl)
    generalize hsk : blocksI fS l k = s at HS HBK
    have HS0 := Aside0.mk hsk
    clear hsk
    by_cases h64 : 64 ≤ r.length
    · have e1 : decide ((r.length : Int) ≥ 64) = true := decide_eq_true (by omega)
      have hk2 : 64 * (k + 1) ≤ l.length := by omega
      have hr60 : r.length < 1152921504606846976 := by omega
      obtain ⟨A2, c2, hcut, hcc, hc2⟩ := cutB A' c' r 64 h64 hc'
      replace hcut : ∀ W : World, (Instr.slice 22 (.slice A' r.length c') (some (.int .i64 64)) none none).run Tryd.prog W = .ok (.slice A2 (r.drop 64).length c2) W := hcut
      have HRE2 := Aside0.mk (show r.drop 64 = l.drop (64 * (k + 1)) by rw [HRE.out, List.drop_drop, Nat.mul_add])
      have HRC2 := Aside0.mk (show ∀ W : World, B.C W A l.length l → B.C W A2 (r.drop 64).length (r.drop 64) from fun W h => hcc W (HRC.out W h))
      have hrl2 : (r.drop 64).length < r.length := by rw [List.length_drop]; omega
      generalize r.drop 64 = r2 at *
      clear hrl hk
      go_wp2_with (first | (refine wpList_load_row rfl 67 (.tmp 3) rfl (w.heap.size + 1) rfl 67 (c8 s) (0, 0) _ HS.out.s Tryd.underlying67 rfl infoS ?_))
      refine (block_calls s A' c' r _ (HRC.out _ (Kd.C_below HR.out HS.out.b)) hc' (by rw [HRE.out]; exact bytes_drop HY.out _) h64 (HTAB.out.below HS.out.b)).mono ?_
      rintro e w2 ⟨rfl, hb⟩
      rw [← HBK.out]
      replace HS := Aside0.mk (HS.out.below hb)
      clear hb
      go_wp2_with (first | (refine wpList_store_row rfl 67 (.tmp 3) (.tmp 18) rfl (w.heap.size + 1) (c8 (blocksI fS l (k + 1))) rfl rfl 67 _ HS.out.s infoS rfl (c8_one _) ?_))
      go_roundw
      case rel => exact ⟨k + 1, A2, c2, r2, hk2, HRE2, rfl, hc2, HRC2, ⟨HS.out.row _⟩⟩
      case measure => exact hrl2
    · have hk2 : k = l.length / 64 := by omega
      have hr64 : r.length ≤ 63 := by omega
      have hrm : l.length % 64 = r.length := by omega
      have e1 : decide ((r.length : Int) ≥ 64) = false := decide_eq_false (by omega)
      subst hk2
      have HS1 := Aside0.mk HS.out
      clear hrl hk HBK h64 HS
      have HRR := Aside0.mk (HRC.out _ (Kd.C_below HR.out HS1.out.b))
      obtain ⟨i0, hi0, hz0, hz1, hz2⟩ := info_parts info5
      go_wp2_with (first | ((with_reducible refine gate_dst (N := 19) rfl ?_); refine wpList_make_own wr rfl _ _ 22 rfl wr.heap.size 5 i0 (.int .u8 0) 1 Tryd.underlying22 hi0 hz0 hz1 .i64 .i64 _ 128 rfl rfl rfl ?c1 ?c2 (Nat.le_refl _) ?_; (case c1 => rw [hz2]; omega); (case c2 => unfold maxLen; omega); intro w2 hown hgrow; have HO := Aside0.mk (show Kd.R B 5 w2 wr.heap.size (fun _ => True) (.slice (some ⟨wr.heap.size, 0, none⟩) 0 128) [] from ⟨fun _ _ => trivial, [], hown, Reps.none _ _⟩); have HB := Aside0.mk ((Below.refl wr.heap.size wr).grown hgrow (Nat.le_refl _) (fun _ h => by cases h)); clear hown hgrow) | ((with_reducible refine gate_builtin (b := .append) (xs := #[.tmp 19, .tmp 20]) rfl ?_); at_builtin; refine Kd.R_append_rows B (w0 := wr) wr.heap.size rfl (.tmp 19) (.tmp 20) 22 5 (.int .u8 0) 1 rfl Tryd.underlying22 info5 rfl (by decide) (by omega) _ ([]) (r) _ _ _ (fun _ => True) (fun _ => False) rfl rfl HO.out (Kd.C_below HRR.out HB.out) (fun _ _ h => h) (fun _ h => h.elim) (fun _ _ => trivial) HB.out HB.out.size ?aL ?_; (case aL => simp; omega); intro v2 w3 ho hb2 hg hat; rw [List.nil_append] at ho; obtain ⟨A2, c2, rfl, hc2, hr2⟩ := Kd.R_reads ho; have HO2 := Aside0.mk ho; have HB2 := Aside0.mk hb2; clear ho hb2 hg hat hr2) | ((with_reducible refine gate_builtin (b := .append) (xs := #[.tmp 21, .tmp 22]) rfl ?_); at_builtin; refine Kd.R_append_rows B (w0 := wr) wr.heap.size rfl (.tmp 21) (.tmp 22) 22 5 (.int .u8 0) 1 rfl Tryd.underlying22 info5 rfl (by decide) (by omega) _ (r) ([128]) _ _ _ (fun _ => True) (fun _ => False) rfl rfl (by (with_reducible repeat (first | apply Kd.R_alloc | apply Kd.R_drewN | apply Kd.R_drew)); exact HO2.out) (C_one w3 128 _) (fun _ _ h => h) (fun _ h => h.elim) (fun _ _ => trivial) (HB2.out.alloc HB2.out.size _) (HB2.out.alloc HB2.out.size _).size ?aL ?_; (case aL => simp; omega); intro v3 w4 ho hb2 hg hat; have HO3 := Aside0.mk ho; have HB3 := Aside0.mk hb2; clear ho hb2 hg hat))
      clear HO HO2 HB HB2 hi0 hz0 hz1 hz2
      obtain ⟨wb, rfl⟩ : ∃ wb, wb = wr := ⟨_, rfl⟩
      obtain ⟨A5, c5, rfl, hc5, hr5⟩ := Kd.R_reads HO3.out
      clear hr5
      have hZ : (r.length + 1 + zerosN l.length) % 64 = 56 := by unfold zerosN; rw [hrm]; omega
      have hZ2 : zerosN l.length < 64 := by unfold zerosN; omega
      have hZ3 : ∀ j, j < zerosN l.length → (r.length + 1 + j) % 64 ≠ 56 := by intro j hj; unfold zerosN at hj; rw [hrm] at hj; omega
      have HTL := Aside0.mk (show tailL l = r ++ [128] ++ List.replicate (zerosN l.length) 0 ++ be8 (l.length * 8) by unfold tailL; rw [HRE.out])
      generalize zerosN l.length = Z at hZ hZ2 hZ3 HTL
      have HZ3 := Aside0.mk hZ3
      clear hZ3
      have ht0 : (r ++ [128]).length = r.length + 1 := by simp
      generalize hT0 : r ++ [128] = t0 at *
      have HT0 := Aside0.mk hT0
      replace ht0 := Aside0.mk ht0
      clear hT0
      go_loopw [5] (fun v wz => ∃ (j : Nat) (t : List Int) (A5 : Option Addr) (c5 : Nat), j ≤ Z ∧ Aside0 (t.length = r.length + 1 + j) ∧ Aside0 (t = t0 ++ List.replicate j 0) ∧ v = .slice A5 t.length c5 ∧ Aside0 (Kd.R B 5 wz wb.heap.size (fun _ => True) (.slice A5 t.length c5) t) ∧ Aside0 (Below wb.heap.size wb wz)) (fun v _ => 200 - slLen v)
      case atStart => exact ⟨0, t0, A5, c5, Nat.zero_le _, ⟨ht0.out⟩, ⟨by simp⟩, rfl, HO3, HB3⟩
      case round =>
        clear HO3 HB3 ht0
        obtain ⟨j, t, A5, c5, hj, htl, HTE, rfl, HO, HB⟩ := hrel
        by_cases hlt : j < Z
        · have hm := HZ3.out j hlt
          rw [← htl.out] at hm
          have hn63 : t.length ≤ 199 := by have := htl.out; omega
          have e1 : (((t.length : Nat) : Int) % 64 == 56) = false := by simp; omega
          have HT2 := Aside0.mk (show t ++ [0] = t0 ++ List.replicate (j + 1) 0 by rw [HTE.out, List.append_assoc, List.replicate_succ'])
          have htl2 : (t ++ [0]).length = r.length + 1 + (j + 1) := by have := htl.out; simp; omega
          have hts : (t ++ [0]).length = t.length + 1 := by simp
          replace htl2 := Aside0.mk htl2
          clear hm
          go_wp2_with (first | ((with_reducible refine gate_builtin (b := .append) (xs := #[.tmp 28, .tmp 29]) rfl ?_); at_builtin; refine Kd.R_append_rows B (w0 := wb) wb.heap.size rfl (.tmp 28) (.tmp 29) 22 5 (.int .u8 0) 1 rfl Tryd.underlying22 info5 rfl (by decide) (by omega) _ (t) ([0]) _ _ _ (fun _ => True) (fun _ => False) rfl rfl (by (with_reducible repeat (first | apply Kd.R_alloc | apply Kd.R_drewN | apply Kd.R_drew)); exact HO.out) (C_one wr 0 _) (fun _ _ h => h) (fun _ h => h.elim) (fun _ _ => trivial) (HB.out.alloc HB.out.size _) (HB.out.alloc HB.out.size _).size ?aL ?_; (case aL => have := htl.out; simp; omega); intro v2 w6 ho hb2 hg hat; have HO2 := Aside0.mk ho; have HB2 := Aside0.mk hb2; clear ho hb2 hg hat))
          generalize t ++ [0] = t2 at *
          obtain ⟨A6, c6, rfl, hc6, hr6⟩ := Kd.R_reads HO2.out
          clear hr6
          go_roundw
          case rel => exact ⟨j + 1, t2, A6, c6, by omega, htl2, HT2, rfl, HO2, HB2⟩
          case measure => simp [slLen]; omega
        · obtain rfl : j = Z := by omega
          have e1 : (((t.length : Nat) : Int) % 64 == 56) = true := by rw [htl.out]; simp; omega
          have e2 : (((t.length : Nat) : Int) % 64 != 56) = false := by simp only [bne, e1, Bool.not_true]
          have htb : t.length ≤ 128 := by have := htl.out; omega
          have HTM := Aside0.mk (show (t.length + 8) % 64 = 0 by have := htl.out; omega)
          replace HTL := Aside0.mk (show tailL l = t ++ be8 (l.length * 8) by rw [HTL.out, HTE.out])
          clear HZ3 HTE htl hZ hZ2 hlt hj HT0
          go_wp2
          clear e2
          go_loopw [5, 6] (fun v i wz => ∃ (q : Nat) (t2 : List Int) (A5 : Option Addr) (c5 : Nat), q ≤ 8 ∧ Aside0 (t2.length = t.length + q) ∧ Aside0 (t2 = t ++ (be8 (l.length * 8)).take q) ∧ v = .slice A5 t2.length c5 ∧ i = .int .i64 (56 - 8 * (q : Int)) ∧ Aside0 (Kd.R B 5 wz wb.heap.size (fun _ => True) (.slice A5 t2.length c5) t2) ∧ Aside0 (Below wb.heap.size wb wz)) (fun v _ _ => 200 - slLen v)
          case atStart => exact ⟨0, t, A5, c5, Nat.zero_le _, ⟨rfl⟩, ⟨by simp⟩, rfl, rfl, HO, HB⟩
          case round =>
            clear HO HB e1
            obtain ⟨q, t2, A5, c5, hq, htl, HTE, rfl, rfl, HO, HB⟩ := hrel
            have hn63 : t2.length ≤ 199 := by have := htl.out; omega
            by_cases hlt : q < 8
            · obtain rfl | rfl | rfl | rfl | rfl | rfl | rfl | rfl : q = 0 ∨ q = 1 ∨ q = 2 ∨ q = 3 ∨ q = 4 ∨ q = 5 ∨ q = 6 ∨ q = 7 := by omega
              · rw [show (56 - 8 * ((0 : Nat) : Int)) = 56 from rfl]
                clear hlt hq
                go_wp2_with (first | ((with_reducible refine gate_builtin (b := .append) (xs := #[.tmp 35, .tmp 42]) rfl ?_); at_builtin; refine Kd.R_append_rows B (w0 := wb) wb.heap.size rfl (.tmp 35) (.tmp 42) 22 5 (.int .u8 0) 1 rfl Tryd.underlying22 info5 rfl (by decide) (by omega) _ (t2) ([_]) _ _ _ (fun _ => True) (fun _ => False) rfl rfl (by (with_reducible repeat (first | apply Kd.R_alloc | apply Kd.R_drewN | apply Kd.R_drew)); exact HO.out) (C_one wr _ _) (fun _ _ h => h) (fun _ h => h.elim) (fun _ _ => trivial) (HB.out.alloc HB.out.size _) (HB.out.alloc HB.out.size _).size ?aL ?_; (case aL => simp; omega); intro v2 w6 ho hb2 hg hat; have HO2 := Aside0.mk ho; have HB2 := Aside0.mk hb2; clear ho hb2 hg hat))
                have HT2 := Aside0.mk (be8_step HTE.out (show _ = some ((l.length : Int) * 8 / 72057594037927936 : Int) from congrArg some (show ((l.length * 8 / 72057594037927936 % 256 : Nat) : Int) = (l.length : Int) * 8 / 72057594037927936 by omega)))
                have htl2 := Aside0.mk (show (t2 ++ [((l.length : Int) * 8 / 72057594037927936 : Int)]).length = t.length + 1 by have := htl.out; simp; omega)
                have hts : (t2 ++ [((l.length : Int) * 8 / 72057594037927936 : Int)]).length = t2.length + 1 := by simp
                generalize t2 ++ [((l.length : Int) * 8 / 72057594037927936 : Int)] = t3 at *
                obtain ⟨A6, c6, rfl, hc6, hr6⟩ := Kd.R_reads HO2.out
                clear hr6
                go_roundw
                case rel => exact ⟨1, t3, A6, c6, by omega, htl2, HT2, rfl, rfl, HO2, HB2⟩
                case measure => simp [slLen]; omega
              · rw [show (56 - 8 * ((1 : Nat) : Int)) = 48 from rfl]
                clear hlt hq
                go_wp2_with (first | ((with_reducible refine gate_builtin (b := .append) (xs := #[.tmp 35, .tmp 42]) rfl ?_); at_builtin; refine Kd.R_append_rows B (w0 := wb) wb.heap.size rfl (.tmp 35) (.tmp 42) 22 5 (.int .u8 0) 1 rfl Tryd.underlying22 info5 rfl (by decide) (by omega) _ (t2) ([_]) _ _ _ (fun _ => True) (fun _ => False) rfl rfl (by (with_reducible repeat (first | apply Kd.R_alloc | apply Kd.R_drewN | apply Kd.R_drew)); exact HO.out) (C_one wr _ _) (fun _ _ h => h) (fun _ h => h.elim) (fun _ _ => trivial) (HB.out.alloc HB.out.size _) (HB.out.alloc HB.out.size _).size ?aL ?_; (case aL => simp; omega); intro v2 w6 ho hb2 hg hat; have HO2 := Aside0.mk ho; have HB2 := Aside0.mk hb2; clear ho hb2 hg hat))
                have HT2 := Aside0.mk (be8_step HTE.out (show _ = some ((l.length : Int) * 8 / 281474976710656 % 256 : Int) from congrArg some (show ((l.length * 8 / 281474976710656 % 256 : Nat) : Int) = (l.length : Int) * 8 / 281474976710656 % 256 by omega)))
                have htl2 := Aside0.mk (show (t2 ++ [((l.length : Int) * 8 / 281474976710656 % 256 : Int)]).length = t.length + 2 by have := htl.out; simp; omega)
                have hts : (t2 ++ [((l.length : Int) * 8 / 281474976710656 % 256 : Int)]).length = t2.length + 1 := by simp
                generalize t2 ++ [((l.length : Int) * 8 / 281474976710656 % 256 : Int)] = t3 at *
                obtain ⟨A6, c6, rfl, hc6, hr6⟩ := Kd.R_reads HO2.out
                clear hr6
                go_roundw
                case rel => exact ⟨2, t3, A6, c6, by omega, htl2, HT2, rfl, rfl, HO2, HB2⟩
                case measure => simp [slLen]; omega
              · rw [show (56 - 8 * ((2 : Nat) : Int)) = 40 from rfl]
                clear hlt hq
                go_wp2_with (first | ((with_reducible refine gate_builtin (b := .append) (xs := #[.tmp 35, .tmp 42]) rfl ?_); at_builtin; refine Kd.R_append_rows B (w0 := wb) wb.heap.size rfl (.tmp 35) (.tmp 42) 22 5 (.int .u8 0) 1 rfl Tryd.underlying22 info5 rfl (by decide) (by omega) _ (t2) ([_]) _ _ _ (fun _ => True) (fun _ => False) rfl rfl (by (with_reducible repeat (first | apply Kd.R_alloc | apply Kd.R_drewN | apply Kd.R_drew)); exact HO.out) (C_one wr _ _) (fun _ _ h => h) (fun _ h => h.elim) (fun _ _ => trivial) (HB.out.alloc HB.out.size _) (HB.out.alloc HB.out.size _).size ?aL ?_; (case aL => simp; omega); intro v2 w6 ho hb2 hg hat; have HO2 := Aside0.mk ho; have HB2 := Aside0.mk hb2; clear ho hb2 hg hat))
                have HT2 := Aside0.mk (be8_step HTE.out (show _ = some ((l.length : Int) * 8 / 1099511627776 % 256 : Int) from congrArg some (show ((l.length * 8 / 1099511627776 % 256 : Nat) : Int) = (l.length : Int) * 8 / 1099511627776 % 256 by omega)))
                have htl2 := Aside0.mk (show (t2 ++ [((l.length : Int) * 8 / 1099511627776 % 256 : Int)]).length = t.length + 3 by have := htl.out; simp; omega)
                have hts : (t2 ++ [((l.length : Int) * 8 / 1099511627776 % 256 : Int)]).length = t2.length + 1 := by simp
                generalize t2 ++ [((l.length : Int) * 8 / 1099511627776 % 256 : Int)] = t3 at *
                obtain ⟨A6, c6, rfl, hc6, hr6⟩ := Kd.R_reads HO2.out
                clear hr6
                go_roundw
                case rel => exact ⟨3, t3, A6, c6, by omega, htl2, HT2, rfl, rfl, HO2, HB2⟩
                case measure => simp [slLen]; omega
              · rw [show (56 - 8 * ((3 : Nat) : Int)) = 32 from rfl]
                clear hlt hq
                go_wp2_with (first | ((with_reducible refine gate_builtin (b := .append) (xs := #[.tmp 35, .tmp 42]) rfl ?_); at_builtin; refine Kd.R_append_rows B (w0 := wb) wb.heap.size rfl (.tmp 35) (.tmp 42) 22 5 (.int .u8 0) 1 rfl Tryd.underlying22 info5 rfl (by decide) (by omega) _ (t2) ([_]) _ _ _ (fun _ => True) (fun _ => False) rfl rfl (by (with_reducible repeat (first | apply Kd.R_alloc | apply Kd.R_drewN | apply Kd.R_drew)); exact HO.out) (C_one wr _ _) (fun _ _ h => h) (fun _ h => h.elim) (fun _ _ => trivial) (HB.out.alloc HB.out.size _) (HB.out.alloc HB.out.size _).size ?aL ?_; (case aL => simp; omega); intro v2 w6 ho hb2 hg hat; have HO2 := Aside0.mk ho; have HB2 := Aside0.mk hb2; clear ho hb2 hg hat))
                have HT2 := Aside0.mk (be8_step HTE.out (show _ = some ((l.length : Int) * 8 / 4294967296 % 256 : Int) from congrArg some (show ((l.length * 8 / 4294967296 % 256 : Nat) : Int) = (l.length : Int) * 8 / 4294967296 % 256 by omega)))
                have htl2 := Aside0.mk (show (t2 ++ [((l.length : Int) * 8 / 4294967296 % 256 : Int)]).length = t.length + 4 by have := htl.out; simp; omega)
                have hts : (t2 ++ [((l.length : Int) * 8 / 4294967296 % 256 : Int)]).length = t2.length + 1 := by simp
                generalize t2 ++ [((l.length : Int) * 8 / 4294967296 % 256 : Int)] = t3 at *
                obtain ⟨A6, c6, rfl, hc6, hr6⟩ := Kd.R_reads HO2.out
                clear hr6
                go_roundw
                case rel => exact ⟨4, t3, A6, c6, by omega, htl2, HT2, rfl, rfl, HO2, HB2⟩
                case measure => simp [slLen]; omega
              · rw [show (56 - 8 * ((4 : Nat) : Int)) = 24 from rfl]
                clear hlt hq
                go_wp2_with (first | ((with_reducible refine gate_builtin (b := .append) (xs := #[.tmp 35, .tmp 42]) rfl ?_); at_builtin; refine Kd.R_append_rows B (w0 := wb) wb.heap.size rfl (.tmp 35) (.tmp 42) 22 5 (.int .u8 0) 1 rfl Tryd.underlying22 info5 rfl (by decide) (by omega) _ (t2) ([_]) _ _ _ (fun _ => True) (fun _ => False) rfl rfl (by (with_reducible repeat (first | apply Kd.R_alloc | apply Kd.R_drewN | apply Kd.R_drew)); exact HO.out) (C_one wr _ _) (fun _ _ h => h) (fun _ h => h.elim) (fun _ _ => trivial) (HB.out.alloc HB.out.size _) (HB.out.alloc HB.out.size _).size ?aL ?_; (case aL => simp; omega); intro v2 w6 ho hb2 hg hat; have HO2 := Aside0.mk ho; have HB2 := Aside0.mk hb2; clear ho hb2 hg hat))
                have HT2 := Aside0.mk (be8_step HTE.out (show _ = some ((l.length : Int) * 8 / 16777216 % 256 : Int) from congrArg some (show ((l.length * 8 / 16777216 % 256 : Nat) : Int) = (l.length : Int) * 8 / 16777216 % 256 by omega)))
                have htl2 := Aside0.mk (show (t2 ++ [((l.length : Int) * 8 / 16777216 % 256 : Int)]).length = t.length + 5 by have := htl.out; simp; omega)
                have hts : (t2 ++ [((l.length : Int) * 8 / 16777216 % 256 : Int)]).length = t2.length + 1 := by simp
                generalize t2 ++ [((l.length : Int) * 8 / 16777216 % 256 : Int)] = t3 at *
                obtain ⟨A6, c6, rfl, hc6, hr6⟩ := Kd.R_reads HO2.out
                clear hr6
                go_roundw
                case rel => exact ⟨5, t3, A6, c6, by omega, htl2, HT2, rfl, rfl, HO2, HB2⟩
                case measure => simp [slLen]; omega
              · rw [show (56 - 8 * ((5 : Nat) : Int)) = 16 from rfl]
                clear hlt hq
                go_wp2_with (first | ((with_reducible refine gate_builtin (b := .append) (xs := #[.tmp 35, .tmp 42]) rfl ?_); at_builtin; refine Kd.R_append_rows B (w0 := wb) wb.heap.size rfl (.tmp 35) (.tmp 42) 22 5 (.int .u8 0) 1 rfl Tryd.underlying22 info5 rfl (by decide) (by omega) _ (t2) ([_]) _ _ _ (fun _ => True) (fun _ => False) rfl rfl (by (with_reducible repeat (first | apply Kd.R_alloc | apply Kd.R_drewN | apply Kd.R_drew)); exact HO.out) (C_one wr _ _) (fun _ _ h => h) (fun _ h => h.elim) (fun _ _ => trivial) (HB.out.alloc HB.out.size _) (HB.out.alloc HB.out.size _).size ?aL ?_; (case aL => simp; omega); intro v2 w6 ho hb2 hg hat; have HO2 := Aside0.mk ho; have HB2 := Aside0.mk hb2; clear ho hb2 hg hat))
                have HT2 := Aside0.mk (be8_step HTE.out (show _ = some ((l.length : Int) * 8 / 65536 % 256 : Int) from congrArg some (show ((l.length * 8 / 65536 % 256 : Nat) : Int) = (l.length : Int) * 8 / 65536 % 256 by omega)))
                have htl2 := Aside0.mk (show (t2 ++ [((l.length : Int) * 8 / 65536 % 256 : Int)]).length = t.length + 6 by have := htl.out; simp; omega)
                have hts : (t2 ++ [((l.length : Int) * 8 / 65536 % 256 : Int)]).length = t2.length + 1 := by simp
                generalize t2 ++ [((l.length : Int) * 8 / 65536 % 256 : Int)] = t3 at *
                obtain ⟨A6, c6, rfl, hc6, hr6⟩ := Kd.R_reads HO2.out
                clear hr6
                go_roundw
                case rel => exact ⟨6, t3, A6, c6, by omega, htl2, HT2, rfl, rfl, HO2, HB2⟩
                case measure => simp [slLen]; omega
              · rw [show (56 - 8 * ((6 : Nat) : Int)) = 8 from rfl]
                clear hlt hq
                go_wp2_with (first | ((with_reducible refine gate_builtin (b := .append) (xs := #[.tmp 35, .tmp 42]) rfl ?_); at_builtin; refine Kd.R_append_rows B (w0 := wb) wb.heap.size rfl (.tmp 35) (.tmp 42) 22 5 (.int .u8 0) 1 rfl Tryd.underlying22 info5 rfl (by decide) (by omega) _ (t2) ([_]) _ _ _ (fun _ => True) (fun _ => False) rfl rfl (by (with_reducible repeat (first | apply Kd.R_alloc | apply Kd.R_drewN | apply Kd.R_drew)); exact HO.out) (C_one wr _ _) (fun _ _ h => h) (fun _ h => h.elim) (fun _ _ => trivial) (HB.out.alloc HB.out.size _) (HB.out.alloc HB.out.size _).size ?aL ?_; (case aL => simp; omega); intro v2 w6 ho hb2 hg hat; have HO2 := Aside0.mk ho; have HB2 := Aside0.mk hb2; clear ho hb2 hg hat))
                have HT2 := Aside0.mk (be8_step HTE.out (show _ = some ((l.length : Int) * 8 / 256 % 256 : Int) from congrArg some (show ((l.length * 8 / 256 % 256 : Nat) : Int) = (l.length : Int) * 8 / 256 % 256 by omega)))
                have htl2 := Aside0.mk (show (t2 ++ [((l.length : Int) * 8 / 256 % 256 : Int)]).length = t.length + 7 by have := htl.out; simp; omega)
                have hts : (t2 ++ [((l.length : Int) * 8 / 256 % 256 : Int)]).length = t2.length + 1 := by simp
                generalize t2 ++ [((l.length : Int) * 8 / 256 % 256 : Int)] = t3 at *
                obtain ⟨A6, c6, rfl, hc6, hr6⟩ := Kd.R_reads HO2.out
                clear hr6
                go_roundw
                case rel => exact ⟨7, t3, A6, c6, by omega, htl2, HT2, rfl, rfl, HO2, HB2⟩
                case measure => simp [slLen]; omega
              · rw [show (56 - 8 * ((7 : Nat) : Int)) = 0 from rfl]
                clear hlt hq
                go_wp2_with (first | ((with_reducible refine gate_builtin (b := .append) (xs := #[.tmp 35, .tmp 42]) rfl ?_); at_builtin; refine Kd.R_append_rows B (w0 := wb) wb.heap.size rfl (.tmp 35) (.tmp 42) 22 5 (.int .u8 0) 1 rfl Tryd.underlying22 info5 rfl (by decide) (by omega) _ (t2) ([_]) _ _ _ (fun _ => True) (fun _ => False) rfl rfl (by (with_reducible repeat (first | apply Kd.R_alloc | apply Kd.R_drewN | apply Kd.R_drew)); exact HO.out) (C_one wr _ _) (fun _ _ h => h) (fun _ h => h.elim) (fun _ _ => trivial) (HB.out.alloc HB.out.size _) (HB.out.alloc HB.out.size _).size ?aL ?_; (case aL => simp; omega); intro v2 w6 ho hb2 hg hat; have HO2 := Aside0.mk ho; have HB2 := Aside0.mk hb2; clear ho hb2 hg hat))
                have HT2 := Aside0.mk (be8_step HTE.out (show _ = some ((l.length : Int) * 8 % 256 : Int) from congrArg some (show ((l.length * 8 % 256 : Nat) : Int) = (l.length : Int) * 8 % 256 by omega)))
                have htl2 := Aside0.mk (show (t2 ++ [((l.length : Int) * 8 % 256 : Int)]).length = t.length + 8 by have := htl.out; simp; omega)
                have hts : (t2 ++ [((l.length : Int) * 8 % 256 : Int)]).length = t2.length + 1 := by simp
                generalize t2 ++ [((l.length : Int) * 8 % 256 : Int)] = t3 at *
                obtain ⟨A6, c6, rfl, hc6, hr6⟩ := Kd.R_reads HO2.out
                clear hr6
                go_roundw
                case rel => exact ⟨8, t3, A6, c6, by omega, htl2, HT2, rfl, rfl, HO2, HB2⟩
                case measure => simp [slLen]; omega
            · obtain rfl : q = 8 := by omega
              rw [show (56 - 8 * ((8 : Nat) : Int)) = -8 from rfl]
              have HT := Aside0.mk (show t2 = tailL l by rw [HTE.out, HTL.out]; rfl)
              have htm : t2.length % 64 = 0 := by rw [htl.out]; exact HTM.out
              have HRW := Aside0.mk (Rw.of HO.out)
              have hc9 : t2.length ≤ c5 := by obtain ⟨_, _, e, hh, _⟩ := Kd.R_reads HO.out; injection e with _ _ e3; omega
              have htl9 : t2.length ≤ 300 := by omega
              have HSA := Aside0.mk (HS1.out.below HB.out)
              have hlo := Aside0.mk (show w.heap.size + 1 < wb.heap.size from (Array.getElem?_eq_some_iff.1 HS1.out.s).1)
              have HYT := Aside0.mk (show bytes t2 by rw [HT.out]; exact tailL_bytes HY.out)
              have hhi : wr.heap.size = wr.heap.size := rfl
              generalize h9 : wr.heap.size = hi at HRW
              clear h9 hhi HTE htl HTM HTL hlt hq hn63 htb HB HO HS1
              obtain ⟨T, rfl⟩ : ∃ T, T = t2 := ⟨_, rfl⟩
              go_wp2
              go_loopw [5] (fun v wr => ∃ (k : Nat) (A' : Option Addr) (c' : Nat) (r : List Int), 64 * k ≤ T.length ∧ Aside0 (r = T.drop (64 * k)) ∧ v = .slice A' r.length c' ∧ r.length ≤ c' ∧ Aside0 (∀ W : World, B.C W A5 T.length T → B.C W A' r.length r) ∧ Aside0 (Sm w wr (List.replicate 32 0) (blocksI s T k)) ∧ Aside0 (Rw wr A5 T wb.heap.size hi)) (fun v _ => slLen v)
              case atStart => exact ⟨0, A5, c5, T, Nat.zero_le _, ⟨by simp⟩, rfl, hc9, ⟨fun _ h => h⟩, HSA, HRW⟩
              case round =>
                clear HSA HRW
                obtain ⟨k, A', c', r, hk, HRE, rfl, hc', HRC, HS, HRW⟩ := hrel
                have hrl : r.length = T.length - 64 * k := by rw [HRE.out, List.length_drop]
                have HBK := Aside0.mk (show blocksI s T (k + 1) = blockI (blocksI s T k) r by rw [HRE.out]; rfl)
                generalize hsk : blocksI s T k = s' at HS HBK
                have HSK := Aside0.mk hsk
                clear hsk
                by_cases h64 : 0 < r.length
                · have h64 : 64 ≤ r.length := by omega
                  have hk2 : 64 * (k + 1) ≤ T.length := by omega
                  obtain ⟨A2, c2, hcut, hcc, hc2⟩ := cutB A' c' r 64 h64 hc'
                  replace hcut : ∀ W : World, (Instr.slice 22 (.slice A' r.length c') (some (.int .i64 64)) none none).run Tryd.prog W = .ok (.slice A2 (r.drop 64).length c2) W := hcut
                  have HRE2 := Aside0.mk (show r.drop 64 = T.drop (64 * (k + 1)) by rw [HRE.out, List.drop_drop, Nat.mul_add])
                  have HRC2 := Aside0.mk (show ∀ W : World, B.C W A5 T.length T → B.C W A2 (r.drop 64).length (r.drop 64) from fun W h => hcc W (HRC.out W h))
                  have hrl2 : (r.drop 64).length < r.length := by rw [List.length_drop]; omega
                  have hr300 : r.length ≤ 300 := by omega
                  generalize r.drop 64 = r2 at *
                  clear hrl hk
                  go_wp2_with (first | (refine wpList_load_row rfl 67 (.tmp 3) rfl (w.heap.size + 1) rfl 67 (c8 s') (0, 0) _ HS.out.s Tryd.underlying67 rfl infoS ?_))
                  refine (block_calls s' A' c' r _ (HRC.out _ HRW.out.C) hc' (by rw [HRE.out]; exact bytes_drop HYT.out _) h64 (HTAB.out.below HS.out.b)).mono ?_
                  rintro e w2 ⟨rfl, hb⟩
                  rw [← HBK.out]
                  replace HS := Aside0.mk (HS.out.below hb)
                  replace HRW := Aside0.mk (HRW.out.below hb)
                  clear hb
                  go_wp2_with (first | (refine wpList_store_row rfl 67 (.tmp 3) (.tmp 51) rfl (w.heap.size + 1) (c8 (blocksI s T (k + 1))) rfl rfl 67 _ HS.out.s infoS rfl (c8_one _) ?_))
                  go_roundw
                  case rel => exact ⟨k + 1, A2, c2, r2, hk2, HRE2, rfl, hc2, HRC2, ⟨HS.out.row _⟩, ⟨HRW.out.row _ _ hlo.out⟩⟩
                  case measure => exact hrl2
                · have hr0 : r.length = 0 := by omega
                  have hkq : k = T.length / 64 := by omega
                  subst hkq
                  have HSH := Aside0.mk (show shaI l = outs s' 32 by unfold shaI; rw [HS0.out, ← HT.out, HSK.out])
                  have hrz : (r.length : Int) = 0 := by omega
                  have HSS := Aside0.mk HS.out
                  clear HS HRW HRC HRE HBK hrl hk h64 HS0 HYT HT hlo hc9 htl9 hc' hp2 HRR HSK
                  go_wp2
                  go_loopw [52] (fun i wr => ∃ k : Nat, k ≤ 32 ∧ i = .int .i64 (k : Int) ∧ Aside0 (Sm w wr (outs s' k) s')) (fun i _ => 32 - (intOf i).toNat)
                  case atStart => exact ⟨0, Nat.zero_le _, rfl, HSS⟩
                  case round =>
                    clear HSS
                    obtain ⟨k, hk, rfl, HS⟩ := hrel
                    by_cases hlt : k < 32
                    · have hk32 : (k : Int) < 32 := by omega
                      have HN := Aside0.mk (show outs s' (k + 1) = (outs s' k).set k (byteI s' k) from rfl)
                      have HV := Aside0.mk (show byteI s' k = IntKind.u8.wrap (wd s' (k / 4) / 2 ^ (24 - 8 * (k % 4))) from rfl)
                      generalize byteI s' k = bv at HN HV
                      obtain ⟨q, hq0⟩ : ∃ q, q = k / 4 := ⟨_, rfl⟩
                      obtain ⟨m, hm0⟩ : ∃ m, m = k % 4 := ⟨_, rfl⟩
                      obtain ⟨a, ha0⟩ : ∃ a, a = 24 - 8 * m := ⟨_, rfl⟩
                      rw [← hq0, ← hm0, ← ha0] at HV
                      have hq : (k : Int) / 4 = (q : Int) := by omega
                      have hm : (k : Int) % 4 = (m : Int) := by omega
                      have hm3 : m ≤ 3 := by omega
                      have hq8 : (q : Int) < 8 := by omega
                      have ha : 24 - 8 * (m : Int) = (a : Int) := by omega
                      have hx := (cell_of HS.out.s).2 (c8_wd s' q (by omega))
                      have hd := (cell_of HS.out.d).2 (cb_get (xs := outs s' k) (j := k) (by rw [outs_len]; omega))
                      have hf : wr.frozen? ⟨w.heap.size, k, none⟩ = false := by simp [World.frozen?, HS.out.d]
                      have ha24 : (a : Int) ≤ 32 := by omega
                      have ha1 : a ≤ 32 := by omega
                      generalize wd s' q = v at HV hx
                      generalize rd (outs s' k) (k : Int) = dv at hd
                      clear hq0 hm0 ha0
                      go_wp2
                      go_roundw
                      case rel => exact ⟨k + 1, by omega, by go_num, ⟨by rw [HN.out, HV.out]; exact HS.out.set k _⟩⟩
                      case measure => simp [intOf]; omega
                    · obtain rfl : k = 32 := by omega
                      clear hlt hk
                      rw [← HSH.out] at HS
                      have hi : (Tryd.prog.info? 31).map (·.size) = some (cb (shaI l)).size := by rw [cb_size, shaI_len]; exact infoD
                      generalize hD : shaI l = D at HS hi
                      have HDD := Aside0.mk hD
                      clear hD
                      have HI := Aside0.mk hi
                      clear hi
                      rw [show ((32 : Nat) : Int) = 32 from rfl]
                      go_wp2_with (first | (refine wpList_load_row rfl 31 (.tmp 2) rfl w.heap.size rfl 31 (cb D) (0, 0) _ HS.out.d Tryd.underlying31 rfl HI.out ?_) | (refine wpList_store_row rfl 31 (.tmp 2) (.tmp 68) rfl w.heap.size (cb D) rfl rfl 31 _ HS.out.d HI.out rfl (cb_one _) ?_))
                      have HF := Aside0.mk (setRow_heap _ _ _ (cb D) _ _ HS.out.d)
                      have HB := Aside0.mk (below_setRow HS.out.b (Nat.le_refl _) (cb D))
                      (try simp only [Exit.inBlock, Exit.then])
                      refine bodyPost_ret (results_cell_row rfl _ _ w.heap.size 31 (cb D) (0, 0) _ rfl HF.out Tryd.underlying31 rfl HI.out) rfl ?_
                      exact ⟨by rw [HDD.out], HB.out⟩
end Go.Proofs.YtoiblfmlahedlaaDoor.Sha
end
section
namespace Go.Proofs.YtoiblfmlahedlaaDoor.Sha
open Go.RowKit Go.Proofs.YtoiblfmlahedlaaDoorW.PrintWords Go.Proofs.YtoiblfmlahedlaaDoorW.PrintLast Go.Proofs.YtoiblfmlahedlaaDoorW.PrintMore
set_option linter.unusedVariables false
set_option linter.unusedSimpArgs false
set_option maxRecDepth 100000
theorem info23 : (Tryd.prog.info? 22).map (fun i => (i.zero, i.size, i.bytes)) = some (some (.slice none 0 0), 1, 24) := by kernel_rfl
def rowD (xs : List (List Int)) (k : Nat) : List Int := xs.getD k []
def flen (xs : List (List Int)) (k : Nat) : Nat := (xs.take k).flatten.length
theorem row_at {w : World} {A : Option Addr} {n : Nat} {xs : List (List Int)} (h : Kd.C (Kd.slice 5 B) w A n xs) (k : Nat) (hk : k < n) : ∃ ad A0 c0, A = some ad ∧ w.cell? (ad.add k) = some (.slice A0 (rowD xs k).length c0) ∧ (rowD xs k).length ≤ c0 ∧ B.C w A0 (rowD xs k).length (rowD xs k) := by
  obtain ⟨ad, c, e, _, hK, hc0⟩ := Kd.C_get h ([] : List Int) (k : Int) (by omega) (by omega)
  have hc : ∀ j u, c[j]? = some u → w.cell? (ad.add (k * 1 + j)) = some u := hc0
  obtain ⟨A0, c0, rfl, l0, g0⟩ := hK
  simp only [Int.toNat_natCast] at l0 g0 hc
  exact ⟨ad, A0, c0, e, by have hq := hc 0 _ rfl; rwa [Nat.mul_one, Nat.add_zero] at hq, l0, g0⟩
theorem flen_succ (xs : List (List Int)) (k : Nat) (hk : k < xs.length) : flen xs (k + 1) = flen xs k + (rowD xs k).length := by
  unfold flen rowD
  rw [List.take_succ_eq_append_getElem hk, List.flatten_append, List.getD_eq_getElem?_getD, List.getElem?_eq_getElem hk]
  simp
theorem flen_all (xs : List (List Int)) : flen xs xs.length = xs.flatten.length := by unfold flen; rw [List.take_length]
theorem flen_le (xs : List (List Int)) (k : Nat) : flen xs k ≤ flen xs xs.length := by
  rw [flen_all]
  unfold flen
  conv => rhs; rw [← List.take_append_drop k xs, List.flatten_append, List.length_append]
  omega
theorem flat_take (xs : List (List Int)) (k : Nat) (hk : k < xs.length) : (xs.take (k + 1)).flatten = (xs.take k).flatten ++ rowD xs k := by
  unfold rowD
  rw [List.take_succ_eq_append_getElem hk, List.flatten_append, List.getD_eq_getElem?_getD, List.getElem?_eq_getElem hk]
  simp
theorem infoDg (D : List Int) (h : D.length = 32) : (Tryd.prog.info? 31).map (·.size) = some (cb D).size := by rw [cb_size, h]; exact infoD
theorem dg_start (w : World) : ∃ w1, w.alloc (.cells #[.int .u8 0, .int .u8 0, .int .u8 0, .int .u8 0, .int .u8 0, .int .u8 0, .int .u8 0, .int .u8 0, .int .u8 0, .int .u8 0, .int .u8 0, .int .u8 0, .int .u8 0, .int .u8 0, .int .u8 0, .int .u8 0, .int .u8 0, .int .u8 0, .int .u8 0, .int .u8 0, .int .u8 0, .int .u8 0, .int .u8 0, .int .u8 0, .int .u8 0, .int .u8 0, .int .u8 0, .int .u8 0, .int .u8 0, .int .u8 0, .int .u8 0, .int .u8 0] 31) = w1 ∧ Aside0 (Below w.heap.size w w1) ∧ Aside0 (w1.heap[w.heap.size]? = some (.cells (cb (List.replicate 32 0)) 31 (0, 0))) ∧ Aside0 (w1.heap.size = w.heap.size + 1) :=
  ⟨_, rfl, ⟨(Below.refl w.heap.size w).alloc (Nat.le_refl _) _⟩, ⟨heap_new _ _⟩, ⟨by simp⟩⟩
section
variable {P : Program}
theorem dg_ret {fn : Func} {R : Ending → World → Prop} {a : Act} {w : World} {p : Tmp} {g : Nat} {D : List Int} (h : fn.results = #[.cell p 31]) (hp : a.tmps.getD p undef = .pointer (some ⟨g, 0, none⟩)) (hD : D.length = 32)
    (hg : w.heap[g]? = some (.cells (cb D) 31 (0, 0))) (hd : a.defers = []) (hR : R (.returned (vd D)) w) : bodyPost Tryd.prog fn R .ret a w :=
  bodyPost_ret (results_cell_row h _ _ g 31 (cb D) (0, 0) _ hp hg Tryd.underlying31 rfl (infoDg D hD)) hd hR
end
set_option maxHeartbeats 1600000 in
set_option maxRecDepth 100000 in
theorem parts_calls (x : Int) (A0 : Option Addr) (c0 : Nat) (l0 : List (List Int)) (w : World) (hr0 : Kd.C (Kd.slice 5 B) w A0 l0.length l0) (hc0 : l0.length ≤ c0) (hx : 0 ≤ x ∧ x < 256) (hb : bytes l0.flatten) (hL : flen l0 l0.length < 100000000) (hT : Tab w) :
    Calls Tryd.prog 92 #[.int .u8 x, .slice A0 l0.length c0] w fun e w' => e = .returned (vd (shaI (x :: l0.flatten))) ∧ Below w.heap.size w w' := by
  have HR := Aside0.mk hr0
  have HY := Aside0.mk (show bytes (x :: l0.flatten) from fun y hy => by
    rcases List.mem_cons.1 hy with rfl | h
    · exact hx
    · exact hb y h)
  have HTAB := Aside0.mk hT
  have hlen : l0.length ≤ 9223372036854775807 := hr0.2.1
  clear hr0 hb hT hx
  have HSL := Aside0.mk (shaI_len (x :: l0.flatten))
  have HFL := Aside0.mk (show (x :: l0.flatten).length = flen l0 l0.length + 1 by rw [flen_all, List.length_cons])
  generalize hD : shaI (x :: l0.flatten) = D at HSL
  have HDD := Aside0.mk hD
  clear hD
  go_enter Tryd.func92, Tryd.ntmps92
  go_upto_region 1 with (fail)
  obtain ⟨w1, hw1, HB1, HD, HZ1⟩ := dg_start w
  rw [hw1]
  clear hw1
  go_wp2_with (first | ((with_reducible refine gate_dst (N := 9) rfl ?_); refine Kd.R_lit B (w0 := w1) w1.heap.size 5 ?hg (N := 9) ?hd (xs := [x]) (inner := [.int .u8 x]) (ok := fun _ => True) (okp := fun _ => True) ?hr ?hp (fun _ hk => hk) trivial (Below.refl _ _) (Nat.le_refl _) (by simp) ?_; (case hd => rfl); (case hg => rfl); (case hr => first | (go_simp; done) | (go_simp; rfl)); (case hp => exact Reps.one rfl (Reps.none _ _)); intro v1 w2 ho hb1 hg hnew; have HO := Aside0.mk ho; have HB2 := Aside0.mk hb1; clear ho hb1 hg hnew))
  go_loopw [5, 12] (fun v i wr => ∃ k : Nat, k ≤ l0.length ∧ i = .int .i64 (k : Int) ∧ Aside0 (Kd.R B 5 wr w1.heap.size (fun _ => True) v (x :: (l0.take k).flatten)) ∧ Aside0 (Below w1.heap.size w1 wr)) (fun _ i _ => l0.length - (intOf i).toNat)
  case atStart => exact ⟨0, Nat.zero_le _, rfl, HO, HB2⟩
  case round =>
    clear HO HB2
    obtain ⟨k, hk, rfl, HO, HB⟩ := hrel
    by_cases hlt : k < l0.length
    · obtain ⟨ad, A1, c1, rfl, hx0, hc1, hr1⟩ := row_at (Kd.C_below HR.out (below_step HB1.out HB.out)) k hlt
      have hq : flen l0 k + (rowD l0 k).length ≤ flen l0 l0.length := by rw [← flen_succ l0 k hlt]; exact flen_le l0 (k + 1)
      have HF := Aside0.mk (show x :: (l0.take k).flatten ++ rowD l0 k = x :: (l0.take (k + 1)).flatten by rw [flat_take l0 k hlt]; rfl)
      have HR1 := Aside0.mk hr1
      have hm : (x :: (l0.take k).flatten).length = flen l0 k + 1 := by simp [flen]
      have hm1 : flen l0 k + (rowD l0 k).length < 100000000 := by omega
      have HM := Aside0.mk hm
      have hn63 : (rowD l0 k).length ≤ 9223372036854775807 := by omega
      clear hr1 hq hm
      generalize x :: (l0.take k).flatten = t at HO HF HM
      go_wp2_with (first | ((with_reducible refine gate_builtin (b := .append) (xs := #[.tmp 16, .tmp 17]) rfl ?_); at_builtin; refine Kd.R_append_rows B (w0 := w1) w1.heap.size rfl (.tmp 16) (.tmp 17) 22 5 (.int .u8 0) 1 rfl Tryd.underlying22 info5 rfl (by decide) (by omega) _ (t) (rowD l0 k) _ _ _ (fun _ => True) (fun _ => False) rfl rfl HO.out (HR1.out) (fun _ _ h => h) (fun _ h => h.elim) (fun _ _ => trivial) HB.out HB.out.size ?aL ?_; (case aL => rw [HM.out]; omega); intro v2 w6 ho hb2 hg hat; rw [HF.out] at ho; have HO2 := Aside0.mk ho; have HB2 := Aside0.mk hb2; clear ho hb2 hg hat))
      go_roundw
      case rel => exact ⟨k + 1, by omega, by go_num, HO2, HB2⟩
      case measure => simp [intOf]; omega
    · obtain rfl : k = l0.length := by omega
      rw [List.take_length] at HO
      obtain ⟨A5, c5, rfl, hc5, hr5⟩ := Kd.R_reads HO.out
      have HR5 := Aside0.mk hr5
      have hfl := HFL.out
      have hl9 : (x :: l0.flatten).length < 1152921504606846976 := by omega
      clear hr5 hlt hk HO hfl
      generalize x :: l0.flatten = t at *
      go_wp2_with fail
      refine (sum_calls A5 c5 t _ HR5.out hc5 HY.out (HTAB.out.below (below_step HB1.out HB.out)) hl9).mono ?_
      rintro e w5 ⟨rfl, hb⟩
      have HD2 := Aside0.mk (heap_keep (heap_keep HD.out HB.out) hb)
      have HB3 := Aside0.mk (below_step (below_step HB1.out HB.out) hb)
      clear hb
      rw [HDD.out]
      go_wp2_with (first | (refine wpList_store_row rfl 31 (.tmp 4) (.tmp 21) rfl w.heap.size (cb D) rfl rfl 31 _ HD2.out (infoDg _ HSL.out) (by rw [cb_size, cb_size, HSL.out]; simp) (cb_one _) ?_))
      (try simp only [Exit.inBlock, Exit.then])
      exact dg_ret rfl rfl HSL.out (setRow_heap _ _ _ _ _ _ HD2.out) rfl ⟨rfl, below_setRow HB3.out (Nat.le_refl _) _⟩
end Go.Proofs.YtoiblfmlahedlaaDoor.Sha
end
section
namespace Go.Proofs.YtoiblfmlahedlaaDoor.Sha
open Go.RowKit Go.Proofs.YtoiblfmlahedlaaDoorW.PrintWords Go.Proofs.YtoiblfmlahedlaaDoorW.PrintLast Go.Proofs.YtoiblfmlahedlaaDoorW.PrintMore
set_option linter.unusedVariables false
set_option linter.unusedSimpArgs false
set_option maxRecDepth 100000
def eights (n : Nat) : Nat → List Int
  | 0 => List.replicate 8 0
  | k + 1 => (eights n k).set k ((n : Int) / 2 ^ (56 - 8 * k) % 256)
theorem eights_len (n k : Nat) : (eights n k).length = 8 := by
  induction k with
  | zero => simp [eights]
  | succ k ih => simp [eights, ih]
theorem div_cast (n a : Nat) : (n : Int) / 2 ^ a % 256 = ((n / 2 ^ a % 256 : Nat) : Int) := by rw [Int.natCast_emod, Int.natCast_ediv, Int.natCast_pow]; rfl
theorem eights_all (n : Nat) : eights n 8 = be8 n := by
  simp only [eights, div_cast, be8, List.replicate, List.set_cons_zero, List.set_cons_succ]
  simp
structure E8 (w0 w : World) (d : List Int) : Prop where
  d : w.heap[w0.heap.size]? = some (.cells (cb d) 150 (0, 0))
  b : Below w0.heap.size w0 w
theorem E8.set {w0 w : World} {d : List Int} (h : E8 w0 w d) (j : Nat) (x : Int) : E8 w0 (w.setCell ⟨w0.heap.size, j, none⟩ (.int .u8 x)) (d.set j x) :=
  ⟨by rw [← cb_set]; exact blk_set h.d j _, h.b.setCell (p := ⟨w0.heap.size, j, none⟩) (Nat.le_refl _) _⟩
theorem C_cb {w : World} {g : Nat} {D : List Int} {t : TypeId} (h : w.heap[g]? = some (.cells (cb D) t (0, 0))) (hl : D.length ≤ 9223372036854775807) : B.C w (some ⟨g, 0, none⟩) D.length D :=
  C_block .u8 h D (fun j x hj => by
    have hlt := (List.getElem?_eq_some_iff.1 hj).1
    rw [Nat.zero_add, cb_get hlt]
    unfold rd
    rw [Int.toNat_natCast, List.getD_eq_getElem?_getD, hj]
    rfl) hl
set_option maxHeartbeats 1600000 in
set_option maxRecDepth 100000 in
theorem eight_calls (n : Nat) (w : World) (hn : n < 9223372036854775808) :
    Calls Tryd.prog 93 #[.int .i64 n] w fun e w' => e = .returned (.slice (some ⟨w.heap.size, 0, none⟩) 8 8) ∧ B.C w' (some ⟨w.heap.size, 0, none⟩) 8 (be8 n) ∧ Below w.heap.size w w' := by
  go_enter Tryd.func93, Tryd.ntmps93
  go_wp2
  go_loopw [5] (fun i wr => ∃ k : Nat, k ≤ 8 ∧ i = .int .i64 (k : Int) ∧ Aside0 (E8 w wr (eights n k))) (fun i _ => 8 - (intOf i).toNat)
  case atStart => exact ⟨0, Nat.zero_le _, rfl, ⟨heap_new _ _, (Below.refl w.heap.size w).alloc (Nat.le_refl _) _⟩⟩
  case round =>
    obtain ⟨k, hk, rfl, HS⟩ := hrel
    by_cases hlt : k < 8
    · have hk8 : (k : Int) < 8 := by omega
      have HN := Aside0.mk (show eights n (k + 1) = (eights n k).set k ((n : Int) / 2 ^ (56 - 8 * k) % 256) from rfl)
      obtain ⟨a, ha0⟩ : ∃ a, a = 56 - 8 * k := ⟨_, rfl⟩
      rw [← ha0] at HN
      have ha : 56 - 8 * (k : Int) = (a : Int) := by omega
      have ha1 : a ≤ 64 := by omega
      have hd := (cell_of HS.out.d).2 (cb_get (xs := eights n k) (j := k) (by rw [eights_len]; omega))
      have hf : wr.frozen? ⟨w.heap.size, k, none⟩ = false := by simp [World.frozen?, HS.out.d]
      generalize rd (eights n k) (k : Int) = dv at hd
      clear ha0
      go_wp2
      go_roundw
      case rel => exact ⟨k + 1, by omega, by go_num, ⟨by rw [HN.out]; exact HS.out.set k _⟩⟩
      case measure => simp [intOf]; omega
    · obtain rfl : k = 8 := by omega
      rw [eights_all] at HS
      clear hlt hk
      rw [show ((8 : Nat) : Int) = 8 from rfl]
      go_wp2
      go_ret
      exact ⟨rfl, C_cb HS.out.d (by simp [be8]), HS.out.b⟩
def leafI (i : Nat) (c : List Int) : List Int := shaI (0 :: (be8 i ++ c))
def pairI (a b : List Int) : List Int := shaI (1 :: (a ++ b))
def rootI (n : Nat) (d : List Int) : List Int := shaI (2 :: (be8 n ++ d))
theorem two_rows {w : World} {g : Nat} {A B' : Option Addr} {ca cb' : Nat} {a b : List Int} {t : TypeId} (h : w.heap[g]? = some (.cells #[.slice A a.length ca, .slice B' b.length cb'] t (0, 0))) (ha : B.C w A a.length a) (hca : a.length ≤ ca) (hb : B.C w B' b.length b) (hcb : b.length ≤ cb') :
    Kd.C (Kd.slice 5 B) w (some ⟨g, 0, none⟩) 2 [a, b] := by
  refine C_rows_block _ h [a, b] (fun j x hj => ?_) (by simp)
  rcases j with _ | _ | j
  · obtain rfl : a = x := by simpa using hj
    exact ⟨A, ca, rfl, hca, ha⟩
  · obtain rfl : b = x := by simpa using hj
    exact ⟨B', cb', rfl, hcb, hb⟩
  · simp at hj
theorem flen2 (a b : List Int) : flen [a, b] [a, b].length = a.length + b.length := by simp [flen]
theorem flat2 (a b : List Int) : [a, b].flatten = a ++ b := by simp
set_option maxHeartbeats 1600000 in
set_option maxRecDepth 100000 in
theorem leaf_calls (i : Nat) (A : Option Addr) (c : Nat) (l : List Int) (w : World) (hr : B.C w A l.length l) (hc : l.length ≤ c) (hb : bytes l) (hi : i < 9223372036854775808) (hl : l.length < 10000000) (hT : Tab w) :
    Calls Tryd.prog 65 #[.int .i64 i, .slice A l.length c] w fun e w' => e = .returned (vd (leafI i l)) ∧ Below w.heap.size w w' := by
  have HR := Aside0.mk hr
  have HY := Aside0.mk (bytes_app (be8_bytes i) hb)
  have HTAB := Aside0.mk hT
  clear hr hb hT
  have HSL := Aside0.mk (shaI_len (0 :: (be8 i ++ l)))
  generalize hD : leafI i l = D
  have HDD := Aside0.mk hD
  clear hD
  go_enter Tryd.func65, Tryd.ntmps65
  go_upto_region 1 with (fail)
  obtain ⟨w1, hw1, HB1, HD, HZ1⟩ := dg_start w
  rw [hw1]
  clear hw1
  go_wp2_with fail
  refine (eight_calls i _ hi).mono ?_
  rintro e w2 ⟨rfl, h8, hb⟩
  replace HD := Aside0.mk (heap_keep HD.out hb)
  have HB2 := Aside0.mk (below_step HB1.out hb)
  have H8 := Aside0.mk h8
  clear hb h8
  generalize (some ⟨w1.heap.size, 0, none⟩ : Option Addr) = A8 at H8 ⊢
  go_wp2_with fail
  refine (parts_calls 0 _ 2 [be8 i, l] _ (two_rows (heap_new _ _) (Kd.C_alloc H8.out _) (Nat.le_refl 8) (Kd.C_alloc (Kd.C_below HR.out HB2.out) _) hc) (Nat.le_refl 2) (by omega) (by rw [flat2]; exact HY.out) (by rw [flen2]; simp [be8]; omega) (HTAB.out.below (HB2.out.alloc HB2.out.size _))).mono ?_
  rintro e w3 ⟨rfl, hb⟩
  rw [flat2, show shaI (0 :: (be8 i ++ l)) = D from HDD.out]
  rw [show shaI (0 :: (be8 i ++ l)) = D from HDD.out] at HSL
  have HD2 := Aside0.mk (heap_keep (heap_keep HD.out ((Below.refl _ _).alloc (Nat.le_refl _) _)) hb)
  have HB3 := Aside0.mk (below_step (HB2.out.alloc HB2.out.size _) hb)
  clear hb
  go_wp2_with (first | (refine wpList_store_row rfl 31 (.tmp 4) (.tmp 9) rfl w.heap.size (cb D) rfl rfl 31 _ HD2.out (infoDg _ HSL.out) (by rw [cb_size, cb_size, HSL.out]; simp) (cb_one _) ?_))
  (try simp only [Exit.inBlock, Exit.then])
  exact dg_ret rfl rfl HSL.out (setRow_heap _ _ _ _ _ _ HD2.out) rfl ⟨rfl, below_setRow HB3.out (Nat.le_refl _) _⟩
end Go.Proofs.YtoiblfmlahedlaaDoor.Sha
end
section
namespace Go.Proofs.YtoiblfmlahedlaaDoor.Sha
open Go.RowKit Go.Proofs.YtoiblfmlahedlaaDoorW.PrintWords Go.Proofs.YtoiblfmlahedlaaDoorW.PrintLast Go.Proofs.YtoiblfmlahedlaaDoorW.PrintMore
set_option linter.unusedVariables false
set_option linter.unusedSimpArgs false
set_option maxRecDepth 100000
def pair_T1 : Bool × List (List Nat × List Nat) := (true, [([], []), ([], []), ([0, 1], [0, 1]), ([2], [2]), ([3, 3, 0, 1, 2, 3], [3])])
def pair_B1 : List Nat := [0, 0, 3, 7, 15]
theorem pair_tab1 : rtab .any (opsOf Tryd.f66 1) = pair_T1 := by kernel_rfl
theorem pair_bits1 : waitsOk pair_T1.2 pair_B1 = true := by kernel_rfl
def root_T1 : Bool × List (List Nat × List Nat) := (true, [([], []), ([0], [0]), ([], []), ([1, 2], [1, 2]), ([3, 1], [3]), ([4, 4, 0, 1, 2, 3, 4], [4])])
def root_B1 : List Nat := [0, 1, 0, 7, 15, 31]
theorem root_tab1 : rtab .any (opsOf Tryd.f67 1) = root_T1 := by kernel_rfl
theorem root_bits1 : waitsOk root_T1.2 root_B1 = true := by kernel_rfl
section
variable {P : Program} {ops : Array Oper} {o : Oper} {a : Act} {Q : Exit → Act → World → Prop} {Kc : Act → World → Prop}
theorem storeRow_step {w : World} (hw : Region.wanted o (yielded ops a.tmps) = true) (ty : TypeId) (x y : Operand) (ho : o.op = .store ty x y)
    (g : Nat) (cells : Array Value) (hx : a.eval x = .pointer (some ⟨g, 0, none⟩)) (hy : a.eval y = .agg cells)
    (t : TypeId) (old : Array Value) (hg : w.heap[g]? = some (.cells old t (0, 0))) (hi : (P.info? ty).map (·.size) = some cells.size)
    (hold : old.size = cells.size) (h1 : cells.all (·.oneCell') = true)
    (h : Kc (a.put o.dst undef) (w.setRow g cells)) : if Region.wanted o (yielded ops a.tmps) = true then Oper.wp P o a w Kc Q else Kc (a.put o.dst undef) w := by
  rw [if_pos hw]
  exact wp_store_row ty x y ho g cells hx hy t old hg hi hold h1 h
theorem loadRow_take {w : World} (ty : TypeId) (g : Nat) (t : TypeId) (cs : Array Value) (d : TypeDesc) (hg : w.heap[g]? = some (.cells cs t (0, 0)))
    (hu : P.underlying ty = some d) (hd : (match d with | .struct _ | .array _ _ => true | _ => false) = true) (hi : (P.info? ty).map (·.size) = some cs.size) :
    (Instr.loadAt ty (.pointer (some ⟨g, 0, none⟩))).run P w = .ok (.agg cs) w := by
  simp only [Instr.loadAt, Instr.sureAddr, Sem.run_bind, Sem.run_pure, Result.andThen_ok, run_loadVar_row w g t ty cs (0, 0) d hg hu hd hi]
end
set_option maxHeartbeats 1600000 in
set_option maxRecDepth 100000 in
theorem pair_calls (a b : List Int) (w : World) (ha : a.length = 32) (hb : b.length = 32) (hya : bytes a) (hyb : bytes b) (hT : Tab w) :
    Calls Tryd.prog 66 #[vd a, vd b] w fun e w' => e = .returned (vd (pairI a b)) ∧ Below w.heap.size w w' := by
  have HY := Aside0.mk (bytes_app hya hyb)
  have HTAB := Aside0.mk hT
  have HSL := Aside0.mk (shaI_len (1 :: (a ++ b)))
  have HLA := Aside0.mk ha
  have HLB := Aside0.mk hb
  clear hT hya hyb ha hb
  generalize hD : pairI a b = D
  have HDD := Aside0.mk hD
  clear hD
  rw [show shaI (1 :: (a ++ b)) = D from HDD.out] at HSL
  go_enter Tryd.func66, Tryd.ntmps66
  go_upto_region 1 with (fail)
  obtain ⟨w1, hw1, HA1, HA2, HD, HB1, hz1⟩ : ∃ w1, ((w.alloc (.cells (cb a) 31)).alloc (.cells (cb b) 31)).alloc (.cells #[.int .u8 0, .int .u8 0, .int .u8 0, .int .u8 0, .int .u8 0, .int .u8 0, .int .u8 0, .int .u8 0, .int .u8 0, .int .u8 0, .int .u8 0, .int .u8 0, .int .u8 0, .int .u8 0, .int .u8 0, .int .u8 0, .int .u8 0, .int .u8 0, .int .u8 0, .int .u8 0, .int .u8 0, .int .u8 0, .int .u8 0, .int .u8 0, .int .u8 0, .int .u8 0, .int .u8 0, .int .u8 0, .int .u8 0, .int .u8 0, .int .u8 0, .int .u8 0] 31) = w1 ∧ Aside0 (w1.heap[w.heap.size]? = some (.cells (cb a) 31 (0, 0))) ∧ Aside0 (w1.heap[w.heap.size + 1]? = some (.cells (cb b) 31 (0, 0))) ∧ Aside0 (w1.heap[w.heap.size + 1 + 1]? = some (.cells (cb (List.replicate 32 0)) 31 (0, 0))) ∧ Aside0 (Below w.heap.size w w1) ∧ Aside0 (w1.heap.size = w.heap.size + 1 + 1 + 1) :=
    ⟨_, rfl, ⟨by rw [Below.heap_alloc _ _ _ (by simp; omega), Below.heap_alloc _ _ _ (by simp)]; exact heap_new _ _⟩, ⟨by rw [Below.heap_alloc _ _ _ (by simp)]; exact heap_new' _ _ _ (by simp)⟩, ⟨heap_new' _ _ _ (by simp)⟩, ⟨(((Below.refl w.heap.size w).alloc (Nat.le_refl _) _).alloc (by simp) _).alloc (by simp; omega) _⟩, ⟨by simp⟩⟩
  rw [hw1]
  clear hw1
  obtain ⟨W, hW, HC, HB2, HT2, HD1⟩ : ∃ W, (w1.alloc (.cells #[.slice (some ⟨w.heap.size, 0, none⟩) 32 32, .slice (some ⟨w.heap.size + 1, 0, none⟩) 32 32] 22)).drew = W ∧ Aside0 (Kd.C (Kd.slice 5 B) W (some ⟨w1.heap.size, 0, none⟩) 2 [a, b]) ∧ Aside0 (Below w.heap.size w W) ∧ Aside0 (Tab W) ∧ Aside0 (W.heap[w.heap.size + 1 + 1]? = some (.cells (cb (List.replicate 32 0)) 31 (0, 0))) := by
    have hb := HB1.out.alloc HB1.out.size (.cells #[.slice (some ⟨w.heap.size, 0, none⟩) 32 32, .slice (some ⟨w.heap.size + 1, 0, none⟩) 32 32] 22)
    have hl1 := HLA.out
    have hl2 := HLB.out
    refine ⟨_, rfl, ⟨?_⟩, ⟨below_drew1 hb⟩, ⟨HTAB.out.below (below_drew1 hb)⟩, ⟨?_⟩⟩
    · refine Kd.C_drew (two_rows (A := some ⟨w.heap.size, 0, none⟩) (B' := some ⟨w.heap.size + 1, 0, none⟩) (ca := 32) (cb' := 32) (by rw [hl1, hl2]; exact heap_new _ _) (Kd.C_alloc (C_cb HA1.out (by omega)) _) (by omega) (Kd.C_alloc (C_cb HA2.out (by omega)) _) (by omega))
    · show (w1.alloc _).heap[w.heap.size + 1 + 1]? = _
      rw [Below.heap_alloc _ _ _ (by have := hz1.out; omega)]
      exact HD.out
  refine start_ (n := 5) (S := fun w' => True) (ds := []) #[false, false, false, false, false] (by kernel_rfl) rfl rfl trivial (fun hHeld => ?_)
  refine with_tabW pair_tab1 pair_bits1 (fun HT_ HW_ => ?_)
  refine pure_ (i := 0) (N := some 5) (v := ?_) (a' := ?_) #[true, false, false, false, false] rfl rfl (any_of HT_.out (by kernel_rfl)) (fun _ _ _ h => h) (Or.inl ⟨by rfl, ?_⟩) ?_ ?_
  rotate_left
  · intro w'
    go_simp
    with_reducible rfl
  rotate_left
  · simp only [Act.put, List.setIfInBounds_toArray, List.set_cons_zero, List.set_cons_succ, i64_w, i32_w]
    rfl
  refine pure_ (i := 1) (N := some 6) (v := ?_) (a' := ?_) #[true, true, false, false, false] rfl rfl (any_of HT_.out (by kernel_rfl)) (fun _ _ _ h => h) (Or.inl ⟨by rfl, ?_⟩) ?_ ?_
  rotate_left
  · intro w'
    go_simp
    with_reducible rfl
  rotate_left
  · simp only [Act.put, List.setIfInBounds_toArray, List.set_cons_zero, List.set_cons_succ, i64_w, i32_w]
    rfl
  refine one_ (i := 2) (N := some 7) #[true, true, true, false, false] rfl rfl (one_of HT_.out (by kernel_rfl)) (by decide) (fun K hK => ?_)
  go_simp
  refine hK.out _ _ trivial (fun hHeld => ?_)
  clear hK K
  refine norm_ (a' := ?_) ?_ ?_
  rotate_left
  · first
    | (show Act.put _ (some 7) _ = _; simp only [Act.put, List.setIfInBounds_toArray, List.set_cons_zero, List.set_cons_succ, i64_w, i32_w]; rfl)
    | rfl
  refine one_ (i := 3) (N := some 8) #[true, true, true, true, false] rfl rfl (one_of HT_.out (by kernel_rfl)) (by decide) (fun K hK => ?_)
  refine goes_ Tryd.func92 (by kernel_rfl) rfl #[.int .u8 1, .slice (some ⟨w1.heap.size, 0, none⟩) 2 2] (by rfl) rfl rfl (by (try simp only [List.map_toArray, List.map_cons, List.map_nil]); first | done | rfl) ?_
  refine (parts_calls 1 _ 2 [a, b] _ HC.out (Nat.le_refl 2) (by omega) (by rw [flat2]; exact HY.out) (by rw [flen2, HLA.out, HLB.out]; omega) HT2.out).mono ?_
  rintro e w3 ⟨rfl, hb⟩
  refine ⟨_, rfl, ?_⟩
  rw [flat2, show shaI (1 :: (a ++ b)) = D from HDD.out]
  have HD2 := Aside0.mk (heap_keep HD1.out hb)
  have HB3 := Aside0.mk (below_step HB2.out hb)
  clear hb
  refine hK.out _ _ trivial (fun hHeld => ?_)
  clear hK K
  refine norm_ (a' := ?_) ?_ ?_
  rotate_left
  · first
    | (show Act.put _ (some 8) _ = _; simp only [Act.put, List.setIfInBounds_toArray, List.set_cons_zero, List.set_cons_succ, i64_w, i32_w]; rfl)
    | rfl
  refine one_ (i := 4) (N := none) #[true, true, true, true, true] rfl rfl (one_of HT_.out (by kernel_rfl)) (by decide) (fun K hK => ?_)
  refine storeRow_step (by rfl) 31 (.tmp 4) (.tmp 8) rfl (w.heap.size + 1 + 1) (cb D) rfl rfl 31 _ HD2.out (infoDg _ HSL.out) (by rw [cb_size, cb_size, HSL.out]; simp) (cb_one _) ?_
  refine hK.out _ _ trivial (fun hHeld => ?_)
  clear hK K
  refine norm_ (a' := ?_) ?_ ?_
  rotate_left
  · first
    | (show Act.put _ none _ = _; simp only [Act.put, List.setIfInBounds_toArray, List.set_cons_zero, List.set_cons_succ, i64_w, i32_w]; rfl)
    | rfl
  refine done_ (done_of HT_.out (by kernel_rfl)) ?_
  clear hHeld HT_ HW_
  go_wp2
  (try simp only [Exit.inBlock, Exit.then])
  exact dg_ret rfl rfl HSL.out (setRow_heap _ _ _ _ _ _ HD2.out) rfl ⟨rfl, below_setRow HB3.out (by omega) _⟩
set_option maxHeartbeats 1600000 in
set_option maxRecDepth 100000 in
theorem root_calls (n : Nat) (d : List Int) (w : World) (hn : n < 9223372036854775808) (hd : d.length = 32) (hyd : bytes d) (hT : Tab w) :
    Calls Tryd.prog 67 #[.int .i64 n, vd d] w fun e w' => e = .returned (vd (rootI n d)) ∧ Below w.heap.size w w' := by
  have HY := Aside0.mk (bytes_app (be8_bytes n) hyd)
  have HTAB := Aside0.mk hT
  have HSL := Aside0.mk (shaI_len (2 :: (be8 n ++ d)))
  have HLB := Aside0.mk hd
  clear hT hyd hd
  generalize hD : rootI n d = D
  have HDD := Aside0.mk hD
  clear hD
  rw [show shaI (2 :: (be8 n ++ d)) = D from HDD.out] at HSL
  go_enter Tryd.func67, Tryd.ntmps67
  go_upto_region 1 with (fail)
  obtain ⟨w1, hw1, HA1, HD, HB1, hz1⟩ : ∃ w1, (w.alloc (.cells (cb d) 31)).alloc (.cells #[.int .u8 0, .int .u8 0, .int .u8 0, .int .u8 0, .int .u8 0, .int .u8 0, .int .u8 0, .int .u8 0, .int .u8 0, .int .u8 0, .int .u8 0, .int .u8 0, .int .u8 0, .int .u8 0, .int .u8 0, .int .u8 0, .int .u8 0, .int .u8 0, .int .u8 0, .int .u8 0, .int .u8 0, .int .u8 0, .int .u8 0, .int .u8 0, .int .u8 0, .int .u8 0, .int .u8 0, .int .u8 0, .int .u8 0, .int .u8 0, .int .u8 0, .int .u8 0] 31) = w1 ∧ Aside0 (w1.heap[w.heap.size]? = some (.cells (cb d) 31 (0, 0))) ∧ Aside0 (w1.heap[w.heap.size + 1]? = some (.cells (cb (List.replicate 32 0)) 31 (0, 0))) ∧ Aside0 (Below w.heap.size w w1) ∧ Aside0 (w1.heap.size = w.heap.size + 1 + 1) :=
    ⟨_, rfl, ⟨by rw [Below.heap_alloc _ _ _ (by simp)]; exact heap_new _ _⟩, ⟨heap_new' _ _ _ (by simp)⟩, ⟨((Below.refl w.heap.size w).alloc (Nat.le_refl _) _).alloc (by simp) _⟩, ⟨by simp⟩⟩
  rw [hw1]
  clear hw1
  refine start_ (n := 6) (S := fun w' => True) (ds := []) #[false, false, false, false, false, false] (by kernel_rfl) rfl rfl trivial (fun hHeld => ?_)
  refine with_tabW root_tab1 root_bits1 (fun HT_ HW_ => ?_)
  refine pure_ (i := 0) (N := some 5) (v := ?_) (a' := ?_) #[true, false, false, false, false, false] rfl rfl (any_of HT_.out (by kernel_rfl)) (fun _ _ _ h => h) (Or.inl ⟨by rfl, ?_⟩) ?_ ?_
  rotate_left
  · intro w'
    go_simp
    with_reducible rfl
  rotate_left
  · simp only [Act.put, List.setIfInBounds_toArray, List.set_cons_zero, List.set_cons_succ, i64_w, i32_w]
    rfl
  refine pure_ (i := 2) (N := some 7) (v := ?_) (a' := ?_) #[true, false, true, false, false, false] rfl rfl (any_of HT_.out (by kernel_rfl)) (fun _ _ _ h => h) (Or.inl ⟨by rfl, ?_⟩) ?_ ?_
  rotate_left
  · intro w'
    go_simp
    with_reducible rfl
  rotate_left
  · simp only [Act.put, List.setIfInBounds_toArray, List.set_cons_zero, List.set_cons_succ, i64_w, i32_w]
    rfl
  refine one_ (i := 1) (N := some 6) #[true, true, true, false, false, false] rfl rfl (one_of HT_.out (by kernel_rfl)) (by decide) (fun K hK => ?_)
  refine goes_ Tryd.func93 (by kernel_rfl) rfl #[.int .i64 n] (by rfl) rfl rfl (by (try simp only [List.map_toArray, List.map_cons, List.map_nil]); first | done | rfl) ?_
  refine (eight_calls n _ hn).mono ?_
  rintro e w2 ⟨rfl, h8, hb⟩
  refine ⟨_, rfl, ?_⟩
  obtain ⟨W, hW, HC, HB2, HT2, HD1⟩ : ∃ W, (w2.alloc (.cells #[.slice (some ⟨w1.heap.size, 0, none⟩) 8 8, .slice (some ⟨w.heap.size, 0, none⟩) 32 32] 22)) = W ∧ Aside0 (Kd.C (Kd.slice 5 B) W (some ⟨w2.heap.size, 0, none⟩) 2 [be8 n, d]) ∧ Aside0 (Below w.heap.size w W) ∧ Aside0 (Tab W) ∧ Aside0 (W.heap[w.heap.size + 1]? = some (.cells (cb (List.replicate 32 0)) 31 (0, 0))) := by
    have hb1 : Below w1.heap.size w1 w2 := (below_drew1 (Below.refl w1.heap.size w1)).trans hb
    have hb2 := below_step HB1.out hb1
    have hb3 := hb2.alloc hb2.size (.cells #[.slice (some ⟨w1.heap.size, 0, none⟩) 8 8, .slice (some ⟨w.heap.size, 0, none⟩) 32 32] 22)
    have hl2 := HLB.out
    refine ⟨_, rfl, ⟨?_⟩, ⟨hb3⟩, ⟨HTAB.out.below hb3⟩, ⟨?_⟩⟩
    · exact two_rows (A := some ⟨w1.heap.size, 0, none⟩) (B' := some ⟨w.heap.size, 0, none⟩) (ca := 8) (cb' := 32) (by rw [hl2]; exact heap_new _ _) (Kd.C_alloc h8 _) (Nat.le_refl 8) (Kd.C_alloc (C_cb (heap_keep HA1.out hb1) (by omega)) _) (by omega)
    · rw [Below.heap_alloc _ _ _ (by have := hz1.out; have := hb1.size; omega)]
      exact heap_keep HD.out hb1
  clear hb h8
  refine hK.out _ _ trivial (fun hHeld => ?_)
  clear hK K
  refine norm_ (a' := ?_) ?_ ?_
  rotate_left
  · first
    | (show Act.put _ (some 6) _ = _; simp only [Act.put, List.setIfInBounds_toArray, List.set_cons_zero, List.set_cons_succ, i64_w, i32_w]; rfl)
    | rfl
  refine one_ (i := 3) (N := some 8) #[true, true, true, true, false, false] rfl rfl (one_of HT_.out (by kernel_rfl)) (by decide) (fun K hK => ?_)
  go_simp
  refine hK.out _ _ trivial (fun hHeld => ?_)
  clear hK K
  refine norm_ (a' := ?_) ?_ ?_
  rotate_left
  · first
    | (show Act.put _ (some 8) _ = _; simp only [Act.put, List.setIfInBounds_toArray, List.set_cons_zero, List.set_cons_succ, i64_w, i32_w]; rfl)
    | rfl
  refine one_ (i := 4) (N := some 9) #[true, true, true, true, true, false] rfl rfl (one_of HT_.out (by kernel_rfl)) (by decide) (fun K hK => ?_)
  refine goes_ Tryd.func92 (by kernel_rfl) rfl #[.int .u8 2, .slice (some ⟨w2.heap.size, 0, none⟩) 2 2] (by rfl) rfl rfl (by (try simp only [List.map_toArray, List.map_cons, List.map_nil]); first | done | rfl) ?_
  refine (parts_calls 2 _ 2 [be8 n, d] _ HC.out (Nat.le_refl 2) (by omega) (by rw [flat2]; exact HY.out) (by rw [flen2, HLB.out]; simp [be8]) HT2.out).mono ?_
  rintro e w3 ⟨rfl, hb⟩
  refine ⟨_, rfl, ?_⟩
  rw [flat2, show shaI (2 :: (be8 n ++ d)) = D from HDD.out]
  have HD2 := Aside0.mk (heap_keep HD1.out hb)
  have HB3 := Aside0.mk (below_step HB2.out hb)
  clear hb
  refine hK.out _ _ trivial (fun hHeld => ?_)
  clear hK K
  refine norm_ (a' := ?_) ?_ ?_
  rotate_left
  · first
    | (show Act.put _ (some 9) _ = _; simp only [Act.put, List.setIfInBounds_toArray, List.set_cons_zero, List.set_cons_succ, i64_w, i32_w]; rfl)
    | rfl
  refine one_ (i := 5) (N := none) #[true, true, true, true, true, true] rfl rfl (one_of HT_.out (by kernel_rfl)) (by decide) (fun K hK => ?_)
  refine storeRow_step (by rfl) 31 (.tmp 4) (.tmp 9) rfl (w.heap.size + 1) (cb D) rfl rfl 31 _ HD2.out (infoDg _ HSL.out) (by rw [cb_size, cb_size, HSL.out]; simp) (cb_one _) ?_
  refine hK.out _ _ trivial (fun hHeld => ?_)
  clear hK K
  refine norm_ (a' := ?_) ?_ ?_
  rotate_left
  · first
    | (show Act.put _ none _ = _; simp only [Act.put, List.setIfInBounds_toArray, List.set_cons_zero, List.set_cons_succ, i64_w, i32_w]; rfl)
    | rfl
  refine done_ (done_of HT_.out (by kernel_rfl)) ?_
  clear hHeld HT_ HW_
  go_wp2
  (try simp only [Exit.inBlock, Exit.then])
  exact dg_ret rfl rfl HSL.out (setRow_heap _ _ _ _ _ _ HD2.out) rfl ⟨rfl, below_setRow HB3.out (by omega) _⟩
end Go.Proofs.YtoiblfmlahedlaaDoor.Sha
end
