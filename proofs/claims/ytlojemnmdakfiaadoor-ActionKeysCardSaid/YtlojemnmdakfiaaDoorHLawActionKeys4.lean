/- What calls of Go functions of this seat come to, as the rows need it: under the conditions that each theorem names. -/
import Derived.Test.YtlojemnmdakfiaaDoorHLawActionKeys3
import Derived.Laws.OwnMore
import Derived.Laws.CopyOwn
import Derived.WalkLawsBesides
import Derived.Great.BuildSlice
import Derived.Deep.Slices
import Derived.Laws.ResultCell
import Derived.ChangeArms
import Derived.LaidMore
import Derived.Stop.Joined
import Derived.Deep.RegionLaw
import Derived.ChangeKeysEq
import Derived.Deep.QuietTactic
import Derived.BigQuiet
import Derived.Test.YtlojemnmdakfiaaDoorProg
import Derived.Below
import Derived.Deep.Draws
import Derived.Deep.AppendLies
import Derived.Maps.AppendAt
import Derived.OwnWalk
import Derived.Laws.BytesArg
import Derived.Laws.MakeOwn
import Derived.Deep.OwnRows
import Derived.Tactics
import Derived.Lib.ConvBytes
import Derived.Laws.Slices
import Derived.WalkKit
import Derived.KernelRfl
import Derived.RowKit3
import Derived.Deep.LoopGhost
import Derived.WideLaws
import Derived.Deep.DeepCutAuto
import Derived.Deep.CutBlock
import Derived.Deep.RegionHeld3
import Derived.Laws.Rows
import Derived.Lib.AppendStr
import Derived.ArgAppend
import Derived.Laws.IdiomCopy
import Derived.OrdersHeld
import Derived.Laws.BitsLemmas
import Derived.RowKit
import Derived.Outline
section
namespace Go.Proofs.YtlojemnmdakfiaaDoor.Sha
open Go.RowKit Go.Proofs.YtlojemnmdakfiaaDoorW.PrintWords Go.Proofs.YtlojemnmdakfiaaDoorW.PrintLast Go.Proofs.YtlojemnmdakfiaaDoorW.PrintMore
set_option linter.unusedVariables false
set_option linter.unusedSimpArgs false
theorem info5 : (Tryd.prog.info? 5).map (fun i => (i.zero, i.size, i.bytes)) = some (some (.int .u8 0), 1, 1) := by kernel_rfl
theorem cutB (A : Option Addr) (c : Nat) (l : List Int) (n : Nat) (hn : n ≤ l.length) (hc : l.length ≤ c) :
    ∃ (A' : Option Addr) (c' : Nat), (∀ W : World, (Instr.slice 30 (.slice A l.length c) (some (.int .i64 (n : Int))) none none).run Tryd.prog W = .ok (.slice A' (l.drop n).length c') W) ∧
      (∀ w : World, B.C w A l.length l → B.C w A' (l.drop n).length (l.drop n)) ∧ (l.drop n).length ≤ c' := by
  obtain ⟨i0, hi, _, hsz, _⟩ := info_parts info5
  obtain ⟨A', h1, h2, h3⟩ := print_drop_of (P := Tryd.prog) (Value.int .u8) 0 30 5 .i64 Tryd.underlying30 hi hsz A c l (n : Int) (by omega) (by omega) hc
  simp only [Int.toNat_natCast] at h1 h2 h3
  exact ⟨A', _, h1, fun w h => Kd.C_of_reads (h1 := fun _ => rfl) (h2 w (Kd.reads_of_C h)), h3⟩
theorem add_zero3 (g o j : Nat) : (⟨g, o, none⟩ : Addr).add j = ⟨g, o + j, none⟩ := by
  unfold Addr.add
  split <;> simp_all
theorem C_block {w : World} {g off : Nat} {cs : Array Value} {t : TypeId} {fr : Nat × Nat} (k : IntKind) (hg : w.heap[g]? = some (.cells cs t fr)) (xs : List Int) (h : ∀ (j : Nat) (x : Int), xs[j]? = some x → cs[off + j]? = some (.int k x)) (hl : xs.length ≤ 9223372036854775807) :
    (Kd.int k).C w (some ⟨g, off, none⟩) xs.length xs := by
  refine ⟨rfl, hl, fun _ => ⟨_, rfl, fun j p hj => ⟨[.int k p], rfl, rfl, fun i u hu => ?_⟩⟩⟩
  have hi : i = 0 := by
    rcases i with _ | i
    · rfl
    · simp at hu
  subst hi
  have hu' : u = .int k p := by simpa using hu.symm
  subst hu'
  rw [add_zero3, cell_of_row w g _ cs t fr hg]
  show cs[off + (j * 1 + 0)]? = _
  rw [show off + (j * 1 + 0) = off + j by omega]
  exact h j p hj
theorem C_rows_block {w : World} {g : Nat} {cs : Array Value} {t : TypeId} {fr : Nat × Nat} (e : Nat) (hg : w.heap[g]? = some (.cells cs t fr)) (xs : List (List Int)) (h : ∀ (j : Nat) (x : List Int), xs[j]? = some x → ∃ A c, cs[j]? = some (.slice A x.length c) ∧ x.length ≤ c ∧ B.C w A x.length x) (hl : xs.length ≤ 9223372036854775807) :
    Kd.C (Kd.slice e B) w (some ⟨g, 0, none⟩) xs.length xs := by
  refine ⟨rfl, hl, fun _ => ⟨_, rfl, fun j p hj => ?_⟩⟩
  obtain ⟨A, c, h1, h2, h3⟩ := h j p hj
  refine ⟨[.slice A p.length c], rfl, ⟨A, c, rfl, h2, h3⟩, fun i u hu => ?_⟩
  have hi : i = 0 := by
    rcases i with _ | i
    · rfl
    · simp at hu
  subst hi
  have hu' : u = .slice A p.length c := by simpa using hu.symm
  subst hu'
  rw [add_zero3, cell_of_row w g _ cs t fr hg]
  show cs[0 + (j * 1 + 0)]? = _
  rw [show 0 + (j * 1 + 0) = j by omega]
  exact h1
def Rw (w : World) (A : Option Addr) (b : List Int) (lo hi : Nat) : Prop := b.length ≤ 9223372036854775807 ∧ (0 < b.length → ∃ (q : Nat) (cur : Array Value), A = some ⟨q, 0, none⟩ ∧ lo ≤ q ∧ q < hi ∧ w.heap[q]? = some (.cells cur 5 (0, 0)) ∧ ∀ (j : Nat) (x : Int), b[j]? = some x → cur[j]? = some (.int .u8 x))
theorem Rw.C {w : World} {A : Option Addr} {b : List Int} {lo hi : Nat} (h : Rw w A b lo hi) : B.C w A b.length b := by
  rcases Nat.eq_zero_or_pos b.length with h0 | h0
  · exact ⟨rfl, h.1, fun hp => absurd hp (by omega)⟩
  · obtain ⟨q, cur, rfl, _, _, hc, hv⟩ := h.2 h0
    exact C_block .u8 hc b (fun j x hj => by rw [Nat.zero_add]; exact hv j x hj) h.1
theorem Rw.below {w w' : World} {A : Option Addr} {b : List Int} {lo hi : Nat} (h : Rw w A b lo hi) (hb : Below w.heap.size w w') : Rw w' A b lo hi :=
  ⟨h.1, fun hp => by obtain ⟨q, cur, e, e1, e2, hc, hv⟩ := h.2 hp; exact ⟨q, cur, e, e1, e2, heap_keep hc hb, hv⟩⟩
theorem Rw.far {w : World} {A : Option Addr} {b : List Int} {lo hi : Nat} (h : Rw w A b lo hi) (q j : Nat) (v : Value) (hq : q < lo ∨ hi ≤ q) : Rw (w.setCell ⟨q, j, none⟩ v) A b lo hi :=
  ⟨h.1, fun hp => by obtain ⟨g, cur, e, e1, e2, hc, hv⟩ := h.2 hp; exact ⟨g, cur, e, e1, e2, blk_far hc (p := ⟨q, j, none⟩) (show g ≠ q by omega) _, hv⟩⟩
theorem Rw.of {w : World} {base : Nat} {ok : Nat → Prop} {A : Option Addr} {n c : Nat} {b : List Int} (h : Kd.R B 5 w base ok (.slice A n c) b) : Rw w A b base w.heap.size := by
  obtain ⟨rfl, _, hC⟩ := Kd.R_reads' h
  refine ⟨hC.2.1, fun hp => ?_⟩
  obtain ⟨g, cap, e, hb, _, cells, hc⟩ := Kd.R_form h hp
  injection e with e1 e2 e3
  subst e1
  refine ⟨g, cells, rfl, hb, (Array.getElem?_eq_some_iff.1 hc).1, hc, fun j x hj => ?_⟩
  obtain ⟨ad, e, hx⟩ := getB hC j (List.getElem?_eq_some_iff.1 hj).1
  injection e with e
  subst e
  rw [show (Addr.mk g 0 none).add j = ⟨g, j, none⟩ by simp [Addr.add_lit]] at hx
  have := (cell_of hc).1 hx
  rw [this]
  unfold rd
  rw [Int.toNat_natCast, List.getD_eq_getElem?_getD, hj]
  rfl
def fS : S8 := (1779033703, 3144134277, 1013904242, 2773480762, 1359893119, 2600822924, 528734635, 1541459225)
def blocksI (s : S8) (l : List Int) : Nat → S8
  | 0 => s
  | k + 1 => blockI (blocksI s l k) (l.drop (64 * k))
def be8 (n : Nat) : List Int := [((n / 72057594037927936 % 256 : Nat) : Int), ((n / 281474976710656 % 256 : Nat) : Int), ((n / 1099511627776 % 256 : Nat) : Int), ((n / 4294967296 % 256 : Nat) : Int), ((n / 16777216 % 256 : Nat) : Int), ((n / 65536 % 256 : Nat) : Int), ((n / 256 % 256 : Nat) : Int), ((n % 256 : Nat) : Int)]
def zerosN (n : Nat) : Nat := (119 - n % 64) % 64
def tailL (l : List Int) : List Int := l.drop (64 * (l.length / 64)) ++ [128] ++ List.replicate (zerosN l.length) 0 ++ be8 (l.length * 8)
def wd (s : S8) : Nat → Int
  | 0 => s.1 | 1 => s.2.1 | 2 => s.2.2.1 | 3 => s.2.2.2.1 | 4 => s.2.2.2.2.1 | 5 => s.2.2.2.2.2.1 | 6 => s.2.2.2.2.2.2.1 | _ => s.2.2.2.2.2.2.2
theorem c8_wd (s : S8) (q : Nat) (h : q < 8) : (c8 s)[q]? = some (.int .u32 (wd s q)) := by
  obtain rfl | rfl | rfl | rfl | rfl | rfl | rfl | rfl : q = 0 ∨ q = 1 ∨ q = 2 ∨ q = 3 ∨ q = 4 ∨ q = 5 ∨ q = 6 ∨ q = 7 := by omega
  all_goals rfl
def byteI (s : S8) (k : Nat) : Int := IntKind.u8.wrap (wd s (k / 4) / 2 ^ (24 - 8 * (k % 4)))
def outs (s : S8) : Nat → List Int
  | 0 => List.replicate 32 0
  | k + 1 => (outs s k).set k (byteI s k)
theorem outs_len (s : S8) (k : Nat) : (outs s k).length = 32 := by
  induction k with
  | zero => simp [outs]
  | succ k ih => simp [outs, ih]
def shaI (l : List Int) : List Int := outs (blocksI (blocksI fS l (l.length / 64)) (tailL l) ((tailL l).length / 64)) 32
theorem shaI_len (l : List Int) : (shaI l).length = 32 := outs_len _ _
def cb (xs : List Int) : Array Value := (xs.map (Value.int .u8)).toArray
theorem cb_get {xs : List Int} {j : Nat} (h : j < xs.length) : (cb xs)[j]? = some (.int .u8 (rd xs (j : Int))) := by
  unfold cb rd
  rw [Int.toNat_natCast, List.getD_eq_getElem?_getD, List.getElem?_toArray, List.getElem?_map, List.getElem?_eq_getElem h]
  rfl
theorem cb_set (xs : List Int) (j : Nat) (x : Int) : (cb xs).setIfInBounds j (.int .u8 x) = cb (xs.set j x) := by
  unfold cb
  rw [List.setIfInBounds_toArray, List.map_set]
theorem cb_size (xs : List Int) : (cb xs).size = xs.length := by simp [cb]
theorem cb_one (xs : List Int) : (cb xs).all (·.oneCell') = true := by
  rw [Array.all_eq_true_iff_forall_mem]
  intro v hv
  unfold cb at hv
  simp only [List.mem_toArray, List.mem_map] at hv
  obtain ⟨x, _, rfl⟩ := hv
  rfl
abbrev vd (xs : List Int) : Value := .agg (cb xs)
structure Sm (w0 w : World) (d : List Int) (s : S8) : Prop where
  d : w.heap[w0.heap.size]? = some (.cells (cb d) 35 (0, 0))
  s : w.heap[w0.heap.size + 1]? = some (.cells (c8 s) 59 (0, 0))
  b : Below w0.heap.size w0 w
theorem Sm.below {w0 w w' : World} {d : List Int} {s : S8} (h : Sm w0 w d s) (hb : Below w.heap.size w w') : Sm w0 w' d s := ⟨heap_keep h.d hb, heap_keep h.s hb, below_step h.b hb⟩
theorem Sm.row {w0 w : World} {d : List Int} {s : S8} (h : Sm w0 w d s) (r : S8) : Sm w0 (w.setRow (w0.heap.size + 1) (c8 r)) d r :=
  ⟨by rw [setRow_other _ _ _ _ (by omega)]; exact h.d, setRow_heap _ _ _ _ _ _ h.s, below_setRow h.b (by omega) _⟩
theorem Sm.set {w0 w : World} {d : List Int} {s : S8} (h : Sm w0 w d s) (j : Nat) (x : Int) : Sm w0 (w.setCell ⟨w0.heap.size, j, none⟩ (.int .u8 x)) (d.set j x) s :=
  ⟨by rw [← cb_set]; exact blk_set h.d j _, blk_far h.s (p := ⟨w0.heap.size, j, none⟩) (by show _ ≠ _; simp) _, h.b.setCell (p := ⟨w0.heap.size, j, none⟩) (Nat.le_refl _) _⟩
theorem bytes_drop {l : List Int} (h : bytes l) (k : Nat) : bytes (l.drop k) := fun x hx => h x (List.mem_of_mem_drop hx)
theorem bytes_app {l m : List Int} (h : bytes l) (g : bytes m) : bytes (l ++ m) := fun x hx => by
  rcases List.mem_append.1 hx with h' | h'
  · exact h x h'
  · exact g x h'
theorem c8_one (s : S8) : (c8 s).all (·.oneCell') = true := by simp [c8, Value.oneCell']
theorem infoS : (Tryd.prog.info? 59).map (·.size) = some 8 := by kernel_rfl
theorem infoD : (Tryd.prog.info? 35).map (·.size) = some 32 := by kernel_rfl
theorem C_one (w : World) (x : Int) (t : TypeId) : B.C (w.alloc (.cells #[.int .u8 x] t)) (some ⟨w.heap.size, 0, none⟩) 1 [x] :=
  C_block .u8 (heap_new _ _) [x] (fun j y hj => by
    rcases j with _ | j
    · obtain rfl : x = y := by simpa using hj
      rfl
    · simp at hj) (by simp)
theorem be8_bytes (n : Nat) : bytes (be8 n) := by
  intro x hx
  simp only [be8, List.mem_cons, List.not_mem_nil, or_false] at hx
  omega
theorem bytes_rep (n : Nat) : bytes (List.replicate n 0) := by
  intro x hx
  obtain ⟨_, rfl⟩ := List.mem_replicate.1 hx
  omega
theorem tailL_bytes {l : List Int} (h : bytes l) : bytes (tailL l) := by
  unfold tailL
  refine bytes_app (bytes_app (bytes_app (bytes_drop h _) ?_) (bytes_rep _)) (be8_bytes _)
  intro x hx
  simp only [List.mem_cons, List.not_mem_nil, or_false] at hx
  omega
theorem Rw.row {w : World} {A : Option Addr} {b : List Int} {lo hi : Nat} (h : Rw w A b lo hi) (q : Nat) (cs : Array Value) (hq : q < lo) : Rw (w.setRow q cs) A b lo hi :=
  ⟨h.1, fun hp => by obtain ⟨g, cur, e, e1, e2, hc, hv⟩ := h.2 hp; exact ⟨g, cur, e, e1, e2, (setRow_other _ _ _ _ (by omega)).trans hc, hv⟩⟩
theorem be8_step {N q : Nat} {x : Int} {t t2 : List Int} (h : t2 = t ++ (be8 N).take q) (hx : (be8 N)[q]? = some x) : t2 ++ [x] = t ++ (be8 N).take (q + 1) := by
  rw [h, List.append_assoc, List.take_add_one, hx]
  rfl
def slLen : Value → Nat
  | .slice _ n _ => n
  | _ => 0
set_option maxHeartbeats 1600000 in
set_option maxRecDepth 100000 in
theorem sum_calls (A : Option Addr) (c : Nat) (l : List Int) (w : World) (hr : B.C w A l.length l) (hc : l.length ≤ c) (hb : bytes l) (hT : Tab w) (h60 : l.length < 1152921504606846976) :
    Calls Tryd.prog 41 #[.slice A l.length c] w fun e w' => e = .returned (vd (shaI l)) ∧ Below w.heap.size w w' := by
  have HR := Aside0.mk hr
  have HY := Aside0.mk hb
  have HTAB := Aside0.mk hT
  clear hr hb
  have hp2 := hT.pos
  clear hT
  go_enter Tryd.func41, Tryd.ntmps41
  go_upto_region 1 with (fail)
  obtain ⟨w1, hw1, HB1, HD, HZ1, hT⟩ : ∃ w1, w.alloc (.cells #[.int .u8 0, .int .u8 0, .int .u8 0, .int .u8 0, .int .u8 0, .int .u8 0, .int .u8 0, .int .u8 0, .int .u8 0, .int .u8 0, .int .u8 0, .int .u8 0, .int .u8 0, .int .u8 0, .int .u8 0, .int .u8 0, .int .u8 0, .int .u8 0, .int .u8 0, .int .u8 0, .int .u8 0, .int .u8 0, .int .u8 0, .int .u8 0, .int .u8 0, .int .u8 0, .int .u8 0, .int .u8 0, .int .u8 0, .int .u8 0, .int .u8 0, .int .u8 0] 35) = w1 ∧ Aside0 (Below w.heap.size w w1) ∧ Aside0 (w1.heap[w.heap.size]? = some (.cells (cb (List.replicate 32 0)) 35 (0, 0))) ∧ Aside0 (w1.heap.size = w.heap.size + 1) ∧ Tab w1 :=
    ⟨_, rfl, ⟨(Below.refl w.heap.size w).alloc (Nat.le_refl _) _⟩, ⟨heap_new _ _⟩, ⟨by simp⟩, HTAB.out.below ((Below.refl w.heap.size w).alloc (Nat.le_refl _) _)⟩
  rw [hw1]
  clear hw1
  have hf0 : w1.cell? ⟨0, 0, none⟩ = some (.int .u32 1779033703) := hT.f 0 (by decide)
  have hf1 : w1.cell? ⟨0, 1, none⟩ = some (.int .u32 3144134277) := hT.f 1 (by decide)
  have hf2 : w1.cell? ⟨0, 2, none⟩ = some (.int .u32 1013904242) := hT.f 2 (by decide)
  have hf3 : w1.cell? ⟨0, 3, none⟩ = some (.int .u32 2773480762) := hT.f 3 (by decide)
  have hf4 : w1.cell? ⟨0, 4, none⟩ = some (.int .u32 1359893119) := hT.f 4 (by decide)
  have hf5 : w1.cell? ⟨0, 5, none⟩ = some (.int .u32 2600822924) := hT.f 5 (by decide)
  have hf6 : w1.cell? ⟨0, 6, none⟩ = some (.int .u32 528734635) := hT.f 6 (by decide)
  have hf7 : w1.cell? ⟨0, 7, none⟩ = some (.int .u32 1541459225) := hT.f 7 (by decide)
  clear hT
  go_wp2
  rw [HZ1.out]
  obtain ⟨wa, hwa, HS⟩ : ∃ wa, w1.alloc (.cells #[.int .u32 1779033703, .int .u32 3144134277, .int .u32 1013904242, .int .u32 2773480762, .int .u32 1359893119, .int .u32 2600822924, .int .u32 528734635, .int .u32 1541459225] 59) = wa ∧ Aside0 (Sm w wa (List.replicate 32 0) fS) :=
    ⟨_, rfl, ⟨by rw [Below.heap_alloc _ _ _ (by have := HZ1.out; omega)]; exact HD.out, heap_new' _ _ _ HZ1.out.symm, HB1.out.alloc HB1.out.size _⟩⟩
  rw [hwa]
  clear hwa hf0 hf1 hf2 hf3 hf4 hf5 hf6 hf7 HB1 HD HZ1
  go_loopw [0] (fun v wr => ∃ (k : Nat) (A' : Option Addr) (c' : Nat) (r : List Int), 64 * k ≤ l.length ∧ Aside0 (r = l.drop (64 * k)) ∧ v = .slice A' r.length c' ∧ r.length ≤ c' ∧ Aside0 (∀ W : World, B.C W A l.length l → B.C W A' r.length r) ∧ Aside0 (Sm w wr (List.replicate 32 0) (blocksI fS l k))) (fun v _ => slLen v)
  case atStart => exact ⟨0, A, c, l, Nat.zero_le _, ⟨by simp⟩, rfl, hc, ⟨fun _ h => h⟩, HS⟩
  case round =>
    clear HS
    obtain ⟨k, A', c', r, hk, HRE, rfl, hc', HRC, HS⟩ := hrel
    have hrl : r.length = l.length - 64 * k := by rw [HRE.out, List.length_drop]
    have HBK := Aside0.mk (show blocksI fS l (k + 1) = blockI (blocksI fS l k) r by rw [HRE.out]; rfl)
    generalize hsk : blocksI fS l k = s at HS HBK
    have HS0 := Aside0.mk hsk
    clear hsk
    by_cases h64 : 64 ≤ r.length
    · have e1 : decide ((r.length : Int) ≥ 64) = true := decide_eq_true (by omega)
      have hk2 : 64 * (k + 1) ≤ l.length := by omega
      have hr60 : r.length < 1152921504606846976 := by omega
      obtain ⟨A2, c2, hcut, hcc, hc2⟩ := cutB A' c' r 64 h64 hc'
      replace hcut : ∀ W : World, (Instr.slice 30 (.slice A' r.length c') (some (.int .i64 64)) none none).run Tryd.prog W = .ok (.slice A2 (r.drop 64).length c2) W := hcut
      have HRE2 := Aside0.mk (show r.drop 64 = l.drop (64 * (k + 1)) by rw [HRE.out, List.drop_drop, Nat.mul_add])
      have HRC2 := Aside0.mk (show ∀ W : World, B.C W A l.length l → B.C W A2 (r.drop 64).length (r.drop 64) from fun W h => hcc W (HRC.out W h))
      have hrl2 : (r.drop 64).length < r.length := by rw [List.length_drop]; omega
      generalize r.drop 64 = r2 at *
      clear hrl hk
      go_wp2_with (first | (refine wpList_load_row rfl 59 (.tmp 3) rfl (w.heap.size + 1) rfl 59 (c8 s) (0, 0) _ HS.out.s Tryd.underlying59 rfl infoS ?_))
      refine (block_calls s A' c' r _ (HRC.out _ (Kd.C_below HR.out HS.out.b)) hc' (by rw [HRE.out]; exact bytes_drop HY.out _) h64 (HTAB.out.below HS.out.b)).mono ?_
      rintro e w2 ⟨rfl, hb⟩
      rw [← HBK.out]
      replace HS := Aside0.mk (HS.out.below hb)
      clear hb
      go_wp2_with (first | (refine wpList_store_row rfl 59 (.tmp 3) (.tmp 18) rfl (w.heap.size + 1) (c8 (blocksI fS l (k + 1))) rfl rfl 59 _ HS.out.s infoS rfl (c8_one _) ?_))
      go_roundw
      case rel => exact ⟨k + 1, A2, c2, r2, hk2, HRE2, rfl, hc2, HRC2, ⟨HS.out.row _⟩⟩
      case measure => exact hrl2
    · have hk2 : k = l.length / 64 := by omega
      have hr64 : r.length ≤ 63 := by omega
      have hrm : l.length % 64 = r.length := by omega
      have e1 : decide ((r.length : Int) ≥ 64) = false := decide_eq_false (by omega)
      subst hk2
      have HS1 := Aside0.mk HS.out
      clear hrl hk HBK h64 HS
      have HRR := Aside0.mk (HRC.out _ (Kd.C_below HR.out HS1.out.b))
      obtain ⟨i0, hi0, hz0, hz1, hz2⟩ := info_parts info5
      go_wp2_with (first | ((with_reducible refine gate_dst (N := 19) rfl ?_); refine wpList_make_own wr rfl _ _ 30 rfl wr.heap.size 5 i0 (.int .u8 0) 1 Tryd.underlying30 hi0 hz0 hz1 .i64 .i64 _ 128 rfl rfl rfl ?c1 ?c2 (Nat.le_refl _) ?_; (case c1 => rw [hz2]; omega); (case c2 => unfold maxLen; omega); intro w2 hown hgrow; have HO := Aside0.mk (show Kd.R B 5 w2 wr.heap.size (fun _ => True) (.slice (some ⟨wr.heap.size, 0, none⟩) 0 128) [] from ⟨fun _ _ => trivial, [], hown, Reps.none _ _⟩); have HB := Aside0.mk ((Below.refl wr.heap.size wr).grown hgrow (Nat.le_refl _) (fun _ h => by cases h)); clear hown hgrow) | ((with_reducible refine gate_builtin (b := .append) (xs := #[.tmp 19, .tmp 20]) rfl ?_); at_builtin; refine Kd.R_append_rows B (w0 := wr) wr.heap.size rfl (.tmp 19) (.tmp 20) 30 5 (.int .u8 0) 1 rfl Tryd.underlying30 info5 rfl (by decide) (by omega) _ ([]) (r) _ _ _ (fun _ => True) (fun _ => False) rfl rfl HO.out (Kd.C_below HRR.out HB.out) (fun _ _ h => h) (fun _ h => h.elim) (fun _ _ => trivial) HB.out HB.out.size ?aL ?_; (case aL => simp; omega); intro v2 w3 ho hb2 hg hat; rw [List.nil_append] at ho; obtain ⟨A2, c2, rfl, hc2, hr2⟩ := Kd.R_reads ho; have HO2 := Aside0.mk ho; have HB2 := Aside0.mk hb2; clear ho hb2 hg hat hr2) | ((with_reducible refine gate_builtin (b := .append) (xs := #[.tmp 21, .tmp 22]) rfl ?_); at_builtin; refine Kd.R_append_rows B (w0 := wr) wr.heap.size rfl (.tmp 21) (.tmp 22) 30 5 (.int .u8 0) 1 rfl Tryd.underlying30 info5 rfl (by decide) (by omega) _ (r) ([128]) _ _ _ (fun _ => True) (fun _ => False) rfl rfl (by (with_reducible repeat (first | apply Kd.R_alloc | apply Kd.R_drewN | apply Kd.R_drew)); exact HO2.out) (C_one w3 128 _) (fun _ _ h => h) (fun _ h => h.elim) (fun _ _ => trivial) (HB2.out.alloc HB2.out.size _) (HB2.out.alloc HB2.out.size _).size ?aL ?_; (case aL => simp; omega); intro v3 w4 ho hb2 hg hat; have HO3 := Aside0.mk ho; have HB3 := Aside0.mk hb2; clear ho hb2 hg hat))
      clear HO HO2 HB HB2 hi0 hz0 hz1 hz2
      obtain ⟨wb, rfl⟩ : ∃ wb, wb = wr := ⟨_, rfl⟩
      obtain ⟨A5, c5, rfl, hc5, hr5⟩ := Kd.R_reads HO3.out
      clear hr5
      have hZ : (r.length + 1 + zerosN l.length) % 64 = 56 := by unfold zerosN; rw [hrm]; omega
      have hZ2 : zerosN l.length < 64 := by unfold zerosN; omega
      have hZ3 : ∀ j, j < zerosN l.length → (r.length + 1 + j) % 64 ≠ 56 := by intro j hj; unfold zerosN at hj; rw [hrm] at hj; omega
      have HTL := Aside0.mk (show tailL l = r ++ [128] ++ List.replicate (zerosN l.length) 0 ++ be8 (l.length * 8) by unfold tailL; rw [HRE.out])
      generalize zerosN l.length = Z at hZ hZ2 hZ3 HTL
      have HZ3 := Aside0.mk hZ3
      clear hZ3
      have ht0 : (r ++ [128]).length = r.length + 1 := by simp
      generalize hT0 : r ++ [128] = t0 at *
      have HT0 := Aside0.mk hT0
      replace ht0 := Aside0.mk ht0
      clear hT0
      go_loopw [5] (fun v wz => ∃ (j : Nat) (t : List Int) (A5 : Option Addr) (c5 : Nat), j ≤ Z ∧ Aside0 (t.length = r.length + 1 + j) ∧ Aside0 (t = t0 ++ List.replicate j 0) ∧ v = .slice A5 t.length c5 ∧ Aside0 (Kd.R B 5 wz wb.heap.size (fun _ => True) (.slice A5 t.length c5) t) ∧ Aside0 (Below wb.heap.size wb wz)) (fun v _ => 200 - slLen v)
      case atStart => exact ⟨0, t0, A5, c5, Nat.zero_le _, ⟨ht0.out⟩, ⟨by simp⟩, rfl, HO3, HB3⟩
      case round =>
        clear HO3 HB3 ht0
        obtain ⟨j, t, A5, c5, hj, htl, HTE, rfl, HO, HB⟩ := hrel
        by_cases hlt : j < Z
        · have hm := HZ3.out j hlt
          rw [← htl.out] at hm
          have hn63 : t.length ≤ 199 := by have := htl.out; omega
          have e1 : (((t.length : Nat) : Int) % 64 == 56) = false := by simp; omega
          have HT2 := Aside0.mk (show t ++ [0] = t0 ++ List.replicate (j + 1) 0 by rw [HTE.out, List.append_assoc, List.replicate_succ'])
          have htl2 : (t ++ [0]).length = r.length + 1 + (j + 1) := by have := htl.out; simp; omega
          have hts : (t ++ [0]).length = t.length + 1 := by simp
          replace htl2 := Aside0.mk htl2
          clear hm
          go_wp2_with (first | ((with_reducible refine gate_builtin (b := .append) (xs := #[.tmp 28, .tmp 29]) rfl ?_); at_builtin; refine Kd.R_append_rows B (w0 := wb) wb.heap.size rfl (.tmp 28) (.tmp 29) 30 5 (.int .u8 0) 1 rfl Tryd.underlying30 info5 rfl (by decide) (by omega) _ (t) ([0]) _ _ _ (fun _ => True) (fun _ => False) rfl rfl (by (with_reducible repeat (first | apply Kd.R_alloc | apply Kd.R_drewN | apply Kd.R_drew)); exact HO.out) (C_one wr 0 _) (fun _ _ h => h) (fun _ h => h.elim) (fun _ _ => trivial) (HB.out.alloc HB.out.size _) (HB.out.alloc HB.out.size _).size ?aL ?_; (case aL => have := htl.out; simp; omega); intro v2 w6 ho hb2 hg hat; have HO2 := Aside0.mk ho; have HB2 := Aside0.mk hb2; clear ho hb2 hg hat))
          generalize t ++ [0] = t2 at *
          obtain ⟨A6, c6, rfl, hc6, hr6⟩ := Kd.R_reads HO2.out
          clear hr6
          go_roundw
          case rel => exact ⟨j + 1, t2, A6, c6, by omega, htl2, HT2, rfl, HO2, HB2⟩
          case measure => simp [slLen]; omega
        · obtain rfl : j = Z := by omega
          have e1 : (((t.length : Nat) : Int) % 64 == 56) = true := by rw [htl.out]; simp; omega
          have e2 : (((t.length : Nat) : Int) % 64 != 56) = false := by simp only [bne, e1, Bool.not_true]
          have htb : t.length ≤ 128 := by have := htl.out; omega
          have HTM := Aside0.mk (show (t.length + 8) % 64 = 0 by have := htl.out; omega)
          replace HTL := Aside0.mk (show tailL l = t ++ be8 (l.length * 8) by rw [HTL.out, HTE.out])
          clear HZ3 HTE htl hZ hZ2 hlt hj HT0
          go_wp2
          clear e2
          go_loopw [5, 6] (fun v i wz => ∃ (q : Nat) (t2 : List Int) (A5 : Option Addr) (c5 : Nat), q ≤ 8 ∧ Aside0 (t2.length = t.length + q) ∧ Aside0 (t2 = t ++ (be8 (l.length * 8)).take q) ∧ v = .slice A5 t2.length c5 ∧ i = .int .i64 (56 - 8 * (q : Int)) ∧ Aside0 (Kd.R B 5 wz wb.heap.size (fun _ => True) (.slice A5 t2.length c5) t2) ∧ Aside0 (Below wb.heap.size wb wz)) (fun v _ _ => 200 - slLen v)
          case atStart => exact ⟨0, t, A5, c5, Nat.zero_le _, ⟨rfl⟩, ⟨by simp⟩, rfl, rfl, HO, HB⟩
          case round =>
            clear HO HB e1
            obtain ⟨q, t2, A5, c5, hq, htl, HTE, rfl, rfl, HO, HB⟩ := hrel
            have hn63 : t2.length ≤ 199 := by have := htl.out; omega
            by_cases hlt : q < 8
            · obtain rfl | rfl | rfl | rfl | rfl | rfl | rfl | rfl : q = 0 ∨ q = 1 ∨ q = 2 ∨ q = 3 ∨ q = 4 ∨ q = 5 ∨ q = 6 ∨ q = 7 := by omega
              · rw [show (56 - 8 * ((0 : Nat) : Int)) = 56 from rfl]
                clear hlt hq
                go_wp2_with (first | ((with_reducible refine gate_builtin (b := .append) (xs := #[.tmp 35, .tmp 42]) rfl ?_); at_builtin; refine Kd.R_append_rows B (w0 := wb) wb.heap.size rfl (.tmp 35) (.tmp 42) 30 5 (.int .u8 0) 1 rfl Tryd.underlying30 info5 rfl (by decide) (by omega) _ (t2) ([_]) _ _ _ (fun _ => True) (fun _ => False) rfl rfl (by (with_reducible repeat (first | apply Kd.R_alloc | apply Kd.R_drewN | apply Kd.R_drew)); exact HO.out) (C_one wr _ _) (fun _ _ h => h) (fun _ h => h.elim) (fun _ _ => trivial) (HB.out.alloc HB.out.size _) (HB.out.alloc HB.out.size _).size ?aL ?_; (case aL => simp; omega); intro v2 w6 ho hb2 hg hat; have HO2 := Aside0.mk ho; have HB2 := Aside0.mk hb2; clear ho hb2 hg hat))
                have HT2 := Aside0.mk (be8_step HTE.out (show _ = some ((l.length : Int) * 8 / 72057594037927936 : Int) from congrArg some (show ((l.length * 8 / 72057594037927936 % 256 : Nat) : Int) = (l.length : Int) * 8 / 72057594037927936 by omega)))
                have htl2 := Aside0.mk (show (t2 ++ [((l.length : Int) * 8 / 72057594037927936 : Int)]).length = t.length + 1 by have := htl.out; simp; omega)
                have hts : (t2 ++ [((l.length : Int) * 8 / 72057594037927936 : Int)]).length = t2.length + 1 := by simp
                generalize t2 ++ [((l.length : Int) * 8 / 72057594037927936 : Int)] = t3 at *
                obtain ⟨A6, c6, rfl, hc6, hr6⟩ := Kd.R_reads HO2.out
                clear hr6
                go_roundw
                case rel => exact ⟨1, t3, A6, c6, by omega, htl2, HT2, rfl, rfl, HO2, HB2⟩
                case measure => simp [slLen]; omega
              · rw [show (56 - 8 * ((1 : Nat) : Int)) = 48 from rfl]
                clear hlt hq
                go_wp2_with (first | ((with_reducible refine gate_builtin (b := .append) (xs := #[.tmp 35, .tmp 42]) rfl ?_); at_builtin; refine Kd.R_append_rows B (w0 := wb) wb.heap.size rfl (.tmp 35) (.tmp 42) 30 5 (.int .u8 0) 1 rfl Tryd.underlying30 info5 rfl (by decide) (by omega) _ (t2) ([_]) _ _ _ (fun _ => True) (fun _ => False) rfl rfl (by (with_reducible repeat (first | apply Kd.R_alloc | apply Kd.R_drewN | apply Kd.R_drew)); exact HO.out) (C_one wr _ _) (fun _ _ h => h) (fun _ h => h.elim) (fun _ _ => trivial) (HB.out.alloc HB.out.size _) (HB.out.alloc HB.out.size _).size ?aL ?_; (case aL => simp; omega); intro v2 w6 ho hb2 hg hat; have HO2 := Aside0.mk ho; have HB2 := Aside0.mk hb2; clear ho hb2 hg hat))
                have HT2 := Aside0.mk (be8_step HTE.out (show _ = some ((l.length : Int) * 8 / 281474976710656 % 256 : Int) from congrArg some (show ((l.length * 8 / 281474976710656 % 256 : Nat) : Int) = (l.length : Int) * 8 / 281474976710656 % 256 by omega)))
                have htl2 := Aside0.mk (show (t2 ++ [((l.length : Int) * 8 / 281474976710656 % 256 : Int)]).length = t.length + 2 by have := htl.out; simp; omega)
                have hts : (t2 ++ [((l.length : Int) * 8 / 281474976710656 % 256 : Int)]).length = t2.length + 1 := by simp
                generalize t2 ++ [((l.length : Int) * 8 / 281474976710656 % 256 : Int)] = t3 at *
                obtain ⟨A6, c6, rfl, hc6, hr6⟩ := Kd.R_reads HO2.out
                clear hr6
                go_roundw
                case rel => exact ⟨2, t3, A6, c6, by omega, htl2, HT2, rfl, rfl, HO2, HB2⟩
                case measure => simp [slLen]; omega
              · rw [show (56 - 8 * ((2 : Nat) : Int)) = 40 from rfl]
                clear hlt hq
                go_wp2_with (first | ((with_reducible refine gate_builtin (b := .append) (xs := #[.tmp 35, .tmp 42]) rfl ?_); at_builtin; refine Kd.R_append_rows B (w0 := wb) wb.heap.size rfl (.tmp 35) (.tmp 42) 30 5 (.int .u8 0) 1 rfl Tryd.underlying30 info5 rfl (by decide) (by omega) _ (t2) ([_]) _ _ _ (fun _ => True) (fun _ => False) rfl rfl (by (with_reducible repeat (first | apply Kd.R_alloc | apply Kd.R_drewN | apply Kd.R_drew)); exact HO.out) (C_one wr _ _) (fun _ _ h => h) (fun _ h => h.elim) (fun _ _ => trivial) (HB.out.alloc HB.out.size _) (HB.out.alloc HB.out.size _).size ?aL ?_; (case aL => simp; omega); intro v2 w6 ho hb2 hg hat; have HO2 := Aside0.mk ho; have HB2 := Aside0.mk hb2; clear ho hb2 hg hat))
                have HT2 := Aside0.mk (be8_step HTE.out (show _ = some ((l.length : Int) * 8 / 1099511627776 % 256 : Int) from congrArg some (show ((l.length * 8 / 1099511627776 % 256 : Nat) : Int) = (l.length : Int) * 8 / 1099511627776 % 256 by omega)))
                have htl2 := Aside0.mk (show (t2 ++ [((l.length : Int) * 8 / 1099511627776 % 256 : Int)]).length = t.length + 3 by have := htl.out; simp; omega)
                have hts : (t2 ++ [((l.length : Int) * 8 / 1099511627776 % 256 : Int)]).length = t2.length + 1 := by simp
                generalize t2 ++ [((l.length : Int) * 8 / 1099511627776 % 256 : Int)] = t3 at *
                obtain ⟨A6, c6, rfl, hc6, hr6⟩ := Kd.R_reads HO2.out
                clear hr6
                go_roundw
                case rel => exact ⟨3, t3, A6, c6, by omega, htl2, HT2, rfl, rfl, HO2, HB2⟩
                case measure => simp [slLen]; omega
              · rw [show (56 - 8 * ((3 : Nat) : Int)) = 32 from rfl]
                clear hlt hq
                go_wp2_with (first | ((with_reducible refine gate_builtin (b := .append) (xs := #[.tmp 35, .tmp 42]) rfl ?_); at_builtin; refine Kd.R_append_rows B (w0 := wb) wb.heap.size rfl (.tmp 35) (.tmp 42) 30 5 (.int .u8 0) 1 rfl Tryd.underlying30 info5 rfl (by decide) (by omega) _ (t2) ([_]) _ _ _ (fun _ => True) (fun _ => False) rfl rfl (by (with_reducible repeat (first | apply Kd.R_alloc | apply Kd.R_drewN | apply Kd.R_drew)); exact HO.out) (C_one wr _ _) (fun _ _ h => h) (fun _ h => h.elim) (fun _ _ => trivial) (HB.out.alloc HB.out.size _) (HB.out.alloc HB.out.size _).size ?aL ?_; (case aL => simp; omega); intro v2 w6 ho hb2 hg hat; have HO2 := Aside0.mk ho; have HB2 := Aside0.mk hb2; clear ho hb2 hg hat))
                have HT2 := Aside0.mk (be8_step HTE.out (show _ = some ((l.length : Int) * 8 / 4294967296 % 256 : Int) from congrArg some (show ((l.length * 8 / 4294967296 % 256 : Nat) : Int) = (l.length : Int) * 8 / 4294967296 % 256 by omega)))
                have htl2 := Aside0.mk (show (t2 ++ [((l.length : Int) * 8 / 4294967296 % 256 : Int)]).length = t.length + 4 by have := htl.out; simp; omega)
                have hts : (t2 ++ [((l.length : Int) * 8 / 4294967296 % 256 : Int)]).length = t2.length + 1 := by simp
                generalize t2 ++ [((l.length : Int) * 8 / 4294967296 % 256 : Int)] = t3 at *
                obtain ⟨A6, c6, rfl, hc6, hr6⟩ := Kd.R_reads HO2.out
                clear hr6
                go_roundw
                case rel => exact ⟨4, t3, A6, c6, by omega, htl2, HT2, rfl, rfl, HO2, HB2⟩
                case measure => simp [slLen]; omega
              · rw [show (56 - 8 * ((4 : Nat) : Int)) = 24 from rfl]
                clear hlt hq
                go_wp2_with (first | ((with_reducible refine gate_builtin (b := .append) (xs := #[.tmp 35, .tmp 42]) rfl ?_); at_builtin; refine Kd.R_append_rows B (w0 := wb) wb.heap.size rfl (.tmp 35) (.tmp 42) 30 5 (.int .u8 0) 1 rfl Tryd.underlying30 info5 rfl (by decide) (by omega) _ (t2) ([_]) _ _ _ (fun _ => True) (fun _ => False) rfl rfl (by (with_reducible repeat (first | apply Kd.R_alloc | apply Kd.R_drewN | apply Kd.R_drew)); exact HO.out) (C_one wr _ _) (fun _ _ h => h) (fun _ h => h.elim) (fun _ _ => trivial) (HB.out.alloc HB.out.size _) (HB.out.alloc HB.out.size _).size ?aL ?_; (case aL => simp; omega); intro v2 w6 ho hb2 hg hat; have HO2 := Aside0.mk ho; have HB2 := Aside0.mk hb2; clear ho hb2 hg hat))
                have HT2 := Aside0.mk (be8_step HTE.out (show _ = some ((l.length : Int) * 8 / 16777216 % 256 : Int) from congrArg some (show ((l.length * 8 / 16777216 % 256 : Nat) : Int) = (l.length : Int) * 8 / 16777216 % 256 by omega)))
                have htl2 := Aside0.mk (show (t2 ++ [((l.length : Int) * 8 / 16777216 % 256 : Int)]).length = t.length + 5 by have := htl.out; simp; omega)
                have hts : (t2 ++ [((l.length : Int) * 8 / 16777216 % 256 : Int)]).length = t2.length + 1 := by simp
                generalize t2 ++ [((l.length : Int) * 8 / 16777216 % 256 : Int)] = t3 at *
                obtain ⟨A6, c6, rfl, hc6, hr6⟩ := Kd.R_reads HO2.out
                clear hr6
                go_roundw
                case rel => exact ⟨5, t3, A6, c6, by omega, htl2, HT2, rfl, rfl, HO2, HB2⟩
                case measure => simp [slLen]; omega
              · rw [show (56 - 8 * ((5 : Nat) : Int)) = 16 from rfl]
                clear hlt hq
                go_wp2_with (first | ((with_reducible refine gate_builtin (b := .append) (xs := #[.tmp 35, .tmp 42]) rfl ?_); at_builtin; refine Kd.R_append_rows B (w0 := wb) wb.heap.size rfl (.tmp 35) (.tmp 42) 30 5 (.int .u8 0) 1 rfl Tryd.underlying30 info5 rfl (by decide) (by omega) _ (t2) ([_]) _ _ _ (fun _ => True) (fun _ => False) rfl rfl (by (with_reducible repeat (first | apply Kd.R_alloc | apply Kd.R_drewN | apply Kd.R_drew)); exact HO.out) (C_one wr _ _) (fun _ _ h => h) (fun _ h => h.elim) (fun _ _ => trivial) (HB.out.alloc HB.out.size _) (HB.out.alloc HB.out.size _).size ?aL ?_; (case aL => simp; omega); intro v2 w6 ho hb2 hg hat; have HO2 := Aside0.mk ho; have HB2 := Aside0.mk hb2; clear ho hb2 hg hat))
                have HT2 := Aside0.mk (be8_step HTE.out (show _ = some ((l.length : Int) * 8 / 65536 % 256 : Int) from congrArg some (show ((l.length * 8 / 65536 % 256 : Nat) : Int) = (l.length : Int) * 8 / 65536 % 256 by omega)))
                have htl2 := Aside0.mk (show (t2 ++ [((l.length : Int) * 8 / 65536 % 256 : Int)]).length = t.length + 6 by have := htl.out; simp; omega)
                have hts : (t2 ++ [((l.length : Int) * 8 / 65536 % 256 : Int)]).length = t2.length + 1 := by simp
                generalize t2 ++ [((l.length : Int) * 8 / 65536 % 256 : Int)] = t3 at *
                obtain ⟨A6, c6, rfl, hc6, hr6⟩ := Kd.R_reads HO2.out
                clear hr6
                go_roundw
                case rel => exact ⟨6, t3, A6, c6, by omega, htl2, HT2, rfl, rfl, HO2, HB2⟩
                case measure => simp [slLen]; omega
              · rw [show (56 - 8 * ((6 : Nat) : Int)) = 8 from rfl]
                clear hlt hq
                go_wp2_with (first | ((with_reducible refine gate_builtin (b := .append) (xs := #[.tmp 35, .tmp 42]) rfl ?_); at_builtin; refine Kd.R_append_rows B (w0 := wb) wb.heap.size rfl (.tmp 35) (.tmp 42) 30 5 (.int .u8 0) 1 rfl Tryd.underlying30 info5 rfl (by decide) (by omega) _ (t2) ([_]) _ _ _ (fun _ => True) (fun _ => False) rfl rfl (by (with_reducible repeat (first | apply Kd.R_alloc | apply Kd.R_drewN | apply Kd.R_drew)); exact HO.out) (C_one wr _ _) (fun _ _ h => h) (fun _ h => h.elim) (fun _ _ => trivial) (HB.out.alloc HB.out.size _) (HB.out.alloc HB.out.size _).size ?aL ?_; (case aL => simp; omega); intro v2 w6 ho hb2 hg hat; have HO2 := Aside0.mk ho; have HB2 := Aside0.mk hb2; clear ho hb2 hg hat))
                have HT2 := Aside0.mk (be8_step HTE.out (show _ = some ((l.length : Int) * 8 / 256 % 256 : Int) from congrArg some (show ((l.length * 8 / 256 % 256 : Nat) : Int) = (l.length : Int) * 8 / 256 % 256 by omega)))
                have htl2 := Aside0.mk (show (t2 ++ [((l.length : Int) * 8 / 256 % 256 : Int)]).length = t.length + 7 by have := htl.out; simp; omega)
                have hts : (t2 ++ [((l.length : Int) * 8 / 256 % 256 : Int)]).length = t2.length + 1 := by simp
                generalize t2 ++ [((l.length : Int) * 8 / 256 % 256 : Int)] = t3 at *
                obtain ⟨A6, c6, rfl, hc6, hr6⟩ := Kd.R_reads HO2.out
                clear hr6
                go_roundw
                case rel => exact ⟨7, t3, A6, c6, by omega, htl2, HT2, rfl, rfl, HO2, HB2⟩
                case measure => simp [slLen]; omega
              · rw [show (56 - 8 * ((7 : Nat) : Int)) = 0 from rfl]
                clear hlt hq
                go_wp2_with (first | ((with_reducible refine gate_builtin (b := .append) (xs := #[.tmp 35, .tmp 42]) rfl ?_); at_builtin; refine Kd.R_append_rows B (w0 := wb) wb.heap.size rfl (.tmp 35) (.tmp 42) 30 5 (.int .u8 0) 1 rfl Tryd.underlying30 info5 rfl (by decide) (by omega) _ (t2) ([_]) _ _ _ (fun _ => True) (fun _ => False) rfl rfl (by (with_reducible repeat (first | apply Kd.R_alloc | apply Kd.R_drewN | apply Kd.R_drew)); exact HO.out) (C_one wr _ _) (fun _ _ h => h) (fun _ h => h.elim) (fun _ _ => trivial) (HB.out.alloc HB.out.size _) (HB.out.alloc HB.out.size _).size ?aL ?_; (case aL => simp; omega); intro v2 w6 ho hb2 hg hat; have HO2 := Aside0.mk ho; have HB2 := Aside0.mk hb2; clear ho hb2 hg hat))
                have HT2 := Aside0.mk (be8_step HTE.out (show _ = some ((l.length : Int) * 8 % 256 : Int) from congrArg some (show ((l.length * 8 % 256 : Nat) : Int) = (l.length : Int) * 8 % 256 by omega)))
                have htl2 := Aside0.mk (show (t2 ++ [((l.length : Int) * 8 % 256 : Int)]).length = t.length + 8 by have := htl.out; simp; omega)
                have hts : (t2 ++ [((l.length : Int) * 8 % 256 : Int)]).length = t2.length + 1 := by simp
                generalize t2 ++ [((l.length : Int) * 8 % 256 : Int)] = t3 at *
                obtain ⟨A6, c6, rfl, hc6, hr6⟩ := Kd.R_reads HO2.out
                clear hr6
                go_roundw
                case rel => exact ⟨8, t3, A6, c6, by omega, htl2, HT2, rfl, rfl, HO2, HB2⟩
                case measure => simp [slLen]; omega
            · obtain rfl : q = 8 := by omega
              rw [show (56 - 8 * ((8 : Nat) : Int)) = -8 from rfl]
              have HT := Aside0.mk (show t2 = tailL l by rw [HTE.out, HTL.out]; rfl)
              have htm : t2.length % 64 = 0 := by rw [htl.out]; exact HTM.out
              have HRW := Aside0.mk (Rw.of HO.out)
              have hc9 : t2.length ≤ c5 := by obtain ⟨_, _, e, hh, _⟩ := Kd.R_reads HO.out; injection e with _ _ e3; omega
              have htl9 : t2.length ≤ 300 := by omega
              have HSA := Aside0.mk (HS1.out.below HB.out)
              have hlo := Aside0.mk (show w.heap.size + 1 < wb.heap.size from (Array.getElem?_eq_some_iff.1 HS1.out.s).1)
              have HYT := Aside0.mk (show bytes t2 by rw [HT.out]; exact tailL_bytes HY.out)
              have hhi : wr.heap.size = wr.heap.size := rfl
              generalize h9 : wr.heap.size = hi at HRW
              clear h9 hhi HTE htl HTM HTL hlt hq hn63 htb HB HO HS1
              obtain ⟨T, rfl⟩ : ∃ T, T = t2 := ⟨_, rfl⟩
              go_wp2
              go_loopw [5] (fun v wr => ∃ (k : Nat) (A' : Option Addr) (c' : Nat) (r : List Int), 64 * k ≤ T.length ∧ Aside0 (r = T.drop (64 * k)) ∧ v = .slice A' r.length c' ∧ r.length ≤ c' ∧ Aside0 (∀ W : World, B.C W A5 T.length T → B.C W A' r.length r) ∧ Aside0 (Sm w wr (List.replicate 32 0) (blocksI s T k)) ∧ Aside0 (Rw wr A5 T wb.heap.size hi)) (fun v _ => slLen v)
              case atStart => exact ⟨0, A5, c5, T, Nat.zero_le _, ⟨by simp⟩, rfl, hc9, ⟨fun _ h => h⟩, HSA, HRW⟩
              case round =>
                clear HSA HRW
                obtain ⟨k, A', c', r, hk, HRE, rfl, hc', HRC, HS, HRW⟩ := hrel
                have hrl : r.length = T.length - 64 * k := by rw [HRE.out, List.length_drop]
                have HBK := Aside0.mk (show blocksI s T (k + 1) = blockI (blocksI s T k) r by rw [HRE.out]; rfl)
                generalize hsk : blocksI s T k = s' at HS HBK
                have HSK := Aside0.mk hsk
                clear hsk
                by_cases h64 : 0 < r.length
                · have h64 : 64 ≤ r.length := by omega
                  have hk2 : 64 * (k + 1) ≤ T.length := by omega
                  obtain ⟨A2, c2, hcut, hcc, hc2⟩ := cutB A' c' r 64 h64 hc'
                  replace hcut : ∀ W : World, (Instr.slice 30 (.slice A' r.length c') (some (.int .i64 64)) none none).run Tryd.prog W = .ok (.slice A2 (r.drop 64).length c2) W := hcut
                  have HRE2 := Aside0.mk (show r.drop 64 = T.drop (64 * (k + 1)) by rw [HRE.out, List.drop_drop, Nat.mul_add])
                  have HRC2 := Aside0.mk (show ∀ W : World, B.C W A5 T.length T → B.C W A2 (r.drop 64).length (r.drop 64) from fun W h => hcc W (HRC.out W h))
                  have hrl2 : (r.drop 64).length < r.length := by rw [List.length_drop]; omega
                  have hr300 : r.length ≤ 300 := by omega
                  generalize r.drop 64 = r2 at *
                  clear hrl hk
                  go_wp2_with (first | (refine wpList_load_row rfl 59 (.tmp 3) rfl (w.heap.size + 1) rfl 59 (c8 s') (0, 0) _ HS.out.s Tryd.underlying59 rfl infoS ?_))
                  refine (block_calls s' A' c' r _ (HRC.out _ HRW.out.C) hc' (by rw [HRE.out]; exact bytes_drop HYT.out _) h64 (HTAB.out.below HS.out.b)).mono ?_
                  rintro e w2 ⟨rfl, hb⟩
                  rw [← HBK.out]
                  replace HS := Aside0.mk (HS.out.below hb)
                  replace HRW := Aside0.mk (HRW.out.below hb)
                  clear hb
                  go_wp2_with (first | (refine wpList_store_row rfl 59 (.tmp 3) (.tmp 51) rfl (w.heap.size + 1) (c8 (blocksI s T (k + 1))) rfl rfl 59 _ HS.out.s infoS rfl (c8_one _) ?_))
                  go_roundw
                  case rel => exact ⟨k + 1, A2, c2, r2, hk2, HRE2, rfl, hc2, HRC2, ⟨HS.out.row _⟩, ⟨HRW.out.row _ _ hlo.out⟩⟩
                  case measure => exact hrl2
                · have hr0 : r.length = 0 := by omega
                  have hkq : k = T.length / 64 := by omega
                  subst hkq
                  have HSH := Aside0.mk (show shaI l = outs s' 32 by unfold shaI; rw [HS0.out, ← HT.out, HSK.out])
                  have hrz : (r.length : Int) = 0 := by omega
                  have HSS := Aside0.mk HS.out
                  clear HS HRW HRC HRE HBK hrl hk h64 HS0 HYT HT hlo hc9 htl9 hc' hp2 HRR HSK
                  go_wp2
                  go_loopw [52] (fun i wr => ∃ k : Nat, k ≤ 32 ∧ i = .int .i64 (k : Int) ∧ Aside0 (Sm w wr (outs s' k) s')) (fun i _ => 32 - (intOf i).toNat)
                  case atStart => exact ⟨0, Nat.zero_le _, rfl, HSS⟩
                  case round =>
                    clear HSS
                    obtain ⟨k, hk, rfl, HS⟩ := hrel
                    by_cases hlt : k < 32
                    · have hk32 : (k : Int) < 32 := by omega
                      have HN := Aside0.mk (show outs s' (k + 1) = (outs s' k).set k (byteI s' k) from rfl)
                      have HV := Aside0.mk (show byteI s' k = IntKind.u8.wrap (wd s' (k / 4) / 2 ^ (24 - 8 * (k % 4))) from rfl)
                      generalize byteI s' k = bv at HN HV
                      obtain ⟨q, hq0⟩ : ∃ q, q = k / 4 := ⟨_, rfl⟩
                      obtain ⟨m, hm0⟩ : ∃ m, m = k % 4 := ⟨_, rfl⟩
                      obtain ⟨a, ha0⟩ : ∃ a, a = 24 - 8 * m := ⟨_, rfl⟩
                      rw [← hq0, ← hm0, ← ha0] at HV
                      have hq : (k : Int) / 4 = (q : Int) := by omega
                      have hm : (k : Int) % 4 = (m : Int) := by omega
                      have hm3 : m ≤ 3 := by omega
                      have hq8 : (q : Int) < 8 := by omega
                      have ha : 24 - 8 * (m : Int) = (a : Int) := by omega
                      have hx := (cell_of HS.out.s).2 (c8_wd s' q (by omega))
                      have hd := (cell_of HS.out.d).2 (cb_get (xs := outs s' k) (j := k) (by rw [outs_len]; omega))
                      have hf : wr.frozen? ⟨w.heap.size, k, none⟩ = false := by simp [World.frozen?, HS.out.d]
                      have ha24 : (a : Int) ≤ 32 := by omega
                      have ha1 : a ≤ 32 := by omega
                      generalize wd s' q = v at HV hx
                      generalize rd (outs s' k) (k : Int) = dv at hd
                      clear hq0 hm0 ha0
                      go_wp2
                      go_roundw
                      case rel => exact ⟨k + 1, by omega, by go_num, ⟨by rw [HN.out, HV.out]; exact HS.out.set k _⟩⟩
                      case measure => simp [intOf]; omega
                    · obtain rfl : k = 32 := by omega
                      clear hlt hk
                      rw [← HSH.out] at HS
                      have hi : (Tryd.prog.info? 35).map (·.size) = some (cb (shaI l)).size := by rw [cb_size, shaI_len]; exact infoD
                      generalize hD : shaI l = D at HS hi
                      have HDD := Aside0.mk hD
                      clear hD
                      have HI := Aside0.mk hi
                      clear hi
                      rw [show ((32 : Nat) : Int) = 32 from rfl]
                      go_wp2_with (first | (refine wpList_load_row rfl 35 (.tmp 2) rfl w.heap.size rfl 35 (cb D) (0, 0) _ HS.out.d Tryd.underlying35 rfl HI.out ?_) | (refine wpList_store_row rfl 35 (.tmp 2) (.tmp 68) rfl w.heap.size (cb D) rfl rfl 35 _ HS.out.d HI.out rfl (cb_one _) ?_))
                      have HF := Aside0.mk (setRow_heap _ _ _ (cb D) _ _ HS.out.d)
                      have HB := Aside0.mk (below_setRow HS.out.b (Nat.le_refl _) (cb D))
                      (try simp only [Exit.inBlock, Exit.then])
                      refine bodyPost_ret (results_cell_row rfl _ _ w.heap.size 35 (cb D) (0, 0) _ rfl HF.out Tryd.underlying35 rfl HI.out) rfl ?_
                      exact ⟨by rw [HDD.out], HB.out⟩
end Go.Proofs.YtlojemnmdakfiaaDoor.Sha
end
section
namespace Go.Proofs.YtlojemnmdakfiaaDoor.Sha
open Go.RowKit Go.Proofs.YtlojemnmdakfiaaDoorW.PrintWords Go.Proofs.YtlojemnmdakfiaaDoorW.PrintLast Go.Proofs.YtlojemnmdakfiaaDoorW.PrintMore
set_option linter.unusedVariables false
set_option linter.unusedSimpArgs false
def rowD (xs : List (List Int)) (k : Nat) : List Int := xs.getD k []
def flen (xs : List (List Int)) (k : Nat) : Nat := (xs.take k).flatten.length
theorem row_at {w : World} {A : Option Addr} {n : Nat} {xs : List (List Int)} (h : Kd.C (Kd.slice 5 B) w A n xs) (k : Nat) (hk : k < n) : ∃ ad A0 c0, A = some ad ∧ w.cell? (ad.add k) = some (.slice A0 (rowD xs k).length c0) ∧ (rowD xs k).length ≤ c0 ∧ B.C w A0 (rowD xs k).length (rowD xs k) := by
  obtain ⟨ad, c, e, _, hK, hc0⟩ := Kd.C_get h ([] : List Int) (k : Int) (by omega) (by omega)
  have hc : ∀ j u, c[j]? = some u → w.cell? (ad.add (k * 1 + j)) = some u := hc0
  obtain ⟨A0, c0, rfl, l0, g0⟩ := hK
  simp only [Int.toNat_natCast] at l0 g0 hc
  exact ⟨ad, A0, c0, e, by have hq := hc 0 _ rfl; rwa [Nat.mul_one, Nat.add_zero] at hq, l0, g0⟩
theorem flen_succ (xs : List (List Int)) (k : Nat) (hk : k < xs.length) : flen xs (k + 1) = flen xs k + (rowD xs k).length := by
  unfold flen rowD
  rw [List.take_succ_eq_append_getElem hk, List.flatten_append, List.getD_eq_getElem?_getD, List.getElem?_eq_getElem hk]
  simp
theorem flen_all (xs : List (List Int)) : flen xs xs.length = xs.flatten.length := by unfold flen; rw [List.take_length]
theorem flen_le (xs : List (List Int)) (k : Nat) : flen xs k ≤ flen xs xs.length := by
  rw [flen_all]
  unfold flen
  conv => rhs; rw [← List.take_append_drop k xs, List.flatten_append, List.length_append]
  omega
theorem flat_take (xs : List (List Int)) (k : Nat) (hk : k < xs.length) : (xs.take (k + 1)).flatten = (xs.take k).flatten ++ rowD xs k := by
  unfold rowD
  rw [List.take_succ_eq_append_getElem hk, List.flatten_append, List.getD_eq_getElem?_getD, List.getElem?_eq_getElem hk]
  simp
theorem infoDg (D : List Int) (h : D.length = 32) : (Tryd.prog.info? 35).map (·.size) = some (cb D).size := by rw [cb_size, h]; exact infoD
theorem dg_start (w : World) : ∃ w1, w.alloc (.cells #[.int .u8 0, .int .u8 0, .int .u8 0, .int .u8 0, .int .u8 0, .int .u8 0, .int .u8 0, .int .u8 0, .int .u8 0, .int .u8 0, .int .u8 0, .int .u8 0, .int .u8 0, .int .u8 0, .int .u8 0, .int .u8 0, .int .u8 0, .int .u8 0, .int .u8 0, .int .u8 0, .int .u8 0, .int .u8 0, .int .u8 0, .int .u8 0, .int .u8 0, .int .u8 0, .int .u8 0, .int .u8 0, .int .u8 0, .int .u8 0, .int .u8 0, .int .u8 0] 35) = w1 ∧ Aside0 (Below w.heap.size w w1) ∧ Aside0 (w1.heap[w.heap.size]? = some (.cells (cb (List.replicate 32 0)) 35 (0, 0))) ∧ Aside0 (w1.heap.size = w.heap.size + 1) :=
  ⟨_, rfl, ⟨(Below.refl w.heap.size w).alloc (Nat.le_refl _) _⟩, ⟨heap_new _ _⟩, ⟨by simp⟩⟩
section
variable {P : Program}
theorem dg_ret {fn : Func} {R : Ending → World → Prop} {a : Act} {w : World} {p : Tmp} {g : Nat} {D : List Int} (h : fn.results = #[.cell p 35]) (hp : a.tmps.getD p undef = .pointer (some ⟨g, 0, none⟩)) (hD : D.length = 32)
    (hg : w.heap[g]? = some (.cells (cb D) 35 (0, 0))) (hd : a.defers = []) (hR : R (.returned (vd D)) w) : bodyPost Tryd.prog fn R .ret a w :=
  bodyPost_ret (results_cell_row h _ _ g 35 (cb D) (0, 0) _ hp hg Tryd.underlying35 rfl (infoDg D hD)) hd hR
end
set_option maxHeartbeats 1600000 in
set_option maxRecDepth 100000 in
theorem parts_calls (x : Int) (A0 : Option Addr) (c0 : Nat) (l0 : List (List Int)) (w : World) (hr0 : Kd.C (Kd.slice 5 B) w A0 l0.length l0) (hc0 : l0.length ≤ c0) (hx : 0 ≤ x ∧ x < 256) (hb : bytes l0.flatten) (hL : flen l0 l0.length < 100000000) (hT : Tab w) :
    Calls Tryd.prog 25 #[.int .u8 x, .slice A0 l0.length c0] w fun e w' => e = .returned (vd (shaI (x :: l0.flatten))) ∧ Below w.heap.size w w' := by
  have HR := Aside0.mk hr0
  have HY := Aside0.mk (show bytes (x :: l0.flatten) from fun y hy => by
    rcases List.mem_cons.1 hy with rfl | h
    · exact hx
    · exact hb y h)
  have HTAB := Aside0.mk hT
  have hlen : l0.length ≤ 9223372036854775807 := hr0.2.1
  clear hr0 hb hT hx
  have HSL := Aside0.mk (shaI_len (x :: l0.flatten))
  have HFL := Aside0.mk (show (x :: l0.flatten).length = flen l0 l0.length + 1 by rw [flen_all, List.length_cons])
  generalize hD : shaI (x :: l0.flatten) = D at HSL
  have HDD := Aside0.mk hD
  clear hD
  go_enter Tryd.func25, Tryd.ntmps25
  go_upto_region 1 with (fail)
  obtain ⟨w1, hw1, HB1, HD, HZ1⟩ := dg_start w
  rw [hw1]
  clear hw1
  go_wp2_with (first | ((with_reducible refine gate_dst (N := 9) rfl ?_); refine Kd.R_lit B (w0 := w1) w1.heap.size 5 ?hg (N := 9) ?hd (xs := [x]) (inner := [.int .u8 x]) (ok := fun _ => True) (okp := fun _ => True) ?hr ?hp (fun _ hk => hk) trivial (Below.refl _ _) (Nat.le_refl _) (by simp) ?_; (case hd => rfl); (case hg => rfl); (case hr => first | (go_simp; done) | (go_simp; rfl)); (case hp => exact Reps.one rfl (Reps.none _ _)); intro v1 w2 ho hb1 hg hnew; have HO := Aside0.mk ho; have HB2 := Aside0.mk hb1; clear ho hb1 hg hnew))
  go_loopw [5, 12] (fun v i wr => ∃ k : Nat, k ≤ l0.length ∧ i = .int .i64 (k : Int) ∧ Aside0 (Kd.R B 5 wr w1.heap.size (fun _ => True) v (x :: (l0.take k).flatten)) ∧ Aside0 (Below w1.heap.size w1 wr)) (fun _ i _ => l0.length - (intOf i).toNat)
  case atStart => exact ⟨0, Nat.zero_le _, rfl, HO, HB2⟩
  case round =>
    clear HO HB2
    obtain ⟨k, hk, rfl, HO, HB⟩ := hrel
    by_cases hlt : k < l0.length
    · obtain ⟨ad, A1, c1, rfl, hx0, hc1, hr1⟩ := row_at (Kd.C_below HR.out (below_step HB1.out HB.out)) k hlt
      have hq : flen l0 k + (rowD l0 k).length ≤ flen l0 l0.length := by rw [← flen_succ l0 k hlt]; exact flen_le l0 (k + 1)
      have HF := Aside0.mk (show x :: (l0.take k).flatten ++ rowD l0 k = x :: (l0.take (k + 1)).flatten by rw [flat_take l0 k hlt]; rfl)
      have HR1 := Aside0.mk hr1
      have hm : (x :: (l0.take k).flatten).length = flen l0 k + 1 := by simp [flen]
      have hm1 : flen l0 k + (rowD l0 k).length < 100000000 := by omega
      have HM := Aside0.mk hm
      have hn63 : (rowD l0 k).length ≤ 9223372036854775807 := by omega
      clear hr1 hq hm
      generalize x :: (l0.take k).flatten = t at HO HF HM
      go_wp2_with (first | ((with_reducible refine gate_builtin (b := .append) (xs := #[.tmp 16, .tmp 17]) rfl ?_); at_builtin; refine Kd.R_append_rows B (w0 := w1) w1.heap.size rfl (.tmp 16) (.tmp 17) 30 5 (.int .u8 0) 1 rfl Tryd.underlying30 info5 rfl (by decide) (by omega) _ (t) (rowD l0 k) _ _ _ (fun _ => True) (fun _ => False) rfl rfl HO.out (HR1.out) (fun _ _ h => h) (fun _ h => h.elim) (fun _ _ => trivial) HB.out HB.out.size ?aL ?_; (case aL => rw [HM.out]; omega); intro v2 w6 ho hb2 hg hat; rw [HF.out] at ho; have HO2 := Aside0.mk ho; have HB2 := Aside0.mk hb2; clear ho hb2 hg hat))
      go_roundw
      case rel => exact ⟨k + 1, by omega, by go_num, HO2, HB2⟩
      case measure => simp [intOf]; omega
    · obtain rfl : k = l0.length := by omega
      rw [List.take_length] at HO
      obtain ⟨A5, c5, rfl, hc5, hr5⟩ := Kd.R_reads HO.out
      have HR5 := Aside0.mk hr5
      have hfl := HFL.out
      have hl9 : (x :: l0.flatten).length < 1152921504606846976 := by omega
      clear hr5 hlt hk HO hfl
      generalize x :: l0.flatten = t at *
      go_wp2_with fail
      refine (sum_calls A5 c5 t _ HR5.out hc5 HY.out (HTAB.out.below (below_step HB1.out HB.out)) hl9).mono ?_
      rintro e w5 ⟨rfl, hb⟩
      have HD2 := Aside0.mk (heap_keep (heap_keep HD.out HB.out) hb)
      have HB3 := Aside0.mk (below_step (below_step HB1.out HB.out) hb)
      clear hb
      rw [HDD.out]
      go_wp2_with (first | (refine wpList_store_row rfl 35 (.tmp 4) (.tmp 21) rfl w.heap.size (cb D) rfl rfl 35 _ HD2.out (infoDg _ HSL.out) (by rw [cb_size, cb_size, HSL.out]; simp) (cb_one _) ?_))
      (try simp only [Exit.inBlock, Exit.then])
      exact dg_ret rfl rfl HSL.out (setRow_heap _ _ _ _ _ _ HD2.out) rfl ⟨rfl, below_setRow HB3.out (Nat.le_refl _) _⟩
end Go.Proofs.YtlojemnmdakfiaaDoor.Sha
end
section
namespace Go.Proofs.YtlojemnmdakfiaaDoor.Sha
open Go.RowKit Go.Proofs.YtlojemnmdakfiaaDoorW.PrintWords Go.Proofs.YtlojemnmdakfiaaDoorW.PrintLast Go.Proofs.YtlojemnmdakfiaaDoorW.PrintMore
set_option linter.unusedVariables false
set_option linter.unusedSimpArgs false
def eights (n : Nat) : Nat → List Int
  | 0 => List.replicate 8 0
  | k + 1 => (eights n k).set k ((n : Int) / 2 ^ (56 - 8 * k) % 256)
theorem eights_len (n k : Nat) : (eights n k).length = 8 := by
  induction k with
  | zero => simp [eights]
  | succ k ih => simp [eights, ih]
theorem div_cast (n a : Nat) : (n : Int) / 2 ^ a % 256 = ((n / 2 ^ a % 256 : Nat) : Int) := by rw [Int.natCast_emod, Int.natCast_ediv, Int.natCast_pow]; rfl
theorem eights_all (n : Nat) : eights n 8 = be8 n := by
  simp only [eights, div_cast, be8, List.replicate, List.set_cons_zero, List.set_cons_succ]
  simp
structure E8 (w0 w : World) (d : List Int) : Prop where
  d : w.heap[w0.heap.size]? = some (.cells (cb d) 113 (0, 0))
  b : Below w0.heap.size w0 w
theorem E8.set {w0 w : World} {d : List Int} (h : E8 w0 w d) (j : Nat) (x : Int) : E8 w0 (w.setCell ⟨w0.heap.size, j, none⟩ (.int .u8 x)) (d.set j x) :=
  ⟨by rw [← cb_set]; exact blk_set h.d j _, h.b.setCell (p := ⟨w0.heap.size, j, none⟩) (Nat.le_refl _) _⟩
theorem C_cb {w : World} {g : Nat} {D : List Int} {t : TypeId} (h : w.heap[g]? = some (.cells (cb D) t (0, 0))) (hl : D.length ≤ 9223372036854775807) : B.C w (some ⟨g, 0, none⟩) D.length D :=
  C_block .u8 h D (fun j x hj => by
    have hlt := (List.getElem?_eq_some_iff.1 hj).1
    rw [Nat.zero_add, cb_get hlt]
    unfold rd
    rw [Int.toNat_natCast, List.getD_eq_getElem?_getD, hj]
    rfl) hl
set_option maxHeartbeats 1600000 in
set_option maxRecDepth 100000 in
theorem eight_calls (n : Nat) (w : World) (hn : n < 9223372036854775808) :
    Calls Tryd.prog 73 #[.int .i64 n] w fun e w' => e = .returned (.slice (some ⟨w.heap.size, 0, none⟩) 8 8) ∧ B.C w' (some ⟨w.heap.size, 0, none⟩) 8 (be8 n) ∧ Below w.heap.size w w' := by
  go_enter Tryd.func73, Tryd.ntmps73
  go_wp2
  go_loopw [5] (fun i wr => ∃ k : Nat, k ≤ 8 ∧ i = .int .i64 (k : Int) ∧ Aside0 (E8 w wr (eights n k))) (fun i _ => 8 - (intOf i).toNat)
  case atStart => exact ⟨0, Nat.zero_le _, rfl, ⟨heap_new _ _, (Below.refl w.heap.size w).alloc (Nat.le_refl _) _⟩⟩
  case round =>
    obtain ⟨k, hk, rfl, HS⟩ := hrel
    by_cases hlt : k < 8
    · have hk8 : (k : Int) < 8 := by omega
      have HN := Aside0.mk (show eights n (k + 1) = (eights n k).set k ((n : Int) / 2 ^ (56 - 8 * k) % 256) from rfl)
      obtain ⟨a, ha0⟩ : ∃ a, a = 56 - 8 * k := ⟨_, rfl⟩
      rw [← ha0] at HN
      have ha : 56 - 8 * (k : Int) = (a : Int) := by omega
      have ha1 : a ≤ 64 := by omega
      have hd := (cell_of HS.out.d).2 (cb_get (xs := eights n k) (j := k) (by rw [eights_len]; omega))
      have hf : wr.frozen? ⟨w.heap.size, k, none⟩ = false := by simp [World.frozen?, HS.out.d]
      generalize rd (eights n k) (k : Int) = dv at hd
      clear ha0
      go_wp2
      go_roundw
      case rel => exact ⟨k + 1, by omega, by go_num, ⟨by rw [HN.out]; exact HS.out.set k _⟩⟩
      case measure => simp [intOf]; omega
    · obtain rfl : k = 8 := by omega
      rw [eights_all] at HS
      clear hlt hk
      rw [show ((8 : Nat) : Int) = 8 from rfl]
      go_wp2
      go_ret
      exact ⟨rfl, C_cb HS.out.d (by simp [be8]), HS.out.b⟩
def leafI (i : Nat) (c : List Int) : List Int := shaI (0 :: (be8 i ++ c))
def pairI (a b : List Int) : List Int := shaI (1 :: (a ++ b))
def rootI (n : Nat) (d : List Int) : List Int := shaI (2 :: (be8 n ++ d))
theorem two_rows {w : World} {g : Nat} {A B' : Option Addr} {ca cb' : Nat} {a b : List Int} {t : TypeId} (h : w.heap[g]? = some (.cells #[.slice A a.length ca, .slice B' b.length cb'] t (0, 0))) (ha : B.C w A a.length a) (hca : a.length ≤ ca) (hb : B.C w B' b.length b) (hcb : b.length ≤ cb') :
    Kd.C (Kd.slice 5 B) w (some ⟨g, 0, none⟩) 2 [a, b] := by
  refine C_rows_block _ h [a, b] (fun j x hj => ?_) (by simp)
  rcases j with _ | _ | j
  · obtain rfl : a = x := by simpa using hj
    exact ⟨A, ca, rfl, hca, ha⟩
  · obtain rfl : b = x := by simpa using hj
    exact ⟨B', cb', rfl, hcb, hb⟩
  · simp at hj
theorem flen2 (a b : List Int) : flen [a, b] [a, b].length = a.length + b.length := by simp [flen]
theorem flat2 (a b : List Int) : [a, b].flatten = a ++ b := by simp
set_option maxHeartbeats 1600000 in
set_option maxRecDepth 100000 in
theorem leaf_calls (i : Nat) (A : Option Addr) (c : Nat) (l : List Int) (w : World) (hr : B.C w A l.length l) (hc : l.length ≤ c) (hb : bytes l) (hi : i < 9223372036854775808) (hl : l.length < 10000000) (hT : Tab w) :
    Calls Tryd.prog 71 #[.int .i64 i, .slice A l.length c] w fun e w' => e = .returned (vd (leafI i l)) ∧ Below w.heap.size w w' := by
  have HR := Aside0.mk hr
  have HY := Aside0.mk (bytes_app (be8_bytes i) hb)
  have HTAB := Aside0.mk hT
  clear hr hb hT
  have HSL := Aside0.mk (shaI_len (0 :: (be8 i ++ l)))
  generalize hD : leafI i l = D
  have HDD := Aside0.mk hD
  clear hD
  go_enter Tryd.func71, Tryd.ntmps71
  go_upto_region 1 with (fail)
  obtain ⟨w1, hw1, HB1, HD, HZ1⟩ := dg_start w
  rw [hw1]
  clear hw1
  go_wp2_with fail
  refine (eight_calls i _ hi).mono ?_
  rintro e w2 ⟨rfl, h8, hb⟩
  replace HD := Aside0.mk (heap_keep HD.out hb)
  have HB2 := Aside0.mk (below_step HB1.out hb)
  have H8 := Aside0.mk h8
  clear hb h8
  generalize (some ⟨w1.heap.size, 0, none⟩ : Option Addr) = A8 at H8 ⊢
  go_wp2_with fail
  refine (parts_calls 0 _ 2 [be8 i, l] _ (two_rows (heap_new _ _) (Kd.C_alloc H8.out _) (Nat.le_refl 8) (Kd.C_alloc (Kd.C_below HR.out HB2.out) _) hc) (Nat.le_refl 2) (by omega) (by rw [flat2]; exact HY.out) (by rw [flen2]; simp [be8]; omega) (HTAB.out.below (HB2.out.alloc HB2.out.size _))).mono ?_
  rintro e w3 ⟨rfl, hb⟩
  rw [flat2, show shaI (0 :: (be8 i ++ l)) = D from HDD.out]
  rw [show shaI (0 :: (be8 i ++ l)) = D from HDD.out] at HSL
  have HD2 := Aside0.mk (heap_keep (heap_keep HD.out ((Below.refl _ _).alloc (Nat.le_refl _) _)) hb)
  have HB3 := Aside0.mk (below_step (HB2.out.alloc HB2.out.size _) hb)
  clear hb
  go_wp2_with (first | (refine wpList_store_row rfl 35 (.tmp 4) (.tmp 9) rfl w.heap.size (cb D) rfl rfl 35 _ HD2.out (infoDg _ HSL.out) (by rw [cb_size, cb_size, HSL.out]; simp) (cb_one _) ?_))
  (try simp only [Exit.inBlock, Exit.then])
  exact dg_ret rfl rfl HSL.out (setRow_heap _ _ _ _ _ _ HD2.out) rfl ⟨rfl, below_setRow HB3.out (Nat.le_refl _) _⟩
end Go.Proofs.YtlojemnmdakfiaaDoor.Sha
end
section
namespace Go.Proofs.YtlojemnmdakfiaaDoor.Sha
open Go.RowKit Go.Proofs.YtlojemnmdakfiaaDoorW.PrintWords Go.Proofs.YtlojemnmdakfiaaDoorW.PrintLast Go.Proofs.YtlojemnmdakfiaaDoorW.PrintMore
set_option linter.unusedVariables false
set_option linter.unusedSimpArgs false
def pair_T1 : Bool × List (List Nat × List Nat) := (true, [([], []), ([], []), ([0, 1], [0, 1]), ([2], [2]), ([3, 3, 0, 1, 2, 3], [3])])
def pair_B1 : List Nat := [0, 0, 3, 7, 15]
theorem pair_tab1 : rtab .any (opsOf Tryd.f72 1) = pair_T1 := by kernel_rfl
theorem pair_bits1 : waitsOk pair_T1.2 pair_B1 = true := by kernel_rfl
def root_T1 : Bool × List (List Nat × List Nat) := (true, [([], []), ([0], [0]), ([], []), ([1, 2], [1, 2]), ([3, 1], [3]), ([4, 4, 0, 1, 2, 3, 4], [4])])
def root_B1 : List Nat := [0, 1, 0, 7, 15, 31]
theorem root_tab1 : rtab .any (opsOf Tryd.f59 1) = root_T1 := by kernel_rfl
theorem root_bits1 : waitsOk root_T1.2 root_B1 = true := by kernel_rfl
section
variable {P : Program} {ops : Array Oper} {o : Oper} {a : Act} {Q : Exit → Act → World → Prop} {Kc : Act → World → Prop}
theorem storeRow_step {w : World} (hw : Region.wanted o (yielded ops a.tmps) = true) (ty : TypeId) (x y : Operand) (ho : o.op = .store ty x y)
    (g : Nat) (cells : Array Value) (hx : a.eval x = .pointer (some ⟨g, 0, none⟩)) (hy : a.eval y = .agg cells)
    (t : TypeId) (old : Array Value) (hg : w.heap[g]? = some (.cells old t (0, 0))) (hi : (P.info? ty).map (·.size) = some cells.size)
    (hold : old.size = cells.size) (h1 : cells.all (·.oneCell') = true)
    (h : Kc (a.put o.dst undef) (w.setRow g cells)) : if Region.wanted o (yielded ops a.tmps) = true then Oper.wp P o a w Kc Q else Kc (a.put o.dst undef) w := by
  rw [if_pos hw]
  exact wp_store_row ty x y ho g cells hx hy t old hg hi hold h1 h
theorem loadRow_take {w : World} (ty : TypeId) (g : Nat) (t : TypeId) (cs : Array Value) (d : TypeDesc) (hg : w.heap[g]? = some (.cells cs t (0, 0)))
    (hu : P.underlying ty = some d) (hd : (match d with | .struct _ | .array _ _ => true | _ => false) = true) (hi : (P.info? ty).map (·.size) = some cs.size) :
    (Instr.loadAt ty (.pointer (some ⟨g, 0, none⟩))).run P w = .ok (.agg cs) w := by
  simp only [Instr.loadAt, Instr.sureAddr, Sem.run_bind, Sem.run_pure, Result.andThen_ok, run_loadVar_row w g t ty cs (0, 0) d hg hu hd hi]
end
set_option maxHeartbeats 1600000 in
set_option maxRecDepth 100000 in
theorem pair_calls (a b : List Int) (w : World) (ha : a.length = 32) (hb : b.length = 32) (hya : bytes a) (hyb : bytes b) (hT : Tab w) :
    Calls Tryd.prog 72 #[vd a, vd b] w fun e w' => e = .returned (vd (pairI a b)) ∧ Below w.heap.size w w' := by
  have HY := Aside0.mk (bytes_app hya hyb)
  have HTAB := Aside0.mk hT
  have HSL := Aside0.mk (shaI_len (1 :: (a ++ b)))
  have HLA := Aside0.mk ha
  have HLB := Aside0.mk hb
  clear hT hya hyb ha hb
  generalize hD : pairI a b = D
  have HDD := Aside0.mk hD
  clear hD
  rw [show shaI (1 :: (a ++ b)) = D from HDD.out] at HSL
  go_enter Tryd.func72, Tryd.ntmps72
  go_upto_region 1 with (fail)
  obtain ⟨w1, hw1, HA1, HA2, HD, HB1, hz1⟩ : ∃ w1, ((w.alloc (.cells (cb a) 35)).alloc (.cells (cb b) 35)).alloc (.cells #[.int .u8 0, .int .u8 0, .int .u8 0, .int .u8 0, .int .u8 0, .int .u8 0, .int .u8 0, .int .u8 0, .int .u8 0, .int .u8 0, .int .u8 0, .int .u8 0, .int .u8 0, .int .u8 0, .int .u8 0, .int .u8 0, .int .u8 0, .int .u8 0, .int .u8 0, .int .u8 0, .int .u8 0, .int .u8 0, .int .u8 0, .int .u8 0, .int .u8 0, .int .u8 0, .int .u8 0, .int .u8 0, .int .u8 0, .int .u8 0, .int .u8 0, .int .u8 0] 35) = w1 ∧ Aside0 (w1.heap[w.heap.size]? = some (.cells (cb a) 35 (0, 0))) ∧ Aside0 (w1.heap[w.heap.size + 1]? = some (.cells (cb b) 35 (0, 0))) ∧ Aside0 (w1.heap[w.heap.size + 1 + 1]? = some (.cells (cb (List.replicate 32 0)) 35 (0, 0))) ∧ Aside0 (Below w.heap.size w w1) ∧ Aside0 (w1.heap.size = w.heap.size + 1 + 1 + 1) :=
    ⟨_, rfl, ⟨by rw [Below.heap_alloc _ _ _ (by simp; omega), Below.heap_alloc _ _ _ (by simp)]; exact heap_new _ _⟩, ⟨by rw [Below.heap_alloc _ _ _ (by simp)]; exact heap_new' _ _ _ (by simp)⟩, ⟨heap_new' _ _ _ (by simp)⟩, ⟨(((Below.refl w.heap.size w).alloc (Nat.le_refl _) _).alloc (by simp) _).alloc (by simp; omega) _⟩, ⟨by simp⟩⟩
  rw [hw1]
  clear hw1
  obtain ⟨W, hW, HC, HB2, HT2, HD1⟩ : ∃ W, (w1.alloc (.cells #[.slice (some ⟨w.heap.size, 0, none⟩) 32 32, .slice (some ⟨w.heap.size + 1, 0, none⟩) 32 32] 30)).drew = W ∧ Aside0 (Kd.C (Kd.slice 5 B) W (some ⟨w1.heap.size, 0, none⟩) 2 [a, b]) ∧ Aside0 (Below w.heap.size w W) ∧ Aside0 (Tab W) ∧ Aside0 (W.heap[w.heap.size + 1 + 1]? = some (.cells (cb (List.replicate 32 0)) 35 (0, 0))) := by
    have hb := HB1.out.alloc HB1.out.size (.cells #[.slice (some ⟨w.heap.size, 0, none⟩) 32 32, .slice (some ⟨w.heap.size + 1, 0, none⟩) 32 32] 30)
    have hl1 := HLA.out
    have hl2 := HLB.out
    refine ⟨_, rfl, ⟨?_⟩, ⟨below_drew1 hb⟩, ⟨HTAB.out.below (below_drew1 hb)⟩, ⟨?_⟩⟩
    · refine Kd.C_drew (two_rows (A := some ⟨w.heap.size, 0, none⟩) (B' := some ⟨w.heap.size + 1, 0, none⟩) (ca := 32) (cb' := 32) (by rw [hl1, hl2]; exact heap_new _ _) (Kd.C_alloc (C_cb HA1.out (by omega)) _) (by omega) (Kd.C_alloc (C_cb HA2.out (by omega)) _) (by omega))
    · show (w1.alloc _).heap[w.heap.size + 1 + 1]? = _
      rw [Below.heap_alloc _ _ _ (by have := hz1.out; omega)]
      exact HD.out
  refine start_ (n := 5) (S := fun w' => True) (ds := []) #[false, false, false, false, false] (by kernel_rfl) rfl rfl trivial (fun hHeld => ?_)
  refine with_tabW pair_tab1 pair_bits1 (fun HT_ HW_ => ?_)
  refine pure_ (i := 0) (N := some 5) (v := ?_) (a' := ?_) #[true, false, false, false, false] rfl rfl (any_of HT_.out (by kernel_rfl)) (fun _ _ _ h => h) (Or.inl ⟨by rfl, ?_⟩) ?_ ?_
  rotate_left
  · intro w'
    go_simp
    with_reducible rfl
  rotate_left
  · simp only [Act.put, List.setIfInBounds_toArray, List.set_cons_zero, List.set_cons_succ, i64_w, i32_w]
    rfl
  refine pure_ (i := 1) (N := some 6) (v := ?_) (a' := ?_) #[true, true, false, false, false] rfl rfl (any_of HT_.out (by kernel_rfl)) (fun _ _ _ h => h) (Or.inl ⟨by rfl, ?_⟩) ?_ ?_
  rotate_left
  · intro w'
    go_simp
    with_reducible rfl
  rotate_left
  · simp only [Act.put, List.setIfInBounds_toArray, List.set_cons_zero, List.set_cons_succ, i64_w, i32_w]
    rfl
  refine one_ (i := 2) (N := some 7) #[true, true, true, false, false] rfl rfl (one_of HT_.out (by kernel_rfl)) (by decide) (fun K hK => ?_)
  go_simp
  refine hK.out _ _ trivial (fun hHeld => ?_)
  clear hK K
  refine norm_ (a' := ?_) ?_ ?_
  rotate_left
  · first
    | (show Act.put _ (some 7) _ = _; simp only [Act.put, List.setIfInBounds_toArray, List.set_cons_zero, List.set_cons_succ, i64_w, i32_w]; rfl)
    | rfl
  refine one_ (i := 3) (N := some 8) #[true, true, true, true, false] rfl rfl (one_of HT_.out (by kernel_rfl)) (by decide) (fun K hK => ?_)
  refine goes_ Tryd.func25 (by kernel_rfl) rfl #[.int .u8 1, .slice (some ⟨w1.heap.size, 0, none⟩) 2 2] (by rfl) rfl rfl (by (try simp only [List.map_toArray, List.map_cons, List.map_nil]); first | done | rfl) ?_
  refine (parts_calls 1 _ 2 [a, b] _ HC.out (Nat.le_refl 2) (by omega) (by rw [flat2]; exact HY.out) (by rw [flen2, HLA.out, HLB.out]; omega) HT2.out).mono ?_
  rintro e w3 ⟨rfl, hb⟩
  refine ⟨_, rfl, ?_⟩
  rw [flat2, show shaI (1 :: (a ++ b)) = D from HDD.out]
  have HD2 := Aside0.mk (heap_keep HD1.out hb)
  have HB3 := Aside0.mk (below_step HB2.out hb)
  clear hb
  refine hK.out _ _ trivial (fun hHeld => ?_)
  clear hK K
  refine norm_ (a' := ?_) ?_ ?_
  rotate_left
  · first
    | (show Act.put _ (some 8) _ = _; simp only [Act.put, List.setIfInBounds_toArray, List.set_cons_zero, List.set_cons_succ, i64_w, i32_w]; rfl)
    | rfl
  refine one_ (i := 4) (N := none) #[true, true, true, true, true] rfl rfl (one_of HT_.out (by kernel_rfl)) (by decide) (fun K hK => ?_)
  refine storeRow_step (by rfl) 35 (.tmp 4) (.tmp 8) rfl (w.heap.size + 1 + 1) (cb D) rfl rfl 35 _ HD2.out (infoDg _ HSL.out) (by rw [cb_size, cb_size, HSL.out]; simp) (cb_one _) ?_
  refine hK.out _ _ trivial (fun hHeld => ?_)
  clear hK K
  refine norm_ (a' := ?_) ?_ ?_
  rotate_left
  · first
    | (show Act.put _ none _ = _; simp only [Act.put, List.setIfInBounds_toArray, List.set_cons_zero, List.set_cons_succ, i64_w, i32_w]; rfl)
    | rfl
  refine done_ (done_of HT_.out (by kernel_rfl)) ?_
  clear hHeld HT_ HW_
  go_wp2
  (try simp only [Exit.inBlock, Exit.then])
  exact dg_ret rfl rfl HSL.out (setRow_heap _ _ _ _ _ _ HD2.out) rfl ⟨rfl, below_setRow HB3.out (by omega) _⟩
set_option maxHeartbeats 1600000 in
set_option maxRecDepth 100000 in
theorem root_calls (n : Nat) (d : List Int) (w : World) (hn : n < 9223372036854775808) (hd : d.length = 32) (hyd : bytes d) (hT : Tab w) :
    Calls Tryd.prog 59 #[.int .i64 n, vd d] w fun e w' => e = .returned (vd (rootI n d)) ∧ Below w.heap.size w w' := by
  have HY := Aside0.mk (bytes_app (be8_bytes n) hyd)
  have HTAB := Aside0.mk hT
  have HSL := Aside0.mk (shaI_len (2 :: (be8 n ++ d)))
  have HLB := Aside0.mk hd
  clear hT hyd hd
  generalize hD : rootI n d = D
  have HDD := Aside0.mk hD
  clear hD
  rw [show shaI (2 :: (be8 n ++ d)) = D from HDD.out] at HSL
  go_enter Tryd.func59, Tryd.ntmps59
  go_upto_region 1 with (fail)
  obtain ⟨w1, hw1, HA1, HD, HB1, hz1⟩ : ∃ w1, (w.alloc (.cells (cb d) 35)).alloc (.cells #[.int .u8 0, .int .u8 0, .int .u8 0, .int .u8 0, .int .u8 0, .int .u8 0, .int .u8 0, .int .u8 0, .int .u8 0, .int .u8 0, .int .u8 0, .int .u8 0, .int .u8 0, .int .u8 0, .int .u8 0, .int .u8 0, .int .u8 0, .int .u8 0, .int .u8 0, .int .u8 0, .int .u8 0, .int .u8 0, .int .u8 0, .int .u8 0, .int .u8 0, .int .u8 0, .int .u8 0, .int .u8 0, .int .u8 0, .int .u8 0, .int .u8 0, .int .u8 0] 35) = w1 ∧ Aside0 (w1.heap[w.heap.size]? = some (.cells (cb d) 35 (0, 0))) ∧ Aside0 (w1.heap[w.heap.size + 1]? = some (.cells (cb (List.replicate 32 0)) 35 (0, 0))) ∧ Aside0 (Below w.heap.size w w1) ∧ Aside0 (w1.heap.size = w.heap.size + 1 + 1) :=
    ⟨_, rfl, ⟨by rw [Below.heap_alloc _ _ _ (by simp)]; exact heap_new _ _⟩, ⟨heap_new' _ _ _ (by simp)⟩, ⟨((Below.refl w.heap.size w).alloc (Nat.le_refl _) _).alloc (by simp) _⟩, ⟨by simp⟩⟩
  rw [hw1]
  clear hw1
  refine start_ (n := 6) (S := fun w' => True) (ds := []) #[false, false, false, false, false, false] (by kernel_rfl) rfl rfl trivial (fun hHeld => ?_)
  refine with_tabW root_tab1 root_bits1 (fun HT_ HW_ => ?_)
  refine pure_ (i := 0) (N := some 5) (v := ?_) (a' := ?_) #[true, false, false, false, false, false] rfl rfl (any_of HT_.out (by kernel_rfl)) (fun _ _ _ h => h) (Or.inl ⟨by rfl, ?_⟩) ?_ ?_
  rotate_left
  · intro w'
    go_simp
    with_reducible rfl
  rotate_left
  · simp only [Act.put, List.setIfInBounds_toArray, List.set_cons_zero, List.set_cons_succ, i64_w, i32_w]
    rfl
  refine pure_ (i := 2) (N := some 7) (v := ?_) (a' := ?_) #[true, false, true, false, false, false] rfl rfl (any_of HT_.out (by kernel_rfl)) (fun _ _ _ h => h) (Or.inl ⟨by rfl, ?_⟩) ?_ ?_
  rotate_left
  · intro w'
    go_simp
    with_reducible rfl
  rotate_left
  · simp only [Act.put, List.setIfInBounds_toArray, List.set_cons_zero, List.set_cons_succ, i64_w, i32_w]
    rfl
  refine one_ (i := 1) (N := some 6) #[true, true, true, false, false, false] rfl rfl (one_of HT_.out (by kernel_rfl)) (by decide) (fun K hK => ?_)
  refine goes_ Tryd.func73 (by kernel_rfl) rfl #[.int .i64 n] (by rfl) rfl rfl (by (try simp only [List.map_toArray, List.map_cons, List.map_nil]); first | done | rfl) ?_
  refine (eight_calls n _ hn).mono ?_
  rintro e w2 ⟨rfl, h8, hb⟩
  refine ⟨_, rfl, ?_⟩
  obtain ⟨W, hW, HC, HB2, HT2, HD1⟩ : ∃ W, (w2.alloc (.cells #[.slice (some ⟨w1.heap.size, 0, none⟩) 8 8, .slice (some ⟨w.heap.size, 0, none⟩) 32 32] 30)) = W ∧ Aside0 (Kd.C (Kd.slice 5 B) W (some ⟨w2.heap.size, 0, none⟩) 2 [be8 n, d]) ∧ Aside0 (Below w.heap.size w W) ∧ Aside0 (Tab W) ∧ Aside0 (W.heap[w.heap.size + 1]? = some (.cells (cb (List.replicate 32 0)) 35 (0, 0))) := by
    have hb1 : Below w1.heap.size w1 w2 := (below_drew1 (Below.refl w1.heap.size w1)).trans hb
    have hb2 := below_step HB1.out hb1
    have hb3 := hb2.alloc hb2.size (.cells #[.slice (some ⟨w1.heap.size, 0, none⟩) 8 8, .slice (some ⟨w.heap.size, 0, none⟩) 32 32] 30)
    have hl2 := HLB.out
    refine ⟨_, rfl, ⟨?_⟩, ⟨hb3⟩, ⟨HTAB.out.below hb3⟩, ⟨?_⟩⟩
    · exact two_rows (A := some ⟨w1.heap.size, 0, none⟩) (B' := some ⟨w.heap.size, 0, none⟩) (ca := 8) (cb' := 32) (by rw [hl2]; exact heap_new _ _) (Kd.C_alloc h8 _) (Nat.le_refl 8) (Kd.C_alloc (C_cb (heap_keep HA1.out hb1) (by omega)) _) (by omega)
    · rw [Below.heap_alloc _ _ _ (by have := hz1.out; have := hb1.size; omega)]
      exact heap_keep HD.out hb1
  clear hb h8
  refine hK.out _ _ trivial (fun hHeld => ?_)
  clear hK K
  refine norm_ (a' := ?_) ?_ ?_
  rotate_left
  · first
    | (show Act.put _ (some 6) _ = _; simp only [Act.put, List.setIfInBounds_toArray, List.set_cons_zero, List.set_cons_succ, i64_w, i32_w]; rfl)
    | rfl
  refine one_ (i := 3) (N := some 8) #[true, true, true, true, false, false] rfl rfl (one_of HT_.out (by kernel_rfl)) (by decide) (fun K hK => ?_)
  go_simp
  refine hK.out _ _ trivial (fun hHeld => ?_)
  clear hK K
  refine norm_ (a' := ?_) ?_ ?_
  rotate_left
  · first
    | (show Act.put _ (some 8) _ = _; simp only [Act.put, List.setIfInBounds_toArray, List.set_cons_zero, List.set_cons_succ, i64_w, i32_w]; rfl)
    | rfl
  refine one_ (i := 4) (N := some 9) #[true, true, true, true, true, false] rfl rfl (one_of HT_.out (by kernel_rfl)) (by decide) (fun K hK => ?_)
  refine goes_ Tryd.func25 (by kernel_rfl) rfl #[.int .u8 2, .slice (some ⟨w2.heap.size, 0, none⟩) 2 2] (by rfl) rfl rfl (by (try simp only [List.map_toArray, List.map_cons, List.map_nil]); first | done | rfl) ?_
  refine (parts_calls 2 _ 2 [be8 n, d] _ HC.out (Nat.le_refl 2) (by omega) (by rw [flat2]; exact HY.out) (by rw [flen2, HLB.out]; simp [be8]) HT2.out).mono ?_
  rintro e w3 ⟨rfl, hb⟩
  refine ⟨_, rfl, ?_⟩
  rw [flat2, show shaI (2 :: (be8 n ++ d)) = D from HDD.out]
  have HD2 := Aside0.mk (heap_keep HD1.out hb)
  have HB3 := Aside0.mk (below_step HB2.out hb)
  clear hb
  refine hK.out _ _ trivial (fun hHeld => ?_)
  clear hK K
  refine norm_ (a' := ?_) ?_ ?_
  rotate_left
  · first
    | (show Act.put _ (some 9) _ = _; simp only [Act.put, List.setIfInBounds_toArray, List.set_cons_zero, List.set_cons_succ, i64_w, i32_w]; rfl)
    | rfl
  refine one_ (i := 5) (N := none) #[true, true, true, true, true, true] rfl rfl (one_of HT_.out (by kernel_rfl)) (by decide) (fun K hK => ?_)
  refine storeRow_step (by rfl) 35 (.tmp 4) (.tmp 9) rfl (w.heap.size + 1) (cb D) rfl rfl 35 _ HD2.out (infoDg _ HSL.out) (by rw [cb_size, cb_size, HSL.out]; simp) (cb_one _) ?_
  refine hK.out _ _ trivial (fun hHeld => ?_)
  clear hK K
  refine norm_ (a' := ?_) ?_ ?_
  rotate_left
  · first
    | (show Act.put _ none _ = _; simp only [Act.put, List.setIfInBounds_toArray, List.set_cons_zero, List.set_cons_succ, i64_w, i32_w]; rfl)
    | rfl
  refine done_ (done_of HT_.out (by kernel_rfl)) ?_
  clear hHeld HT_ HW_
  go_wp2
  (try simp only [Exit.inBlock, Exit.then])
  exact dg_ret rfl rfl HSL.out (setRow_heap _ _ _ _ _ _ HD2.out) rfl ⟨rfl, below_setRow HB3.out (by omega) _⟩
end Go.Proofs.YtlojemnmdakfiaaDoor.Sha
end
section
namespace Go.Proofs.YtlojemnmdakfiaaDoor.Sha
open Go.RowKit Go.Proofs.YtlojemnmdakfiaaDoorW.PrintWords Go.Proofs.YtlojemnmdakfiaaDoorW.PrintLast Go.Proofs.YtlojemnmdakfiaaDoorW.PrintMore
set_option linter.unusedVariables false
set_option linter.unusedSimpArgs false
def countN (n : Nat) : Nat := max 1 (n / 64 + min 1 (n % 64))
set_option maxHeartbeats 800000 in
theorem count_calls (n : Nat) (w : World) (hn : n < 9223372036854775808) : Calls Tryd.prog 69 #[.int .i64 n] w fun e w' => e = .returned (.int .i64 (countN n)) ∧ w' = w := by
  have h1 : ((n / 64 + min 1 (n % 64) : Nat) : Int) = (n : Int) / 64 + min 1 ((n : Int) % 64) := by omega
  have hn1 : n / 64 + min 1 (n % 64) ≤ 9223372036854775807 := by omega
  have HV := Aside0.mk (show ((countN n : Nat) : Int) = max 1 ((n : Int) / 64 + min 1 ((n : Int) % 64)) by unfold countN; omega)
  rw [HV.out]
  clear h1 hn1 HV
  go_enter Tryd.func69, Tryd.ntmps69
  go_wp2
  all_goals go_ret
  all_goals exact ⟨congrArg Ending.returned (ival (by omega)), rfl⟩
theorem clone_calls (A : Option Addr) (c : Nat) (l : List Int) (w : World) (hr : B.C w A l.length l) (hc : l.length ≤ c) (hl : l.length < 10000000) :
    Calls Tryd.prog 76 #[.slice A l.length c] w fun e w' => ∃ v, e = .returned v ∧ Kd.R B 5 w' w.heap.size (fun _ => True) v l ∧ Below w.heap.size w w' := by
  have HR := Aside0.mk hr
  clear hr
  rcases A with _ | ad
  · have h0 : l = [] := by
      rcases Nat.eq_zero_or_pos l.length with h | h
      · exact List.length_eq_zero_iff.1 h
      · obtain ⟨_, e, _⟩ := getB HR.out 0 h
        cases e
    subst h0
    have he := fun w : World => Lib.run_eql_slice_nil (P := Tryd.prog) w 30 5 none 0 c 0 0 Tryd.underlying30
    go_enter Tryd.func76, Tryd.ntmps76
    go_wp2
    go_ret
    exact ⟨_, rfl, Kd.R_nil _ _ _ _ _, Below.refl _ _⟩
  · have he := fun w : World => Lib.run_eql_slice_nil (P := Tryd.prog) w 30 5 (some ad) l.length c 0 0 Tryd.underlying30
    go_enter Tryd.func76, Tryd.ntmps76
    go_wp2_with (first | ((with_reducible refine gate_dst (N := 5) rfl ?_); refine Kd.R_lit B (w0 := w) w.heap.size 5 ?hg (N := 5) ?hd (xs := ([] : List Int)) (inner := []) (ok := fun _ => True) (okp := fun _ => True) ?hr ?hp (fun _ hk => hk) trivial (Below.refl _ _) (Nat.le_refl _) (by simp) ?_; (case hd => rfl); (case hg => rfl); (case hr => first | (go_simp; done) | (go_simp; rfl)); (case hp => exact Reps.none _ _); intro v1 w2 ho hb1 hg hnew; have HO := Aside0.mk ho; have HB := Aside0.mk hb1; clear ho hb1 hg hnew) | ((with_reducible refine gate_builtin (b := .append) (xs := #[.tmp 5, .tmp 6]) rfl ?_); at_builtin; refine Kd.R_append_rows B (w0 := w) w.heap.size rfl (.tmp 5) (.tmp 6) 30 5 (.int .u8 0) 1 rfl Tryd.underlying30 info5 rfl (by decide) (by omega) _ ([]) (l) _ _ _ (fun _ => True) (fun _ => False) rfl rfl HO.out (Kd.C_below HR.out HB.out) (fun _ _ h => h) (fun _ h => h.elim) (fun _ _ => trivial) HB.out HB.out.size ?aL ?_; (case aL => simp; omega); intro v2 w6 ho hb2 hg hat; rw [List.nil_append] at ho; have HO2 := Aside0.mk ho; have HB2 := Aside0.mk hb2; clear ho hb2 hg hat))
    go_ret
    exact ⟨_, rfl, HO2.out, HB2.out⟩
end Go.Proofs.YtlojemnmdakfiaaDoor.Sha
end
section
namespace Go.Proofs.YtlojemnmdakfiaaDoor.Sha
open Go.RowKit Go.Proofs.YtlojemnmdakfiaaDoorW.PrintWords Go.Proofs.YtlojemnmdakfiaaDoorW.PrintLast Go.Proofs.YtlojemnmdakfiaaDoorW.PrintMore
set_option linter.unusedVariables false
set_option linter.unusedSimpArgs false
theorem midB (A : Option Addr) (c : Nat) (l : List Int) (a b : Nat) (hab : a ≤ b) (hb : b ≤ l.length) (hc : l.length ≤ c) :
    ∃ (A' : Option Addr) (c' : Nat), (∀ W : World, (Instr.slice 30 (.slice A l.length c) (some (.int .i64 (a : Int))) (some (.int .i64 (b : Int))) none).run Tryd.prog W = .ok (.slice A' ((l.take b).drop a).length c') W) ∧
      (∀ w : World, B.C w A l.length l → B.C w A' ((l.take b).drop a).length ((l.take b).drop a)) ∧ ((l.take b).drop a).length ≤ c' := by
  obtain ⟨i0, hi, _, hsz, _⟩ := info_parts info5
  obtain ⟨A', h1, h2, h3⟩ := print_mid_of (P := Tryd.prog) (Value.int .u8) 0 30 5 .i64 .i64 Tryd.underlying30 hi hsz A c l (a : Int) (b : Int) (by omega) (by omega) (by omega) hc
  simp only [Int.toNat_natCast] at h1 h2 h3
  exact ⟨A', _, h1, fun w h => Kd.C_of_reads (h1 := fun _ => rfl) (h2 w (Kd.reads_of_C h)), h3⟩
def chunkL (l : List Int) (i : Nat) : List Int := (l.take (min l.length ((i + 1) * 64))).drop (i * 64)
theorem count_lt {n i : Nat} (h : i < countN n) : i * 64 ≤ n := by unfold countN at h; omega
theorem chunk_len {l : List Int} {i : Nat} (h : i < countN l.length) : (chunkL l i).length = min l.length ((i + 1) * 64) - i * 64 := by unfold chunkL; rw [List.length_drop, List.length_take]; omega
theorem chunk_yes (A : Option Addr) (c : Nat) (l : List Int) (i : Nat) (w : World) (hr : B.C w A l.length l) (hc : l.length ≤ c) (hl : l.length < 10000000) (hi : i < countN l.length) :
    Calls Tryd.prog 70 #[.slice A l.length c, .int .i64 (i : Int)] w fun e w' => ∃ v, e = .returned (.tuple #[v, .int .i64 0]) ∧ Kd.R B 5 w' w.heap.size (fun _ => True) v (chunkL l i) ∧ Below w.heap.size w w' := by
  have HR := Aside0.mk hr
  clear hr
  have HC := Aside0.mk (fun w => count_calls l.length w (by omega))
  have e2 : decide ((i : Int) ≥ (countN l.length : Int)) = false := decide_eq_false (by omega)
  have e3 : decide ((countN l.length : Int) ≤ (i : Int)) = false := decide_eq_false (by omega)
  have hi64 := count_lt hi
  obtain ⟨A2, c2, hcut, hcc, hc2⟩ := midB A c l (i * 64) (min l.length ((i + 1) * 64)) (by omega) (by omega) hc
  have HCC := Aside0.mk (hcc w HR.out)
  have hq := chunk_len hi
  have HM := Aside0.mk (show ((min l.length ((i + 1) * 64) : Nat) : Int) = min (l.length : Int) (((i : Int) + 1) * 64) by omega)
  have HQ := Aside0.mk (show chunkL l i = (l.take (min l.length ((i + 1) * 64))).drop (i * 64) from rfl)
  rw [← HQ.out] at hcut hc2 HCC
  have hln : (chunkL l i).length < 10000000 := by omega
  have hz : ((i * 64 : Nat) : Int) = (i : Int) * 64 := by omega
  rw [hz, HM.out] at hcut
  generalize chunkL l i = ch at *
  generalize countN l.length = N at *
  have hi20 : (i : Int) * 64 ≤ 10000000 := by omega
  clear hq hcc HQ HM hz
  by_cases hm : (l.length : Int) ≤ ((i : Int) + 1) * 64
  · rw [Int.min_eq_left hm] at hcut
    have e4 : decide ((l.length : Int) < ((i : Int) + 1) * 64) = decide ((l.length : Int) < ((i : Int) + 1) * 64) := rfl
    have hcut' := Aside0.mk hcut
    go_enter Tryd.func70, Tryd.ntmps70
    go_wp2_with fail
    refine (HC.out _).mono ?_
    rintro e w1 ⟨rfl, rfl⟩
    go_wp2_with fail
    all_goals refine (clone_calls A2 c2 ch _ HCC.out hc2 hln).mono ?_
    all_goals rintro e w2 ⟨v, rfl, ho, hb⟩
    all_goals have HO := Aside0.mk ho
    all_goals have HB := Aside0.mk hb
    all_goals clear ho hb
    all_goals go_wp2
    all_goals go_ret2
    all_goals exact ⟨v, rfl, HO.out, HB.out⟩
  · have hm2 : ((i : Int) + 1) * 64 < (l.length : Int) := by omega
    rw [Int.min_eq_right (by omega)] at hcut
    go_enter Tryd.func70, Tryd.ntmps70
    go_wp2_with fail
    refine (HC.out _).mono ?_
    rintro e w1 ⟨rfl, rfl⟩
    go_wp2_with fail
    all_goals refine (clone_calls A2 c2 ch _ HCC.out hc2 hln).mono ?_
    all_goals rintro e w2 ⟨v, rfl, ho, hb⟩
    all_goals have HO := Aside0.mk ho
    all_goals have HB := Aside0.mk hb
    all_goals clear ho hb
    all_goals go_wp2
    all_goals go_ret2
    all_goals exact ⟨v, rfl, HO.out, HB.out⟩
end Go.Proofs.YtlojemnmdakfiaaDoor.Sha
end
section
namespace Go.Proofs.YtlojemnmdakfiaaDoor.Sha
open Go.RowKit Go.Proofs.YtlojemnmdakfiaaDoorW.PrintWords Go.Proofs.YtlojemnmdakfiaaDoorW.PrintLast Go.Proofs.YtlojemnmdakfiaaDoorW.PrintMore
set_option linter.unusedVariables false
set_option linter.unusedSimpArgs false
abbrev KD : Kd (List Int) := Kd.arr 32 B (by decide)
theorem KD_of {w : World} {base : Nat} {ok : Nat → Prop} {D : List Int} (h : D.length = 32) : KD.M w base ok D (D.map (Value.int .u8)) := Kd.arr_of_cells h
theorem KD_cells {w : World} {D : List Int} {cs : List Value} (h : KD.K w D cs) : D.length = 32 ∧ cs = D.map (Value.int .u8) := Kd.arr_cells h
theorem infoDG : (Tryd.prog.info? 35).map (fun i => (i.zero, i.size, i.bytes)) = some (some (.agg #[.int .u8 0, .int .u8 0, .int .u8 0, .int .u8 0, .int .u8 0, .int .u8 0, .int .u8 0, .int .u8 0, .int .u8 0, .int .u8 0, .int .u8 0, .int .u8 0, .int .u8 0, .int .u8 0, .int .u8 0, .int .u8 0, .int .u8 0, .int .u8 0, .int .u8 0, .int .u8 0, .int .u8 0, .int .u8 0, .int .u8 0, .int .u8 0, .int .u8 0, .int .u8 0, .int .u8 0, .int .u8 0, .int .u8 0, .int .u8 0, .int .u8 0, .int .u8 0]), 32, 32) := by kernel_rfl
theorem u8_rng (x : Int) : 0 ≤ IntKind.u8.wrap x ∧ IntKind.u8.wrap x < 256 := by rw [IntKind.wrap_u8]; omega
theorem outs_bytes (s : S8) (k : Nat) : bytes (outs s k) := by
  induction k with
  | zero => exact bytes_rep 32
  | succ k ih =>
    intro x hx
    rcases List.mem_or_eq_of_mem_set hx with h | rfl
    · exact ih x h
    · exact u8_rng _
theorem shaI_bytes (l : List Int) : bytes (shaI l) := outs_bytes _ _
theorem bytes_take {l : List Int} (h : bytes l) (k : Nat) : bytes (l.take k) := fun x hx => h x (List.mem_of_mem_take hx)
theorem chunk_bytes {l : List Int} (h : bytes l) (i : Nat) : bytes (chunkL l i) := bytes_drop (bytes_take h _) _
theorem exp32 {D : List Int} (h : D.length = 32) : ∃ d0 d1 d2 d3 d4 d5 d6 d7 d8 d9 d10 d11 d12 d13 d14 d15 d16 d17 d18 d19 d20 d21 d22 d23 d24 d25 d26 d27 d28 d29 d30 d31 : Int, D = [d0, d1, d2, d3, d4, d5, d6, d7, d8, d9, d10, d11, d12, d13, d14, d15, d16, d17, d18, d19, d20, d21, d22, d23, d24, d25, d26, d27, d28, d29, d30, d31] := by
  match D, h with
  | [d0, d1, d2, d3, d4, d5, d6, d7, d8, d9, d10, d11, d12, d13, d14, d15, d16, d17, d18, d19, d20, d21, d22, d23, d24, d25, d26, d27, d28, d29, d30, d31], _ => exact ⟨d0, d1, d2, d3, d4, d5, d6, d7, d8, d9, d10, d11, d12, d13, d14, d15, d16, d17, d18, d19, d20, d21, d22, d23, d24, d25, d26, d27, d28, d29, d30, d31, rfl⟩
set_option maxRecDepth 100000 in
theorem fill32 {D : List Int} (h : D.length = 32) : Instr.fill (fun i => some (i * 32, 32)) ((Array.range (1 * 32)).map ((#[.int .u8 0, .int .u8 0, .int .u8 0, .int .u8 0, .int .u8 0, .int .u8 0, .int .u8 0, .int .u8 0, .int .u8 0, .int .u8 0, .int .u8 0, .int .u8 0, .int .u8 0, .int .u8 0, .int .u8 0, .int .u8 0, .int .u8 0, .int .u8 0, .int .u8 0, .int .u8 0, .int .u8 0, .int .u8 0, .int .u8 0, .int .u8 0, .int .u8 0, .int .u8 0, .int .u8 0, .int .u8 0, .int .u8 0, .int .u8 0, .int .u8 0, .int .u8 0] : Array Value)[· % (#[.int .u8 0, .int .u8 0, .int .u8 0, .int .u8 0, .int .u8 0, .int .u8 0, .int .u8 0, .int .u8 0, .int .u8 0, .int .u8 0, .int .u8 0, .int .u8 0, .int .u8 0, .int .u8 0, .int .u8 0, .int .u8 0, .int .u8 0, .int .u8 0, .int .u8 0, .int .u8 0, .int .u8 0, .int .u8 0, .int .u8 0, .int .u8 0, .int .u8 0, .int .u8 0, .int .u8 0, .int .u8 0, .int .u8 0, .int .u8 0, .int .u8 0, .int .u8 0] : Array Value).size]!)) [(0, vd D)] = some (cb D) := by
  obtain ⟨d0, d1, d2, d3, d4, d5, d6, d7, d8, d9, d10, d11, d12, d13, d14, d15, d16, d17, d18, d19, d20, d21, d22, d23, d24, d25, d26, d27, d28, d29, d30, d31, rfl⟩ := exp32 h
  kernel_rfl
theorem run_lit {D : List Int} (h : D.length = 32) (W : World) : (Instr.buildSlice 72 1 #[(0, vd D)]).run Tryd.prog W = .ok (.slice (some ⟨W.heap.size, 0, none⟩) 1 1) (W.alloc (.cells (cb D) 35)) := by
  obtain ⟨ie, hie, hz⟩ := Option.map_eq_some_iff.1 infoDG
  have hz' : ie.zero = some (.agg #[.int .u8 0, .int .u8 0, .int .u8 0, .int .u8 0, .int .u8 0, .int .u8 0, .int .u8 0, .int .u8 0, .int .u8 0, .int .u8 0, .int .u8 0, .int .u8 0, .int .u8 0, .int .u8 0, .int .u8 0, .int .u8 0, .int .u8 0, .int .u8 0, .int .u8 0, .int .u8 0, .int .u8 0, .int .u8 0, .int .u8 0, .int .u8 0, .int .u8 0, .int .u8 0, .int .u8 0, .int .u8 0, .int .u8 0, .int .u8 0, .int .u8 0, .int .u8 0]) ∧ ie.size = 32 ∧ ie.bytes = 32 := by simpa using hz
  refine run_buildSlice W 72 35 1 #[(0, vd D)] (cb D) ie (.agg #[.int .u8 0, .int .u8 0, .int .u8 0, .int .u8 0, .int .u8 0, .int .u8 0, .int .u8 0, .int .u8 0, .int .u8 0, .int .u8 0, .int .u8 0, .int .u8 0, .int .u8 0, .int .u8 0, .int .u8 0, .int .u8 0, .int .u8 0, .int .u8 0, .int .u8 0, .int .u8 0, .int .u8 0, .int .u8 0, .int .u8 0, .int .u8 0, .int .u8 0, .int .u8 0, .int .u8 0, .int .u8 0, .int .u8 0, .int .u8 0, .int .u8 0, .int .u8 0]) Tryd.underlying72 hie hz'.1 (by rw [hz'.2.1]; omega) (by rw [hz'.2.1]; omega) ?_
  rw [hz'.2.1]
  exact fill32 h
section
variable {ops : Array Oper} {rest : List Oper} {o : Oper} {a : Act} {Q : Exit → Act → World → Prop} {Kc : Act → World → Prop} {w : World}
theorem wp_lit {K : Act → World → Prop} (x : Operand) (ho : o.op = .buildSlice 72 1 #[(0, x)]) {D : List Int} (hD : D.length = 32) (hx : a.eval x = vd D)
    (h : K (a.put o.dst (.slice (some ⟨w.heap.size, 0, none⟩) 1 1)) (w.alloc (.cells (cb D) 35))) : Oper.wp Tryd.prog o a w K Q := by
  have h1 := run_lit hD w
  unfold Oper.wp execOp
  simp only [ho, List.map_toArray, List.map_cons, List.map_nil, hx, Sem.run_bind, Result.andThen_ok, h1]
  exact h
theorem wpList_lit (hg : o.guard = none) (x : Operand) (ho : o.op = .buildSlice 72 1 #[(0, x)]) {D : List Int} (hD : D.length = 32) (hx : a.eval x = vd D)
    (h : wpList Tryd.prog ops Q rest (a.put o.dst (.slice (some ⟨w.heap.size, 0, none⟩) 1 1)) (w.alloc (.cells (cb D) 35))) : wpList Tryd.prog ops Q (o :: rest) a w :=
  wpList_plain hg fun _ hK => wp_lit x ho hD hx (hK _ _ h)
theorem lit_step (hw : Region.wanted o (yielded ops a.tmps) = true) (x : Operand) (ho : o.op = .buildSlice 72 1 #[(0, x)]) {D : List Int} (hD : D.length = 32) (hx : a.eval x = vd D)
    (h : Kc (a.put o.dst (.slice (some ⟨w.heap.size, 0, none⟩) 1 1)) (w.alloc (.cells (cb D) 35))) : if Region.wanted o (yielded ops a.tmps) = true then Oper.wp Tryd.prog o a w Kc Q else Kc (a.put o.dst undef) w := by
  rw [if_pos hw]
  exact wp_lit x ho hD hx h
end
def isD (d : List Int) : Prop := d.length = 32 ∧ bytes d
theorem sha_D (l : List Int) : isD (shaI l) := ⟨shaI_len l, shaI_bytes l⟩
def leavesP (l : List Int) (k : Nat) : List (List Int) := (List.range k).map fun i => leafI i (chunkL l i)
theorem leavesP_succ (l : List Int) (k : Nat) : leavesP l k ++ [leafI k (chunkL l k)] = leavesP l (k + 1) := by simp [leavesP, List.range_succ]
theorem leavesP_len (l : List Int) (k : Nat) : (leavesP l k).length = k := by simp [leavesP]
def leavesL (l : List Int) : List (List Int) := leavesP l (countN l.length)
theorem leaves_D (l : List Int) : ∀ d ∈ leavesL l, isD d := by
  intro d hd
  obtain ⟨i, _, rfl⟩ := List.mem_map.1 hd
  exact sha_D _
set_option maxHeartbeats 1600000 in
set_option maxRecDepth 100000 in
theorem leaves_calls (A : Option Addr) (c : Nat) (l : List Int) (w : World) (hr : B.C w A l.length l) (hc : l.length ≤ c) (hb : bytes l) (hl : l.length < 10000000) (hT : Tab w) :
    Calls Tryd.prog 57 #[.slice A l.length c] w fun e w' => ∃ v, e = .returned v ∧ Kd.R KD 35 w' w.heap.size (fun _ => True) v (leavesL l) ∧ Below w.heap.size w w' := by
  have HR := Aside0.mk hr
  have HY := Aside0.mk hb
  have HTAB := Aside0.mk hT
  have HC := Aside0.mk (fun w => count_calls l.length w (by omega))
  have hN : countN l.length ≤ 1000000 := by unfold countN; omega
  have HLV := Aside0.mk (show leavesL l = leavesP l (countN l.length) from rfl)
  clear hr hb hT
  generalize hNN : countN l.length = N at HC hN HLV
  have HNN := Aside0.mk hNN
  clear hNN
  go_enter Tryd.func57, Tryd.ntmps57
  go_wp2_with fail
  refine (HC.out _).mono ?_
  rintro e w1 ⟨rfl, hw⟩
  replace hw := hw.symm
  subst hw
  go_wp2
  go_loopw [3, 10] (fun v i wr => ∃ k : Nat, k ≤ N ∧ i = .int .i64 (k : Int) ∧ Aside0 (Kd.R KD 35 wr w.heap.size (fun _ => True) v (leavesP l k)) ∧ Aside0 (Below w.heap.size w wr)) (fun _ i _ => N - (intOf i).toNat)
  case atStart => exact ⟨0, Nat.zero_le _, rfl, ⟨Kd.R_nil _ _ _ _ _⟩, ⟨Below.refl _ _⟩⟩
  case round =>
    obtain ⟨k, hk, rfl, HO, HB⟩ := hrel
    by_cases hlt : k < N
    · have hkN : (k : Int) < (N : Int) := by omega
      have HS := Aside0.mk (leavesP_succ l k)
      have HLP := Aside0.mk (leavesP_len l k)
      have hcl : (chunkL l k).length ≤ 64 := by rw [chunk_len (by rw [HNN.out]; exact hlt)]; omega
      have HCB := Aside0.mk (chunk_bytes HY.out k)
      have HDG := Aside0.mk (shaI_len (0 :: (be8 k ++ chunkL l k)))
      go_wp2_with fail
      refine (chunk_yes A c l k _ (Kd.C_below HR.out HB.out) hc hl (by rw [HNN.out]; exact hlt)).mono ?_
      rintro e w2 ⟨v, rfl, ho, hb⟩
      have HB2 := Aside0.mk (below_step HB.out hb)
      replace HO := Aside0.mk (Kd.R_below HO.out hb)
      obtain ⟨A2, c2, rfl, hc2, hr2⟩ := Kd.R_reads ho
      have HR2 := Aside0.mk hr2
      clear hb ho hr2 HB
      go_wp2_with fail
      refine (leaf_calls k A2 c2 (chunkL l k) _ HR2.out hc2 HCB.out (by omega) (by omega) (HTAB.out.below HB2.out)).mono ?_
      rintro e w3 ⟨rfl, hb⟩
      have HB3 := Aside0.mk (below_step HB2.out hb)
      replace HO := Aside0.mk (Kd.R_below HO.out hb)
      replace HDG := Aside0.mk (show (leafI k (chunkL l k)).length = 32 from HDG.out)
      clear hb HR2 HB2
      generalize leafI k (chunkL l k) = D at HS HDG ⊢
      go_wp2_with (first | ((with_reducible refine gate_dst (N := 23) rfl ?_); refine wpList_lit rfl (.tmp 22) rfl HDG.out rfl ?_) | ((with_reducible refine gate_builtin (b := .append) (xs := #[.tmp 19, .tmp 23]) rfl ?_); at_builtin; refine Kd.R_append KD (w0 := w) w.heap.size rfl (.tmp 19) (.tmp 23) 72 35 (.agg #[.int .u8 0, .int .u8 0, .int .u8 0, .int .u8 0, .int .u8 0, .int .u8 0, .int .u8 0, .int .u8 0, .int .u8 0, .int .u8 0, .int .u8 0, .int .u8 0, .int .u8 0, .int .u8 0, .int .u8 0, .int .u8 0, .int .u8 0, .int .u8 0, .int .u8 0, .int .u8 0, .int .u8 0, .int .u8 0, .int .u8 0, .int .u8 0, .int .u8 0, .int .u8 0, .int .u8 0, .int .u8 0, .int .u8 0, .int .u8 0, .int .u8 0, .int .u8 0]) 32 rfl Tryd.underlying72 infoDG rfl (by decide) (by omega) _ (leavesP l k) D (D.map (Value.int .u8)) (fun _ => True) (fun _ => False) rfl rfl (KD_of HDG.out) (fun _ h => h.elim) (fun _ _ => trivial) HO.out HB3.out HB3.out.size ?aL ?_; (case aL => rw [HLP.out]; omega); intro v2 w6 ho hb2 hg hat; rw [HS.out] at ho; have HO2 := Aside0.mk ho; have HB4 := Aside0.mk hb2; clear ho hb2 hg hat))
      go_roundw
      case rel => exact ⟨k + 1, by omega, by go_num, HO2, HB4⟩
      case measure => simp [intOf]; omega
    · obtain rfl : k = N := by omega
      rw [← HLV.out] at HO
      clear hlt hk
      go_wp2
      go_ret
      exact ⟨_, rfl, HO.out, HB.out⟩
end Go.Proofs.YtlojemnmdakfiaaDoor.Sha
end
section
namespace Go.Proofs.YtlojemnmdakfiaaDoor.Sha
open Go.RowKit Go.Proofs.YtlojemnmdakfiaaDoorW.PrintWords Go.Proofs.YtlojemnmdakfiaaDoorW.PrintLast Go.Proofs.YtlojemnmdakfiaaDoorW.PrintMore
set_option linter.unusedVariables false
set_option linter.unusedSimpArgs false
theorem row_ld {w : World} {A : Option Addr} {n : Nat} {rows : List (List Int)} (h : KD.C w A n rows) (k : Nat) (hk : k < n) : ∃ ad, A = some ad ∧ (loadCellsFrom (ad.add (k * 32)) 0 32 #[]).run Tryd.prog w = .ok (cb (rows.getD k [])) w ∧ (rows.getD k []).length = 32 := by
  obtain ⟨ad, c, e, _, hK, hc0⟩ := Kd.C_get h ([] : List Int) (k : Int) (by omega) (by omega)
  simp only [Int.toNat_natCast] at hK hc0
  obtain ⟨h1, h2⟩ := KD_cells hK
  refine ⟨ad, e, ?_, h1⟩
  have := run_loadCells_list (P := Tryd.prog) w (ad.add (k * 32)) c (fun j v hv => by
    rw [Deep.add_add]
    have h3 := hc0 j v hv
    have hsz : KD.sz = 32 := rfl
    rw [hsz] at h3
    exact h3)
  have hl : c.length = 32 := by rw [h2, List.length_map]; exact h1
  have hcb : cb (rows.getD k []) = c.toArray := by rw [h2]; rfl
  rw [hl] at this
  rw [hcb]
  simpa [loadCells] using this
theorem run_loadAt_cells {P : Program} (w : World) (ad : Addr) (ty : TypeId) (cs : Array Value) (d : TypeDesc) (h : (loadCellsFrom ad 0 cs.size #[]).run P w = .ok cs w)
    (hu : P.underlying ty = some d) (hd : (match d with | .struct _ | .array _ _ => true | _ => false) = true) (hi : (P.info? ty).map (·.size) = some cs.size) :
    (Instr.loadAt ty (.pointer (some ad))).run P w = .ok (.agg cs) w := by
  have hl : (loadCells ad cs.size).run P w = .ok cs w := by simpa [loadCells] using h
  have hv : (loadVar ty ad).run P w = .ok (.agg cs) w := by
    cases hq : P.info? ty with
    | none => simp [hq] at hi
    | some i =>
      have hs : i.size = cs.size := by simpa [hq] using hi
      have hagg : (isAgg ty).run P w = .ok true w := by
        unfold isAgg
        rw [Sem.run_bind, run_underlying hu w]
        cases d <;> simp_all
      simp [loadVar, Sem.run_bind, hagg, sizeOf, typeInfo, hq, hs, hl]
  simp only [Instr.loadAt, Instr.sureAddr, Sem.run_bind, Sem.run_pure, Result.andThen_ok, hv]
theorem row_load {w : World} {A : Option Addr} {n : Nat} {rows : List (List Int)} (h : KD.C w A n rows) (k : Nat) (hk : k < n) : ∃ ad, A = some ad ∧ (Instr.loadAt 35 (.pointer (some (ad.add (k * 32))))).run Tryd.prog w = .ok (vd (rows.getD k [])) w := by
  obtain ⟨ad, e, h1, h2⟩ := row_ld h k hk
  have hs : (cb (rows.getD k [])).size = 32 := by rw [cb_size]; exact h2
  exact ⟨ad, e, run_loadAt_cells w _ _ _ _ (by rw [hs]; exact h1) Tryd.underlying35 rfl (infoDg _ h2)⟩
theorem row_load' {w w' : World} {ad : Addr} {n : Nat} {rows : List (List Int)} (h : KD.C w (some ad) n rows) (hb : Below w.heap.size w w') (k : Nat) (hk : k < n) {D : List Int} (hD : rows.getD k [] = D) : (Instr.loadAt 35 (.pointer (some (ad.add (k * 32))))).run Tryd.prog w' = .ok (vd D) w' := by
  obtain ⟨ad', e, h1⟩ := row_load (Kd.C_below h hb) k hk
  cases e
  rw [← hD]
  exact h1
section
variable {P : Program} {ops : Array Oper} {rest : List Oper} {o : Oper} {a : Act} {Q : Exit → Act → World → Prop} {w : World}
theorem exec_load {ty : TypeId} {x : Operand} {p v : Value} (ho : o.op = .load ty x) (hx : a.eval x = p) (h : (Instr.loadAt ty p).run P w = .ok v w) : (execOp a.eval o).run P w = .ok (.value v) w := by
  unfold execOp
  simp only [ho, hx, Sem.run_bind, h, Result.andThen_ok]
  rfl
theorem wpList_load_at (hgd : o.guard = none) {ty : TypeId} {x : Operand} {p v : Value} (ho : o.op = .load ty x) (hx : a.eval x = p) (h : (Instr.loadAt ty p).run P w = .ok v w)
    (hr : wpList P ops Q rest (a.put o.dst v) w) : wpList P ops Q (o :: rest) a w :=
  wpList_plain hgd fun K hK => by
    unfold Oper.wp
    rw [exec_load ho hx h]
    exact hK _ _ hr
end
def isRow (rows : List (List Int)) : Prop := ∀ d ∈ rows, isD d
theorem isRow_getD {rows : List (List Int)} (h : isRow rows) (k : Nat) (hk : k < rows.length) : isD (rows.getD k []) := by
  rw [List.getD_eq_getElem?_getD, List.getElem?_eq_getElem hk]
  exact h _ (List.getElem_mem hk)
def upN (rows : List (List Int)) (k : Nat) : List (List Int) := (List.range k).map fun i => pairI (rows.getD (2 * i) []) (rows.getD (2 * i + 1) [])
def upL (rows : List (List Int)) : List (List Int) := if rows.length % 2 = 1 then upN rows (rows.length / 2) ++ [rows.getD (rows.length - 1) []] else upN rows (rows.length / 2)
theorem upN_len (rows : List (List Int)) (k : Nat) : (upN rows k).length = k := by simp [upN]
theorem upN_succ (rows : List (List Int)) (k : Nat) : upN rows k ++ [pairI (rows.getD (2 * k) []) (rows.getD (2 * k + 1) [])] = upN rows (k + 1) := by simp [upN, List.range_succ]
theorem upL_len (rows : List (List Int)) : (upL rows).length = (rows.length + 1) / 2 := by
  unfold upL
  split
  · rw [List.length_append, upN_len]; simp; omega
  · rw [upN_len]; omega
theorem upL_row {rows : List (List Int)} (h : isRow rows) : isRow (upL rows) := by
  have h1 : isRow (upN rows (rows.length / 2)) := by
    intro d hd
    obtain ⟨i, _, rfl⟩ := List.mem_map.1 hd
    exact sha_D _
  unfold upL
  split
  · intro d hd
    rcases List.mem_append.1 hd with h2 | h2
    · exact h1 d h2
    · obtain rfl := List.mem_singleton.1 h2
      exact isRow_getD h _ (by omega)
  · exact h1
def up_T5 : Bool × List (List Nat × List Nat) := (true, [([], []), ([], []), ([], []), ([2], [2]), ([1, 3], [1, 3]), ([4], [4]), ([], []), ([], []), ([7], [7]), ([8], [8]), ([6, 9], [6, 9]), ([10], [10]), ([5, 11], [5, 11]), ([12], [12]), ([0, 13, 12], [0, 13]), ([14, 14, 0, 1, 2, 3, 4, 5, 6, 7, 8, 9, 10, 11, 12, 13, 14], [0, 14])])
def up_B5 : List Nat := [0, 0, 0, 4, 14, 30, 0, 0, 128, 384, 960, 1984, 4094, 8190, 16383, 32767]
theorem up_tab5 : rtab .any (opsOf Tryd.f58 5) = up_T5 := by kernel_rfl
theorem up_bits5 : waitsOk up_T5.2 up_B5 = true := by kernel_rfl
set_option maxHeartbeats 1600000 in
set_option maxRecDepth 100000 in
theorem up_calls (A : Option Addr) (c : Nat) (rows : List (List Int)) (w : World) (hr : KD.C w A rows.length rows) (hc : rows.length ≤ c) (hb : isRow rows) (hl : rows.length < 10000000) (hT : Tab w) :
    Calls Tryd.prog 58 #[.slice A rows.length c] w fun e w' => ∃ v, e = .returned v ∧ Kd.R KD 35 w' w.heap.size (fun _ => True) v (upL rows) ∧ Below w.heap.size w w' := by
  have HR := Aside0.mk hr
  have HY := Aside0.mk hb
  have HTAB := Aside0.mk hT
  clear hr hb hT
  go_enter Tryd.func58, Tryd.ntmps58
  go_wp2
  go_loopw [3, 8] (fun v i wr => ∃ k : Nat, k ≤ rows.length / 2 ∧ i = .int .i64 (k : Int) ∧ Aside0 (Kd.R KD 35 wr w.heap.size (fun _ => True) v (upN rows k)) ∧ Aside0 (Below w.heap.size w wr)) (fun _ i _ => rows.length - (intOf i).toNat)
  case atStart => exact ⟨0, Nat.zero_le _, rfl, ⟨Kd.R_nil _ _ _ _ _⟩, ⟨Below.refl _ _⟩⟩
  case round =>
    obtain ⟨k, hk, rfl, HO, HB⟩ := hrel
    by_cases hlt : k < rows.length / 2
    · have hkN : (k : Int) < (rows.length : Int) / 2 := by omega
      obtain ⟨q0, hq0e⟩ : ∃ q, q = 2 * k := ⟨_, rfl⟩
      obtain ⟨q1, hq1e⟩ : ∃ q, q = 2 * k + 1 := ⟨_, rfl⟩
      have hq0 : q0 < rows.length := by omega
      have hq1 : q1 < rows.length := by omega
      have HW0 := Aside0.mk (show IntKind.i64.wrap (2 * (k : Int)) = (q0 : Int) by simp [IntKind.wrap, IntKind.bits, IntKind.signed]; omega)
      have HW1 := Aside0.mk (show IntKind.i64.wrap ((q0 : Int) + 1) = (q1 : Int) by simp [IntKind.wrap, IntKind.bits, IntKind.signed]; omega)
      have HS := Aside0.mk (show upN rows k ++ [pairI (rows.getD q0 []) (rows.getD q1 [])] = upN rows (k + 1) by rw [hq0e, hq1e]; exact upN_succ rows k)
      have HLP := Aside0.mk (upN_len rows k)
      have hk7 : k ≤ 10000000 := by omega
      have HA := Aside0.mk (isRow_getD HY.out q0 hq0)
      have HBB := Aside0.mk (isRow_getD HY.out q1 hq1)
      obtain ⟨ad, rfl, _, _⟩ := row_ld HR.out q0 hq0
      clear hq0e hq1e
      have hS0 : Below w.heap.size w wr.drew := below_drew1 HB.out
      have HOd := Aside0.mk (show Kd.R KD 35 wr.drew w.heap.size (fun _ => True) u3 (upN rows k) from Kd.R_drew HO.out)
      generalize hea : rows.getD q0 [] = a at *
      generalize heb : rows.getD q1 [] = b at *
      have HX0 := Aside0.mk (show ∀ w' : World, Below w.heap.size w w' → (Instr.loadAt 35 (.pointer (some (ad.add (q0 * 32))))).run Tryd.prog w' = .ok (vd a) w' from fun w' h => row_load' HR.out h q0 hq0 hea)
      have HX1 := Aside0.mk (show ∀ w' : World, Below w.heap.size w w' → (Instr.loadAt 35 (.pointer (some (ad.add (q1 * 32))))).run Tryd.prog w' = .ok (vd b) w' from fun w' h => row_load' HR.out h q1 hq1 heb)
      clear hea heb
      go_upto_region 5 with (fail)
      refine start_ (n := 16) (S := fun w' => Below w.heap.size w w') (ds := []) #[false, false, false, false, false, false, false, false, false, false, false, false, false, false, false, false] (by kernel_rfl) rfl rfl (by exact hS0) (fun hHeld => ?_)
      refine with_tabW up_tab5 up_bits5 (fun HT_ HW_ => ?_)
      refine pure_ (i := 0) (N := some 11) (v := ?_) (a' := ?_) #[true, false, false, false, false, false, false, false, false, false, false, false, false, false, false, false] rfl rfl (any_of HT_.out (by kernel_rfl)) (fun _ _ _ h => h) (Or.inl ⟨by rfl, ?_⟩) ?_ ?_
      rotate_left
      · intro w'
        go_simp
        with_reducible rfl
      rotate_left
      · simp only [Act.put, List.setIfInBounds_toArray, List.set_cons_zero, List.set_cons_succ, i64_w, i32_w]
        rfl
      refine pure_ (i := 1) (N := some 12) (v := ?_) (a' := ?_) #[true, true, false, false, false, false, false, false, false, false, false, false, false, false, false, false] rfl rfl (any_of HT_.out (by kernel_rfl)) (fun _ _ _ h => h) (Or.inl ⟨by rfl, ?_⟩) ?_ ?_
      rotate_left
      · intro w'
        go_simp
        with_reducible rfl
      rotate_left
      · simp only [Act.put, List.setIfInBounds_toArray, List.set_cons_zero, List.set_cons_succ, i64_w, i32_w]
        rfl
      refine pure_ (i := 2) (N := some 13) (v := ?_) (a' := ?_) #[true, true, true, false, false, false, false, false, false, false, false, false, false, false, false, false] rfl rfl (any_of HT_.out (by kernel_rfl)) (fun _ _ _ h => h) (Or.inl ⟨by rfl, ?_⟩) ?_ ?_
      rotate_left
      · intro w'
        go_simp
        with_reducible rfl
      rotate_left
      · simp only [Act.put, List.setIfInBounds_toArray, List.set_cons_zero, List.set_cons_succ, i64_w, i32_w]
        rfl
      refine pure_ (i := 3) (N := some 14) (v := ?_) (a' := ?_) #[true, true, true, true, false, false, false, false, false, false, false, false, false, false, false, false] rfl rfl (any_of HT_.out (by kernel_rfl)) (fun _ _ _ h => h) (Or.inl ⟨by rfl, ?_⟩) ?_ ?_
      rotate_left
      · intro w'
        go_simp
        rw [HW0.out]
      rotate_left
      · simp only [Act.put, List.setIfInBounds_toArray, List.set_cons_zero, List.set_cons_succ, i64_w, i32_w]
        rfl
      refine pure_ (i := 4) (N := some 15) (v := ?_) (a' := ?_) #[true, true, true, true, true, false, false, false, false, false, false, false, false, false, false, false] rfl rfl (any_of HT_.out (by kernel_rfl)) (fun _ _ _ h => h) (Or.inl ⟨by rfl, ?_⟩) ?_ ?_
      rotate_left
      · intro w'
        go_simp
        with_reducible rfl
      rotate_left
      · simp only [Act.put, List.setIfInBounds_toArray, List.set_cons_zero, List.set_cons_succ, i64_w, i32_w]
        rfl
      refine take_ (i := 5) (N := some 16) (v := ?_) (a' := ?_) #[true, true, true, true, true, true, false, false, false, false, false, false, false, false, false, false] rfl rfl (take_ofW HT_.out HW_.out (by kernel_rfl)) (fun _ _ _ h => h) (Or.inl ⟨by rfl, ?_⟩) hHeld ?_ ?_
      rotate_left
      · intro w' hSt
        refine (exec_load (p := .pointer (some (ad.add (q0 * 32)))) rfl rfl (HX0.out w' hSt)).trans ?_
        with_reducible rfl
      rotate_left
      · simp only [Act.put, List.setIfInBounds_toArray, List.set_cons_zero, List.set_cons_succ, i64_w, i32_w]
        rfl
      refine pure_ (i := 6) (N := some 17) (v := ?_) (a' := ?_) #[true, true, true, true, true, true, true, false, false, false, false, false, false, false, false, false] rfl rfl (any_of HT_.out (by kernel_rfl)) (fun _ _ _ h => h) (Or.inl ⟨by rfl, ?_⟩) ?_ ?_
      rotate_left
      · intro w'
        go_simp
        with_reducible rfl
      rotate_left
      · simp only [Act.put, List.setIfInBounds_toArray, List.set_cons_zero, List.set_cons_succ, i64_w, i32_w]
        rfl
      refine pure_ (i := 7) (N := some 18) (v := ?_) (a' := ?_) #[true, true, true, true, true, true, true, true, false, false, false, false, false, false, false, false] rfl rfl (any_of HT_.out (by kernel_rfl)) (fun _ _ _ h => h) (Or.inl ⟨by rfl, ?_⟩) ?_ ?_
      rotate_left
      · intro w'
        go_simp
        with_reducible rfl
      rotate_left
      · simp only [Act.put, List.setIfInBounds_toArray, List.set_cons_zero, List.set_cons_succ, i64_w, i32_w]
        rfl
      refine pure_ (i := 8) (N := some 19) (v := ?_) (a' := ?_) #[true, true, true, true, true, true, true, true, true, false, false, false, false, false, false, false] rfl rfl (any_of HT_.out (by kernel_rfl)) (fun _ _ _ h => h) (Or.inl ⟨by rfl, ?_⟩) ?_ ?_
      rotate_left
      · intro w'
        go_simp
        rw [HW0.out]
      rotate_left
      · simp only [Act.put, List.setIfInBounds_toArray, List.set_cons_zero, List.set_cons_succ, i64_w, i32_w]
        rfl
      refine pure_ (i := 9) (N := some 20) (v := ?_) (a' := ?_) #[true, true, true, true, true, true, true, true, true, true, false, false, false, false, false, false] rfl rfl (any_of HT_.out (by kernel_rfl)) (fun _ _ _ h => h) (Or.inl ⟨by rfl, ?_⟩) ?_ ?_
      rotate_left
      · intro w'
        go_simp
        rw [HW1.out]
      rotate_left
      · simp only [Act.put, List.setIfInBounds_toArray, List.set_cons_zero, List.set_cons_succ, i64_w, i32_w]
        rfl
      refine pure_ (i := 10) (N := some 21) (v := ?_) (a' := ?_) #[true, true, true, true, true, true, true, true, true, true, true, false, false, false, false, false] rfl rfl (any_of HT_.out (by kernel_rfl)) (fun _ _ _ h => h) (Or.inl ⟨by rfl, ?_⟩) ?_ ?_
      rotate_left
      · intro w'
        go_simp
        with_reducible rfl
      rotate_left
      · simp only [Act.put, List.setIfInBounds_toArray, List.set_cons_zero, List.set_cons_succ, i64_w, i32_w]
        rfl
      refine take_ (i := 11) (N := some 22) (v := ?_) (a' := ?_) #[true, true, true, true, true, true, true, true, true, true, true, true, false, false, false, false] rfl rfl (take_ofW HT_.out HW_.out (by kernel_rfl)) (fun _ _ _ h => h) (Or.inl ⟨by rfl, ?_⟩) hHeld ?_ ?_
      rotate_left
      · intro w' hSt
        refine (exec_load (p := .pointer (some (ad.add (q1 * 32)))) rfl rfl (HX1.out w' hSt)).trans ?_
        with_reducible rfl
      rotate_left
      · simp only [Act.put, List.setIfInBounds_toArray, List.set_cons_zero, List.set_cons_succ, i64_w, i32_w]
        rfl
      refine one_ (i := 12) (N := some 23) #[true, true, true, true, true, true, true, true, true, true, true, true, true, false, false, false] rfl rfl (one_of HT_.out (by kernel_rfl)) (by decide) (fun K hK => ?_)
      refine goes_ Tryd.func72 (by kernel_rfl) rfl #[vd a, vd b] (by rfl) rfl rfl (by (try simp only [List.map_toArray, List.map_cons, List.map_nil]); first | done | rfl) ?_
      refine (pair_calls a b _ HA.out.1 HBB.out.1 HA.out.2 HBB.out.2 (HTAB.out.below hHeld)).mono ?_
      rintro e w3 ⟨rfl, hb⟩
      refine ⟨_, rfl, ?_⟩
      have hS1 := below_step hHeld hb
      have HO3 := Aside0.mk (Kd.R_below HOd.out hb)
      have HDG := Aside0.mk (show (pairI a b).length = 32 from shaI_len _)
      clear hb
      refine hK.out _ _ (by exact hS1) (fun hHeld => ?_)
      clear hK K
      refine norm_ (a' := ?_) ?_ ?_
      rotate_left
      · first
        | (show Act.put _ (some 23) _ = _; simp only [Act.put, List.setIfInBounds_toArray, List.set_cons_zero, List.set_cons_succ, i64_w, i32_w]; rfl)
        | rfl
      refine one_ (i := 13) (N := some 24) #[true, true, true, true, true, true, true, true, true, true, true, true, true, true, false, false] rfl rfl (one_of HT_.out (by kernel_rfl)) (by decide) (fun K hK => ?_)
      refine lit_step (by rfl) (.tmp 23) rfl HDG.out rfl ?_
      have HHA := Aside0.mk hHeld
      have hS1 := hHeld.alloc hHeld.size (.cells (cb (pairI a b)) 35)
      refine hK.out _ _ (by exact hS1) (fun hHeld => ?_)
      clear hK K
      refine norm_ (a' := ?_) ?_ ?_
      rotate_left
      · first
        | (show Act.put _ (some 24) _ = _; simp only [Act.put, List.setIfInBounds_toArray, List.set_cons_zero, List.set_cons_succ, i64_w, i32_w]; rfl)
        | rfl
      refine one_ (i := 14) (N := some 25) #[true, true, true, true, true, true, true, true, true, true, true, true, true, true, true, false] rfl rfl (one_of HT_.out (by kernel_rfl)) (by decide) (fun K hK => ?_)
      refine Kd.R_append_step KD (w0 := w) w.heap.size (by rfl) (.tmp 11) (.tmp 24) 72 35 (.agg #[.int .u8 0, .int .u8 0, .int .u8 0, .int .u8 0, .int .u8 0, .int .u8 0, .int .u8 0, .int .u8 0, .int .u8 0, .int .u8 0, .int .u8 0, .int .u8 0, .int .u8 0, .int .u8 0, .int .u8 0, .int .u8 0, .int .u8 0, .int .u8 0, .int .u8 0, .int .u8 0, .int .u8 0, .int .u8 0, .int .u8 0, .int .u8 0, .int .u8 0, .int .u8 0, .int .u8 0, .int .u8 0, .int .u8 0, .int .u8 0, .int .u8 0, .int .u8 0]) 32 rfl Tryd.underlying72 infoDG rfl (by decide) (by omega) _ (upN rows k) (pairI a b) ((pairI a b).map (Value.int .u8)) (fun _ => True) (fun _ => False) rfl rfl (KD_of HDG.out) (fun _ h => h.elim) (fun _ _ => trivial) HO3.out HHA.out HHA.out.size ?aL ?_
      case aL => rw [HLP.out]; omega
      intro v2 w6 ho hb2 _ _
      rw [HS.out] at ho
      have HO2 := Aside0.mk ho
      clear ho
      have hS1 := hb2
      clear hb2
      refine hK.out _ _ (by exact hS1) (fun hHeld => ?_)
      clear hK K
      refine norm_ (a' := ?_) ?_ ?_
      rotate_left
      · first
        | (show Act.put _ (some 25) _ = _; simp only [Act.put, List.setIfInBounds_toArray, List.set_cons_zero, List.set_cons_succ, i64_w, i32_w]; rfl)
        | rfl
      refine pure_ (i := 15) (N := some 3) (v := ?_) (a' := ?_) #[true, true, true, true, true, true, true, true, true, true, true, true, true, true, true, true] rfl rfl (any_of HT_.out (by kernel_rfl)) (fun _ _ _ h => h) (Or.inl ⟨by rfl, ?_⟩) ?_ ?_
      rotate_left
      · intro w'
        go_simp
        with_reducible rfl
      rotate_left
      · simp only [Act.put, List.setIfInBounds_toArray, List.set_cons_zero, List.set_cons_succ, i64_w, i32_w]
        rfl
      refine done_ (done_of HT_.out (by kernel_rfl)) ?_
      have HB4 := Aside0.mk hHeld
      clear hS0 hHeld HT_ HW_
      go_wp2
      go_roundw
      case rel => exact ⟨k + 1, by omega, by go_num, HO2, HB4⟩
      case measure => simp [intOf]; omega
    · obtain rfl : k = rows.length / 2 := by omega
      clear hlt hk
      have HLP := Aside0.mk (upN_len rows (rows.length / 2))
      by_cases ho : rows.length % 2 = 1
      · have e1 : (((rows.length : Nat) : Int) % 2 == 1) = true := by simp; omega
        have HV := Aside0.mk (show upN rows (rows.length / 2) ++ [rows.getD (rows.length - 1) []] = upL rows by unfold upL; rw [if_pos ho])
        obtain ⟨q, hq⟩ : ∃ q, q = rows.length - 1 := ⟨_, rfl⟩
        have hqi : (rows.length : Int) - 1 = (q : Int) := by omega
        have hql : q < rows.length := by omega
        rw [← hq] at HV
        obtain ⟨ad, rfl, _, _⟩ := row_ld HR.out q hql
        have HDG := Aside0.mk (isRow_getD HY.out q hql).1
        generalize hD : rows.getD q [] = D at HV HDG
        have HX := Aside0.mk (row_load' HR.out HB.out q hql hD)
        have hlen2 : rows.length / 2 ≤ 10000000 := by omega
        clear hD hq ho
        go_wp2_with (first | ((with_reducible refine gate_dst (N := 37) rfl ?_); refine wpList_load_at rfl (ty := 35) (x := .tmp 36) (p := .pointer (some (ad.add (q * 32)))) (v := vd D) rfl rfl HX.out ?_) | ((with_reducible refine gate_dst (N := 38) rfl ?_); refine wpList_lit rfl (.tmp 37) rfl HDG.out rfl ?_) | ((with_reducible refine gate_builtin (b := .append) (xs := #[.tmp 31, .tmp 38]) rfl ?_); at_builtin; refine Kd.R_append KD (w0 := w) w.heap.size rfl (.tmp 31) (.tmp 38) 72 35 (.agg #[.int .u8 0, .int .u8 0, .int .u8 0, .int .u8 0, .int .u8 0, .int .u8 0, .int .u8 0, .int .u8 0, .int .u8 0, .int .u8 0, .int .u8 0, .int .u8 0, .int .u8 0, .int .u8 0, .int .u8 0, .int .u8 0, .int .u8 0, .int .u8 0, .int .u8 0, .int .u8 0, .int .u8 0, .int .u8 0, .int .u8 0, .int .u8 0, .int .u8 0, .int .u8 0, .int .u8 0, .int .u8 0, .int .u8 0, .int .u8 0, .int .u8 0, .int .u8 0]) 32 rfl Tryd.underlying72 infoDG rfl (by decide) (by omega) _ (upN rows (rows.length / 2)) D (D.map (Value.int .u8)) (fun _ => True) (fun _ => False) rfl rfl (KD_of HDG.out) (fun _ h => h.elim) (fun _ _ => trivial) HO.out HB.out HB.out.size ?aL ?_; (case aL => rw [HLP.out]; omega); intro v2 w6 ho hb2 _ _; rw [HV.out] at ho; have HO2 := Aside0.mk ho; have HB2 := Aside0.mk hb2; clear ho hb2))
        go_ret
        exact ⟨_, rfl, HO2.out, HB2.out⟩
      · have e1 : (((rows.length : Nat) : Int) % 2 == 1) = false := by simp; omega
        have HV := Aside0.mk (show upN rows (rows.length / 2) = upL rows by unfold upL; rw [if_neg ho])
        rw [HV.out] at HO
        clear ho
        go_wp2
        go_ret
        exact ⟨_, rfl, HO.out, HB.out⟩
end Go.Proofs.YtlojemnmdakfiaaDoor.Sha
end
section
namespace Go.Proofs.YtlojemnmdakfiaaDoor.Sha
open Go.RowKit Go.Proofs.YtlojemnmdakfiaaDoorW.PrintWords Go.Proofs.YtlojemnmdakfiaaDoorW.PrintLast Go.Proofs.YtlojemnmdakfiaaDoorW.PrintMore
set_option linter.unusedVariables false
set_option linter.unusedSimpArgs false
def climb (rows : List (List Int)) : List (List Int) := if h : rows.length ≤ 1 then rows else climb (upL rows)
termination_by rows.length
decreasing_by rw [upL_len]; omega
theorem climb_end {rows : List (List Int)} (h : rows.length ≤ 1) : climb rows = rows := by rw [climb, dif_pos h]
theorem climb_up {rows : List (List Int)} (h : ¬ rows.length ≤ 1) : climb rows = climb (upL rows) := by conv => lhs; rw [climb, dif_neg h]
def rootOf (l : List Int) : List Int := rootI l.length ((climb (leavesL l)).getD 0 [])
theorem count_pos (n : Nat) : 1 ≤ countN n := by unfold countN; omega
theorem leavesL_len (l : List Int) : (leavesL l).length = countN l.length := leavesP_len _ _
set_option maxHeartbeats 1600000 in
set_option maxRecDepth 100000 in
theorem Root_calls (A : Option Addr) (c : Nat) (l : List Int) (w : World) (hr : B.C w A l.length l) (hc : l.length ≤ c) (hb : bytes l) (hl : l.length < 10000000) (hT : Tab w) :
    Calls Tryd.prog 38 #[.slice A l.length c] w fun e w' => e = .returned (vd (rootOf l)) ∧ Below w.heap.size w w' := by
  have HR := Aside0.mk hr
  have HY := Aside0.mk hb
  have HTAB := Aside0.mk hT
  have hcp := count_pos l.length
  have hcm : countN l.length ≤ 1000000 := by unfold countN; omega
  have hll := leavesL_len l
  have HLD := Aside0.mk (leaves_D l)
  have HRO := Aside0.mk (show rootOf l = rootI l.length ((climb (leavesL l)).getD 0 []) from rfl)
  clear hr hb hT
  go_enter Tryd.func38, Tryd.ntmps38
  go_upto_region 1 with (fail)
  obtain ⟨w1, hw1, HB1, HD, HZ1⟩ := dg_start w
  rw [hw1]
  clear hw1
  go_wp2_with fail
  refine (leaves_calls A c l _ (Kd.C_below HR.out HB1.out) hc HY.out hl (HTAB.out.below HB1.out)).mono ?_
  rintro e w2 ⟨v, rfl, ho, hb⟩
  obtain ⟨A3, c3, rfl, hc3, hr3⟩ := Kd.R_reads ho
  have HR3 := Aside0.mk hr3
  have HB2 := Aside0.mk hb
  clear ho hb hr3
  generalize leavesL l = rows0 at *
  have h01 : 1 ≤ rows0.length := by omega
  have h06 : rows0.length ≤ 1000000 := by omega
  clear hll hcp hcm
  go_wp2
  go_loopw [3] (fun v wr => ∃ (rows : List (List Int)) (A3 : Option Addr) (c3 : Nat), v = .slice A3 rows.length c3 ∧ rows.length ≤ c3 ∧ Aside0 (KD.C wr A3 rows.length rows) ∧ Aside0 (isRow rows) ∧ 1 ≤ rows.length ∧ rows.length ≤ 1000000 ∧ Aside0 (climb rows = climb rows0) ∧ Aside0 (Below w1.heap.size w1 wr)) (fun v _ => slLen v)
  case atStart => exact ⟨rows0, A3, c3, rfl, hc3, HR3, ⟨HLD.out⟩, h01, h06, ⟨rfl⟩, HB2⟩
  case round =>
    clear HR3 HB2 HLD hc3 h01 h06
    obtain ⟨rows, A3, c3, rfl, hc3, HR3, HI, h1, h6, HC, HB⟩ := hrel
    by_cases hlt : 1 < rows.length
    · have hul := upL_len rows
      have hu2 : (upL rows).length < rows.length := by omega
      have hu1 : 1 ≤ (upL rows).length := by omega
      have HCU := Aside0.mk (climb_up (rows := rows) (by omega))
      have HIU := Aside0.mk (upL_row HI.out)
      clear hul
      go_wp2_with fail
      refine (up_calls A3 c3 rows _ HR3.out hc3 HI.out (by omega) (HTAB.out.below (below_step HB1.out HB.out))).mono ?_
      rintro e w3 ⟨v, rfl, ho, hb⟩
      obtain ⟨A4, c4, rfl, hc4, hr4⟩ := Kd.R_reads ho
      have HR4 := Aside0.mk hr4
      have HB3 := Aside0.mk (below_step HB.out hb)
      clear ho hb hr4
      generalize upL rows = rows2 at *
      go_wp2
      go_roundw
      case rel => exact ⟨rows2, A4, c4, rfl, hc4, HR4, HIU, hu1, by omega, ⟨by rw [← HCU.out]; exact HC.out⟩, HB3⟩
      case measure => exact hu2
    · have hl1 : rows.length = 1 := by omega
      obtain ⟨ad, rfl, _, _⟩ := row_ld HR3.out 0 (by omega)
      have HE := Aside0.mk (climb_end (rows := rows) (by omega))
      have HDG := Aside0.mk (isRow_getD HI.out 0 (by omega))
      have hx := row_load' HR3.out (Below.refl _ _) 0 (by omega) rfl
      rw [Nat.zero_mul, Addr.add_zero'] at hx
      have HX := Aside0.mk hx
      have HFR := Aside0.mk (show rootOf l = rootI l.length (rows.getD 0 []) by rw [HRO.out, ← HC.out, HE.out])
      generalize rows.getD 0 [] = D at HDG HX HFR
      have HSL := Aside0.mk (show (rootI l.length D).length = 32 from shaI_len _)
      clear hx hlt
      go_wp2_with (first | ((with_reducible refine gate_dst (N := 15) rfl ?_); refine wpList_load_at rfl (ty := 35) (x := .tmp 14) (p := .pointer (some ad)) (v := vd D) rfl rfl HX.out ?_))
      refine (root_calls l.length D _ (by omega) HDG.out.1 HDG.out.2 (HTAB.out.below (below_step HB1.out HB.out))).mono ?_
      rintro e w3 ⟨rfl, hb⟩
      have HD2 := Aside0.mk (heap_keep (heap_keep HD.out HB.out) hb)
      have HB3 := Aside0.mk (below_step (below_step HB1.out HB.out) hb)
      clear hb
      rw [← HFR.out]
      rw [← HFR.out] at HSL
      generalize hR : rootOf l = R at HSL ⊢
      have HRR := Aside0.mk hR
      clear hR
      go_wp2_with (first | (refine wpList_store_row rfl 35 (.tmp 2) (.tmp 16) rfl w.heap.size (cb R) rfl rfl 35 _ HD2.out (infoDg _ HSL.out) (by rw [cb_size, cb_size, HSL.out]; simp) (cb_one _) ?_))
      (try simp only [Exit.inBlock, Exit.then])
      exact dg_ret rfl rfl HSL.out (setRow_heap _ _ _ _ _ _ HD2.out) rfl ⟨by rw [HRR.out], below_setRow HB3.out (Nat.le_refl _) _⟩
end Go.Proofs.YtlojemnmdakfiaaDoor.Sha
end
section
namespace Go.Proofs.YtlojemnmdakfiaaDoor.Tr
open Go.RowKit Go.Proofs.YtlojemnmdakfiaaDoorW.PrintWords Go.Proofs.YtlojemnmdakfiaaDoorW.PrintLast Go.Proofs.YtlojemnmdakfiaaDoorW.PrintMore
set_option linter.unusedVariables false
set_option linter.unusedSimpArgs false
open Go.Proofs.YtlojemnmdakfiaaDoor.Hand
open Go.Proofs.YtlojemnmdakfiaaDoor.Sha (rootOf vd cb cb_size cb_one Root_calls dg_start dg_ret infoDg heap_keep)
theorem digsF_bytes : ∀ (k m : Nat) (acc : List Int), Sha.bytes acc → Sha.bytes (digsF k m acc)
  | 0, m, acc, h => h
  | k + 1, m, acc, h => by
    unfold digsF
    split
    · exact h
    · refine digsF_bytes k _ _ (fun y hy => ?_)
      rcases List.mem_cons.1 hy with rfl | h2
      · omega
      · exact h y h2
theorem formL_bytes (n : Nat) (h : n < 18446744073709551616) : Sha.bytes (formL n) := fun y hy => by
  have hl := digs_len n h
  rcases List.mem_cons.1 hy with rfl | h2
  · omega
  · exact digsF_bytes 8 n [] (fun y hy => by simp at hy) y h2
theorem bytes_app {a b : List Int} (ha : Sha.bytes a) (hb : Sha.bytes b) : Sha.bytes (a ++ b) := fun y hy => by
  rcases List.mem_append.1 hy with h | h
  · exact ha y h
  · exact hb y h
theorem row_bytes {x : List Int} (hx : Sha.bytes x) (h : x.length < 18446744073709551616) : Sha.bytes (rowL x) := bytes_app (formL_bytes _ h) hx
theorem str_bytes (s : ByteArray) : Sha.bytes (bytesOf s) := fun y hy => by
  obtain ⟨u, _, rfl⟩ := List.mem_map.1 hy
  have := UInt8.toNat_lt u
  omega
theorem tree_bytes {xs : List Fl} (h16 : xs.length ≤ 16) (hx : ∀ x ∈ xs, x.1.size ≤ 40 ∧ x.2.length ≤ 2000) (hb : ∀ x ∈ xs, Sha.bytes x.2) : Sha.bytes (treeB xs) := by
  refine bytes_app (formL_bytes _ (by omega)) (fun y hy => ?_)
  obtain ⟨r, hr, hyr⟩ := List.mem_flatten.1 hy
  obtain ⟨x, hxx, rfl⟩ := List.mem_map.1 hr
  have q := hx x hxx
  exact bytes_app (row_bytes (str_bytes x.1) (by rw [bytesOf_length]; omega)) (row_bytes (hb x hxx) (by omega)) y hyr
theorem tree_len {xs : List Fl} (h16 : xs.length ≤ 16) (hx : ∀ x ∈ xs, x.1.size ≤ 40 ∧ x.2.length ≤ 2000) : (treeB xs).length ≤ 40000 := by
  have h1 := formL_len xs.length (by omega)
  have h2 := len_files xs hx
  unfold treeB
  simp only [List.length_append]
  omega
theorem tmay_at {b : Bool} (A : Option Addr) (c : Nat) (xs : List Fl) (w : World) (hr : KF.C w A xs.length xs) (hc : xs.length ≤ c) (hx : ∀ x ∈ xs, x.1.size ≤ 9223372036854775807) (hm : mayT xs = b) :
    Calls Tryd.prog 27 #[.slice A xs.length c] w fun e w' => e = .returned (.bool b) ∧ Below w.heap.size w w' := by
  subst hm
  exact tmay_calls A c xs w hr hc hx
set_option maxHeartbeats 1600000 in
theorem tbytes_yes (A : Option Addr) (c : Nat) (xs : List Fl) (w : World) (hr : KF.C w A xs.length xs) (hc : xs.length ≤ c) (hx : ∀ x ∈ xs, x.1.size ≤ 9223372036854775807) (hm : mayT xs = true) :
    Calls Tryd.prog 37 #[.slice A xs.length c] w fun e w' => ∃ v, e = .returned (.tuple #[v, .int .i64 0]) ∧ Kd.R B 5 w' w.heap.size (fun _ => True) v (treeB xs) ∧ Below w.heap.size w w' := by
  have HR := Aside0.mk hr
  have HX := Aside0.mk hx
  have HM := Aside0.mk hm
  have HOK := Aside0.mk (mayT_ok hm)
  clear hr hx hm
  go_enter Tryd.func37, Tryd.ntmps37
  go_wp2_with fail
  refine (tmay_at A c xs _ HR.out hc HX.out HM.out).mono ?_
  rintro e w1 ⟨rfl, hb⟩
  have HB1 := Aside0.mk hb
  clear hb
  go_wp2_with fail
  refine (raw_calls A c xs _ (Kd.C_below HR.out HB1.out) hc HOK.out.1 HOK.out.2).mono ?_
  rintro e w2 ⟨v, rfl, ho, hb⟩
  have HO := Aside0.mk (Kd.R_lower ho HB1.out.size)
  have HB2 := Aside0.mk (below_step HB1.out hb)
  clear ho hb
  go_wp2
  go_ret2
  exact ⟨v, rfl, HO.out, HB2.out⟩
theorem dg_ret2 {fn : Func} {R : Ending → World → Prop} {a : Act} {w : World} {p u : Tmp} {g : Nat} {D : List Int} (h : fn.results = #[.cell p 35, .tmp u]) (hp : a.tmps.getD p undef = .pointer (some ⟨g, 0, none⟩)) (hD : D.length = 32)
    (hg : w.heap[g]? = some (.cells (cb D) 35 (0, 0))) (hd : a.defers = []) (hR : R (.returned (.tuple #[vd D, a.tmps.getD u undef])) w) : bodyPost Tryd.prog fn R .ret a w := by
  refine bodyPost_ret (v := .tuple #[vd D, a.tmps.getD u undef]) ?_ hd hR
  rw [results_cell_tmp h, hp]
  have hl := run_loadVar_row (P := Tryd.prog) w g 35 35 (cb D) (0, 0) _ hg Tryd.underlying35 rfl (infoDg D hD)
  simp only [asAddr, Sem.run_pure, Result.andThen_ok, hl]
set_option maxHeartbeats 3200000 in
set_option maxRecDepth 100000 in
theorem troot_yes (A : Option Addr) (c : Nat) (xs : List Fl) (w : World) (hr : KF.C w A xs.length xs) (hc : xs.length ≤ c) (hx : ∀ x ∈ xs, x.1.size ≤ 9223372036854775807) (hb : ∀ x ∈ xs, Sha.bytes x.2) (hm : mayT xs = true) (hT : Sha.Tab w) :
    Calls Tryd.prog 22 #[.slice A xs.length c] w fun e w' => e = .returned (.tuple #[vd (rootOf (treeB xs)), .int .i64 0]) ∧ Below w.heap.size w w' := by
  have HR := Aside0.mk hr
  have HX := Aside0.mk hx
  have HM := Aside0.mk hm
  have HTAB := Aside0.mk hT
  have HY := Aside0.mk (tree_bytes (mayT_ok hm).1 (mayT_ok hm).2 hb)
  have HL := Aside0.mk (tree_len (mayT_ok hm).1 (mayT_ok hm).2)
  have HSL := Aside0.mk (show (rootOf (treeB xs)).length = 32 by unfold rootOf Sha.rootI; exact Sha.shaI_len _)
  clear hr hx hm hb hT
  generalize hD : rootOf (treeB xs) = D at HSL
  have HDD := Aside0.mk hD
  clear hD
  go_enter Tryd.func22, Tryd.ntmps22
  go_upto_region 1 with (fail)
  obtain ⟨w1, hw1, HB1, HD, HZ1⟩ := dg_start w
  rw [hw1]
  clear hw1
  go_wp2_with fail
  refine (tbytes_yes A c xs _ (Kd.C_below HR.out HB1.out) hc HX.out HM.out).mono ?_
  rintro e w2 ⟨v, rfl, ho, hb⟩
  obtain ⟨A3, c3, rfl, hc3, hr3⟩ := Kd.R_reads ho
  have HR3 := Aside0.mk hr3
  have HB2 := Aside0.mk (below_step HB1.out hb)
  have HD2 := Aside0.mk (heap_keep HD.out hb)
  clear ho hb hr3
  generalize treeB xs = t at HR3 hc3 HY HL HDD ⊢
  go_wp2_with fail
  refine (Root_calls A3 c3 t _ HR3.out hc3 HY.out (by have := HL.out; omega) (HTAB.out.below HB2.out)).mono ?_
  rintro e w3 ⟨rfl, hb⟩
  have HB3 := Aside0.mk (below_step HB2.out hb)
  have HD3 := Aside0.mk (heap_keep HD2.out hb)
  clear hb
  rw [HDD.out]
  go_wp2_with (first | (refine wpList_store_row rfl 35 (.tmp 2) (.tmp 16) rfl w.heap.size (cb D) rfl rfl 35 _ HD3.out (infoDg _ HSL.out) (by rw [cb_size, cb_size, HSL.out]; simp) (cb_one _) ?_))
  (try simp only [Exit.inBlock, Exit.then])
  exact dg_ret2 rfl rfl HSL.out (setRow_heap _ _ _ _ _ _ HD3.out) rfl ⟨rfl, below_setRow HB3.out (Nat.le_refl _) _⟩
end Go.Proofs.YtlojemnmdakfiaaDoor.Tr
end
section
namespace Go.Proofs.YtlojemnmdakfiaaDoor.Ac
open Go.RowKit Go.Proofs.YtlojemnmdakfiaaDoorW.PrintWords Go.Proofs.YtlojemnmdakfiaaDoorW.PrintLast Go.Proofs.YtlojemnmdakfiaaDoorW.PrintMore
set_option linter.unusedVariables false
set_option linter.unusedSimpArgs false
open Go.Proofs.YtlojemnmdakfiaaDoor.Prog6 (Ins KP mayP szOk progB)
open Go.Proofs.YtlojemnmdakfiaaDoor.Tr
open Go.Proofs.YtlojemnmdakfiaaDoor.Hand (formL rowL)
structure Arg (w : World) (A : Option Addr) (c : Nat) (p : List Ins) (A2 : Option Addr) (c2 : Nat) (t : List Fl) : Prop where
  hp : KP.C w A p.length p
  lp : p.length ≤ c
  sp : ∀ x ∈ p, szOk x
  ht : KF.C w A2 t.length t
  lt : t.length ≤ c2
  st : ∀ x ∈ t, x.1.size ≤ 9223372036854775807
  bt : ∀ x ∈ t, Sha.bytes x.2
  t6 : Prog6.Tab w
  ts : Sha.Tab w
theorem Arg.below {w w' : World} {A : Option Addr} {c : Nat} {p : List Ins} {A2 : Option Addr} {c2 : Nat} {t : List Fl} (h : Arg w A c p A2 c2 t) (hb : Below w.heap.size w w') : Arg w' A c p A2 c2 t :=
  ⟨Kd.C_below h.hp hb, h.lp, h.sp, Kd.C_below h.ht hb, h.lt, h.st, h.bt, h.t6.below hb, h.ts.below hb⟩
abbrev cA (A : Option Addr) (n c : Nat) (A2 : Option Addr) (n2 c2 : Nat) (f : Int) : Array Value := #[.slice A n c, .slice A2 n2 c2, .int .i64 f]
def BoxA (w : World) (b : Nat) (A : Option Addr) (n c : Nat) (A2 : Option Addr) (n2 c2 : Nat) (f : Int) : Prop := w.heap[b]? = some (.cells (cA A n c A2 n2 c2 f) 26 (0, 0))
theorem BoxA.cu {w : World} {b : Nat} {A : Option Addr} {n c : Nat} {A2 : Option Addr} {n2 c2 : Nat} {f : Int} (h : BoxA w b A n c A2 n2 c2 f) : w.cell? ⟨b, 0, none⟩ = some (.slice A n c) ∧ w.cell? ⟨b, 1, none⟩ = some (.slice A2 n2 c2) ∧ w.cell? ⟨b, 2, none⟩ = some (.int .i64 f) := by
  refine ⟨?_, ?_, ?_⟩ <;> simp [World.cell?, show w.heap[b]? = _ from h]
theorem BoxA.below {w w' : World} {b : Nat} {A : Option Addr} {n c : Nat} {A2 : Option Addr} {n2 c2 : Nat} {f : Int} (h : BoxA w b A n c A2 n2 c2 f) (hb : Below w.heap.size w w') : BoxA w' b A n c A2 n2 c2 f :=
  (hb.block b (Array.getElem?_eq_some_iff.1 h).1).trans h
def mayA (p : List Ins) (t : List Fl) (f : Int) : Bool := mayP p && mayT t && decide (0 ≤ f) && decide (f ≤ 20000)
theorem pmay_at {b : Bool} (A : Option Addr) (c : Nat) (xs : List Ins) (w : World) (hr : KP.C w A xs.length xs) (hc : xs.length ≤ c) (hT : Prog6.Tab w) (hx : ∀ x ∈ xs, szOk x) (hm : mayP xs = b) :
    Calls Tryd.prog 26 #[.slice A xs.length c] w fun e w' => e = .returned (.bool b) ∧ Below w.heap.size w w' := by
  subst hm
  exact Prog6.may_calls A c xs w hr hc hT hx
set_option maxHeartbeats 3200000 in
set_option maxRecDepth 100000 in
theorem amay_calls (A : Option Addr) (c : Nat) (p : List Ins) (A2 : Option Addr) (c2 : Nat) (t : List Fl) (f : Int) (w : World) (h : Arg w A c p A2 c2 t) :
    Calls Tryd.prog 11 #[.agg (cA A p.length c A2 t.length c2 f)] w fun e w' => e = .returned (.bool (mayA p t f)) ∧ Below w.heap.size w w' := by
  have HA := Aside0.mk h
  clear h
  unfold mayA
  obtain ⟨b1, hb1⟩ : ∃ b, mayP p = b := ⟨_, rfl⟩
  obtain ⟨b2, hb2⟩ : ∃ b, mayT t = b := ⟨_, rfl⟩
  obtain ⟨b3, hb3⟩ : ∃ b, decide (0 ≤ f) = b := ⟨_, rfl⟩
  obtain ⟨b4, hb4⟩ : ∃ b, decide (f ≤ 20000) = b := ⟨_, rfl⟩
  have hb3' : decide (f ≥ 0) = b3 := hb3
  rw [hb1, hb2, hb3, hb4]
  have HMP := Aside0.mk hb1
  have HMT := Aside0.mk hb2
  clear hb1 hb2
  obtain ⟨g, hg⟩ : ∃ g, w.heap.size = g := ⟨_, rfl⟩
  obtain ⟨w1, hw1, hw1h⟩ : ∃ w1, w.alloc (.cells (cA A p.length c A2 t.length c2 f) 26) = w1 ∧ w1.heap[w.heap.size]? = some (.cells (cA A p.length c A2 t.length c2 f) 26 (0, 0)) := ⟨_, rfl, Sha.heap_new _ _⟩
  have hbb : Below w.heap.size w w1 := by rw [← hw1]; exact (Below.refl _ _).alloc (Nat.le_refl _) _
  rw [hg] at hw1h
  have HX := Aside0.mk (show BoxA w1 g A p.length c A2 t.length c2 f from hw1h)
  have HB1 := Aside0.mk hbb
  have HA1 := Aside0.mk (HA.out.below hbb)
  obtain ⟨o0, o1, o2⟩ := HX.out.cu
  have HW := Aside0.mk hw1
  have HG := Aside0.mk hg
  clear hw1 hw1h hbb hg
  go_enter Tryd.func11, Tryd.ntmps11
  go_upto_region 1 with (fail)
  rw [HW.out, HG.out]
  go_wp2_with fail
  refine (pmay_at A c p _ HA1.out.hp HA1.out.lp HA1.out.t6 HA1.out.sp HMP.out).mono ?_
  rintro e w2 ⟨rfl, hb⟩
  have HB2 := Aside0.mk (below_step HB1.out hb)
  have HA2 := Aside0.mk (HA1.out.below hb)
  obtain ⟨o0, o1, o2⟩ := (HX.out.below hb).cu
  have HX2 := Aside0.mk (HX.out.below hb)
  clear hb
  rcases b1 with _ | _
  · simp only [Bool.false_and]
    go_wp2
    go_ret
    exact ⟨rfl, HB2.out⟩
  go_wp2_with fail
  clear o0 o1 o2
  refine (tmay_at A2 c2 t _ HA2.out.ht HA2.out.lt HA2.out.st HMT.out).mono ?_
  rintro e w3 ⟨rfl, hb⟩
  have HB3 := Aside0.mk (below_step HB2.out hb)
  obtain ⟨o0, o1, o2⟩ := (HX2.out.below hb).cu
  clear hb
  rcases b2 with _ | _
  · simp only [Bool.false_and, Bool.and_false, Bool.true_and]
    go_wp2
    go_ret
    exact ⟨rfl, HB3.out⟩
  rcases b3 with _ | _
  · simp only [Bool.false_and, Bool.and_false, Bool.true_and]
    go_wp2
    go_ret
    exact ⟨rfl, HB3.out⟩
  rcases b4 with _ | _
  · simp only [Bool.false_and, Bool.and_false, Bool.true_and]
    go_wp2
    go_ret
    exact ⟨rfl, HB3.out⟩
  simp only [Bool.true_and]
  go_wp2
  go_ret
  exact ⟨rfl, HB3.out⟩
end Go.Proofs.YtlojemnmdakfiaaDoor.Ac
end
section
namespace Go.Proofs.YtlojemnmdakfiaaDoor.Open
open Go.RowKit Go.Proofs.YtlojemnmdakfiaaDoorW.PrintWords Go.ChangeShapes Go.Deep
open Go.Proofs.YtlojemnmdakfiaaDoor.Prog6 (Ins KP szOk flds fieldB KP_of)
open Go.Proofs.YtlojemnmdakfiaaDoor.Sha (fTab kTab)
open Go.Proofs.YtlojemnmdakfiaaDoor.Tr (Fl KF)
set_option linter.unusedVariables false
set_option linter.unusedSimpArgs false
set_option maxRecDepth 100000
def okI (x : Ins) : Prop := (Lit.int .u8 x.1).wf = true ∧ (x.2.1.size ≤ maxLen ∧ x.2.2.1.size ≤ maxLen ∧ x.2.2.2.1.size ≤ maxLen) ∧ (Lit.int .i64 x.2.2.2.2.1).wf = true ∧ (Lit.int .i64 x.2.2.2.2.2).wf = true
theorem opn_t68 : Opn Tryd.prog 68 KP okI (fun _ => 0) := ⟨fun h => by
  obtain ⟨xs, n, rfl, hx, hc, hl, hf⟩ := DataW.trod_struct Tryd.underlying68 h
  have hc6 : _ = 6 := hc.trans (by kernel_rfl)
  rename_i cs _ _
  match cs, hc6 with
  | [c0, c1, c2, c3, c4, c5], _ =>
    match xs, hl with
    | [y0, y1, y2, y3, y4, y5], _ =>
      have h0 := hf 0 _ rfl
      have h1 := hf 1 _ rfl
      have h2 := hf 2 _ rfl
      have h3 := hf 3 _ rfl
      have h4 := hf 4 _ rfl
      have h5 := hf 5 _ rfl
      have e0 : Tryd.prog.cellsOf 5 = 1 := by kernel_rfl
      have e1 : Tryd.prog.cellsOf 9 = 1 := by kernel_rfl
      have e2 : Tryd.prog.cellsOf 3 = 1 := by kernel_rfl
      simp only [e0, e1, e2, List.drop_zero, List.drop_succ_cons, List.take_succ_cons, List.take_zero, List.getElem?_cons_zero, List.getElem?_cons_succ] at h0 h1 h2 h3 h4 h5
      obtain ⟨n0, a0, _, w0⟩ := DataW.trod_int Tryd.underlying5 h0
      obtain ⟨n1, a1, _, w1⟩ := DataW.trod_string Tryd.underlying9 h1
      obtain ⟨n2, a2, _, w2⟩ := DataW.trod_string Tryd.underlying9 h2
      obtain ⟨n3, a3, _, w3⟩ := DataW.trod_string Tryd.underlying9 h3
      obtain ⟨n4, a4, _, w4⟩ := DataW.trod_int Tryd.underlying3 h4
      obtain ⟨n5, a5, _, w5⟩ := DataW.trod_int Tryd.underlying3 h5
      cases a0
      cases a1
      cases a2
      cases a3
      cases a4
      cases a5
      exact ⟨(n0, n1, n2, n3, n4, n5), KP_of _ _, ⟨w0, ⟨w1, w2, w3⟩, w4, w5⟩, Nat.zero_le _⟩⟩
theorem okI.sz {x : Ins} (h : okI x) : szOk x := by
  obtain ⟨_, ⟨a, b, c⟩, _⟩ := h
  unfold maxLen at a b c
  exact ⟨by omega, by omega, by omega⟩
def okF (x : Fl) : Prop := x.1.size ≤ maxLen ∧ ∀ y ∈ x.2, (Lit.int .u8 y).wf = true
abbrev Act3 := List Ins × List Fl × Int
abbrev k_t26 : Kd Act3 := Kd.pair (Kd.slice 68 KP) (Kd.pair (Kd.slice 50 KF) (Kd.int .i64))
def okA (x : Act3) : Prop := (∀ y ∈ x.1, okI y) ∧ (∀ y ∈ x.2.1, okF y) ∧ (Lit.int .i64 x.2.2).wf = true
theorem act_cells {w : World} {x : Act3} {cs : Array Value} (h : k_t26.K w x cs.toList) : ∃ A c A2 c2, cs = Ac.cA A x.1.length c A2 x.2.1.length c2 x.2.2 ∧ x.1.length ≤ c ∧ x.2.1.length ≤ c2 ∧ KP.C w A x.1.length x.1 ∧ KF.C w A2 x.2.1.length x.2.1 := by
  obtain ⟨a, r, e, ⟨A, c, e1, h1, h2⟩, a2, r2, e2, ⟨A2, c2, e3, h3, h4⟩, h5⟩ := h
  have h6 : r2 = [.int .i64 x.2.2] := h5
  subst e1 e3 h6 e2
  refine ⟨A, c, A2, c2, ?_, h1, h3, h2, h4⟩
  obtain ⟨cl⟩ := cs
  have e4 : cl = _ := e
  rw [e4]
  rfl
theorem okA.arg {w : World} {x : Act3} {A : Option Addr} {c : Nat} {A2 : Option Addr} {c2 : Nat} (h : okA x) (h1 : x.1.length ≤ c) (h2 : x.2.1.length ≤ c2) (h3 : KP.C w A x.1.length x.1) (h4 : KF.C w A2 x.2.1.length x.2.1) (hT : Prog6.Tab w ∧ Sha.Tab w) : Ac.Arg w A c x.1 A2 c2 x.2.1 :=
  ⟨h3, h1, fun y hy => (h.1 y hy).sz, h4, h2, fun y hy => by have := (h.2.1 y hy).1; unfold maxLen at this; omega, fun y hy z hz => by have := bounds_u8 ((h.2.1 y hy).2 z hz); omega, hT.1, hT.2⟩
theorem gF : Tryd.prog.globalNamed "murmuration/sha.first" = some 0 := by kernel_rfl
theorem gP : Tryd.prog.globalNamed "murmuration/program.fields" = some 1 := by kernel_rfl
theorem gK : Tryd.prog.globalNamed "murmuration/sha.k" = some 2 := by kernel_rfl
theorem tF : (Tryd.prog.globals[0]?).map (·.type) = some 59 := by kernel_rfl
theorem tP : (Tryd.prog.globals[1]?).map (·.type) = some 99 := by kernel_rfl
theorem tK : (Tryd.prog.globals[2]?).map (·.type) = some 60 := by kernel_rfl
theorem cU : Tryd.prog.cellsOf 58 = 1 := by kernel_rfl
theorem cS : Tryd.prog.cellsOf 9 = 1 := by kernel_rfl
abbrev laidF {H : Type} : List (String × DataW H) := [("murmuration/sha.k", Rows.laid_murmuration_sha_k), ("murmuration/sha.first", Rows.laid_murmuration_sha_first), ("murmuration/program.fields", Rows.laid_murmuration_program_fields)]
theorem datP {H : Type} : (Rows.laid_murmuration_program_fields : DataW H) = .agg ((List.range 12).map fun op => .lit (.string (flds op))) := rfl
theorem datF {H : Type} : (Rows.laid_murmuration_sha_first : DataW H) = .agg (fTab.map fun x => .lit (.int .u32 x)) := rfl
theorem datK {H : Type} : (Rows.laid_murmuration_sha_k : DataW H) = .agg (kTab.map fun x => .lit (.int .u32 x)) := rfl
theorem at_drop {α : Type} {l : List α} {k : Nat} {v : α} (h : (l.drop (k * 1)).take 1 = [v]) : l[k]? = some v := by
  rw [Nat.mul_one] at h
  have h2 : ((l.drop k).take 1)[0]? = some v := by rw [h]; rfl
  rw [List.getElem?_take_of_lt (by omega), List.getElem?_drop] at h2
  simpa using h2
theorem tab_of_laid {W : World} (h : laidMetH Tryd.prog laidF W) : Prog6.Tab W ∧ Sha.Tab W := by
  rw [MakeChecks.laidMetH_plain _ _ _ (by kernel_rfl)] at h
  obtain ⟨ps, ⟨g0, t0, cs0, f0, p0, q0, hg0, ht0, hv0, hd0, ⟨g1, t1, cs1, f1, p1, q1, hg1, ht1, hv1, hd1, ⟨g2, t2, cs2, f2, p2, q2, hg2, ht2, hv2, hd2, _, _⟩, _⟩, _⟩, _, _⟩ := h
  obtain rfl := Option.some.inj (gK.symm.trans hg0)
  obtain rfl := Option.some.inj (tK.symm.trans ht0)
  obtain rfl := Option.some.inj (gF.symm.trans hg1)
  obtain rfl := Option.some.inj (tF.symm.trans ht1)
  obtain rfl := Option.some.inj (gP.symm.trans hg2)
  obtain rfl := Option.some.inj (tP.symm.trans ht2)
  obtain ⟨zs, m3, rfl, hz1, hlen3, hn3, hel3⟩ := DataW.trod_array Tryd.underlying99 hd2
  obtain ⟨xs, m1, rfl, hx1, hlen, hn, hel⟩ := DataW.trod_array Tryd.underlying60 hd0
  obtain ⟨ys, m2, rfl, hy1, hlen2, hn2, hel2⟩ := DataW.trod_array Tryd.underlying59 hd1
  have keyK : ∀ i, i < 64 → W.cell? ⟨2, i, none⟩ = some (.int .u32 (rd kTab (i : Int))) := by
    intro i hi
    have h1 := hel i hi
    rw [cU] at h1
    obtain ⟨y, hy⟩ : ∃ y, xs[i]? = some y := ⟨_, List.getElem?_eq_getElem (by omega)⟩
    rw [hy] at h1
    obtain ⟨v, e1, e2, _⟩ := DataW.trod_int Tryd.underlying58 h1
    rw [datK] at hx1
    have hx2 := congrArg (fun l => l[i]?) (DataW.agg.inj (Prod.mk.inj hx1).1)
    simp only [List.getElem?_map, hy] at hx2
    have hkl : i < kTab.length := hi
    have hrd : rd kTab (i : Int) = v := by
      unfold rd
      rw [Int.toNat_natCast, List.getD_eq_getElem?_getD]
      rw [List.getElem?_eq_getElem hkl] at hx2 ⊢
      rw [e2] at hx2
      simpa using hx2
    rw [hrd]
    have h3 := World.var?_cell hg0 hv0 i
    have h4 := at_drop e1
    rw [Array.getElem?_toList] at h4
    exact h3.trans h4
  have keyF : ∀ i, i < 8 → W.cell? ⟨0, i, none⟩ = some (.int .u32 (rd fTab (i : Int))) := by
    intro i hi
    have h1 := hel2 i hi
    rw [cU] at h1
    obtain ⟨y, hy⟩ : ∃ y, ys[i]? = some y := ⟨_, List.getElem?_eq_getElem (by omega)⟩
    rw [hy] at h1
    obtain ⟨v, e1, e2, _⟩ := DataW.trod_int Tryd.underlying58 h1
    rw [datF] at hy1
    have hx2 := congrArg (fun l => l[i]?) (DataW.agg.inj (Prod.mk.inj hy1).1)
    simp only [List.getElem?_map, hy] at hx2
    have hkl : i < fTab.length := hi
    have hrd : rd fTab (i : Int) = v := by
      unfold rd
      rw [Int.toNat_natCast, List.getD_eq_getElem?_getD]
      rw [List.getElem?_eq_getElem hkl] at hx2 ⊢
      rw [e2] at hx2
      simpa using hx2
    rw [hrd]
    have h3 := World.var?_cell hg1 hv1 i
    have h4 := at_drop e1
    rw [Array.getElem?_toList] at h4
    exact h3.trans h4
  have key : ∀ op, op < 12 → W.cell? ⟨1, op, none⟩ = some (.string (fieldB op)) := by
    intro op hop
    have h1 := hel3 op hop
    rw [cS] at h1
    obtain ⟨y, hy⟩ : ∃ y, zs[op]? = some y := ⟨_, List.getElem?_eq_getElem (by omega)⟩
    rw [hy] at h1
    obtain ⟨s, e1, e2, _⟩ := DataW.trod_string Tryd.underlying9 h1
    rw [datP] at hz1
    have hx2 := congrArg (fun l => l[op]?) (DataW.agg.inj (Prod.mk.inj hz1).1)
    simp only [List.getElem?_map, hy, Option.map_some] at hx2
    rw [List.getElem?_range hop] at hx2
    have hs : s.data.toList = flds op := by
      rw [e2] at hx2
      simpa using hx2.symm
    have hs2 : s = fieldB op := by
      obtain ⟨⟨l⟩⟩ := s
      have : l = flds op := hs
      subst this
      rfl
    rw [← hs2]
    have h3 := World.var?_cell hg2 hv2 op
    have h4 := at_drop e1
    rw [Array.getElem?_toList] at h4
    exact h3.trans h4
  refine ⟨⟨?_, key⟩, ?_, keyK, keyF⟩
  · exact World.block_lt_of_cell? W _ (key 0 (by omega))
  · exact World.block_lt_of_cell? W _ (keyK 0 (by omega))
theorem door_met (os : Os) (args : Array Value) : laidMetH Tryd.prog laidF ((World.doorLaid Tryd.prog 400 os).forCall (fun _ _ => 0) ⟨#[], args, []⟩).memory :=
  laidMetH_of_parts3 (fuel := 8) (laidMet_of_run' 8 (by kernel_rfl) (by kernel_rfl)) (by kernel_rfl) (by kernel_rfl)
end Go.Proofs.YtlojemnmdakfiaaDoor.Open
end
section
namespace Go.Proofs.YtlojemnmdakfiaaDoor.Ac
open Go.RowKit Go.Proofs.YtlojemnmdakfiaaDoorW.PrintWords Go.Proofs.YtlojemnmdakfiaaDoorW.PrintLast Go.Proofs.YtlojemnmdakfiaaDoorW.PrintMore
set_option linter.unusedVariables false
set_option linter.unusedSimpArgs false
open Go.Proofs.YtlojemnmdakfiaaDoor.Prog6 (Ins KP mayP szOk progB)
open Go.Proofs.YtlojemnmdakfiaaDoor.Tr
open Go.Proofs.YtlojemnmdakfiaaDoor.Hand
def actB (p : List Ins) (t : List Fl) (f : Nat) : List Int := (rowL (progB p) ++ Sha.rootOf (treeB t)) ++ formL f
theorem amay_at {b : Bool} (A : Option Addr) (c : Nat) (p : List Ins) (A2 : Option Addr) (c2 : Nat) (t : List Fl) (f : Int) (w : World) (h : Arg w A c p A2 c2 t) (hm : mayA p t f = b) :
    Calls Tryd.prog 11 #[.agg (cA A p.length c A2 t.length c2 f)] w fun e w' => e = .returned (.bool b) ∧ Below w.heap.size w w' := by
  subst hm
  exact amay_calls A c p A2 c2 t f w h
set_option maxHeartbeats 3200000 in
set_option maxRecDepth 100000 in
theorem abytes_no (A : Option Addr) (c : Nat) (p : List Ins) (A2 : Option Addr) (c2 : Nat) (t : List Fl) (f : Int) (w : World) (h : Arg w A c p A2 c2 t) (hm : mayA p t f = false) :
    Calls Tryd.prog 9 #[.agg (cA A p.length c A2 t.length c2 f)] w fun e w' => e = .returned (.tuple #[.slice none 0 0, .int .i64 2]) ∧ Below w.heap.size w w' := by
  have HA := Aside0.mk h
  have HM := Aside0.mk hm
  clear h hm
  obtain ⟨g, hg⟩ : ∃ g, w.heap.size = g := ⟨_, rfl⟩
  obtain ⟨w1, hw1, hw1h⟩ : ∃ w1, w.alloc (.cells (cA A p.length c A2 t.length c2 f) 26) = w1 ∧ w1.heap[w.heap.size]? = some (.cells (cA A p.length c A2 t.length c2 f) 26 (0, 0)) := ⟨_, rfl, Sha.heap_new _ _⟩
  have hbb : Below w.heap.size w w1 := by rw [← hw1]; exact (Below.refl _ _).alloc (Nat.le_refl _) _
  rw [hg] at hw1h
  have HX := Aside0.mk (show BoxA w1 g A p.length c A2 t.length c2 f from hw1h)
  have HB1 := Aside0.mk hbb
  have HA1 := Aside0.mk (HA.out.below hbb)
  obtain ⟨o0, o1, o2⟩ := HX.out.cu
  have HW := Aside0.mk hw1
  have HG := Aside0.mk hg
  clear hw1 hw1h hbb hg
  go_enter Tryd.func9, Tryd.ntmps9
  go_upto_region 1 with (fail)
  rw [HW.out, HG.out]
  go_wp2_with fail
  refine (amay_at A c p A2 c2 t f _ HA1.out HM.out).mono ?_
  rintro e w2 ⟨rfl, hb⟩
  have HB2 := Aside0.mk (below_step HB1.out hb)
  clear hb o0 o1 o2
  go_wp2
  go_ret2
  exact ⟨rfl, HB2.out⟩
set_option maxHeartbeats 3200000 in
set_option maxRecDepth 100000 in
theorem abytes_yes (A : Option Addr) (c : Nat) (p : List Ins) (A2 : Option Addr) (c2 : Nat) (t : List Fl) (f : Nat) (w : World) (h : Arg w A c p A2 c2 t) (hm : mayA p t f = true) :
    Calls Tryd.prog 9 #[.agg (cA A p.length c A2 t.length c2 f)] w fun e w' => ∃ v, e = .returned (.tuple #[v, .int .i64 0]) ∧ Kd.R B 5 w' w.heap.size (fun _ => True) v (actB p t f) ∧ Below w.heap.size w w' := by
  have HA := Aside0.mk h
  have HM := Aside0.mk hm
  have hm' := hm
  unfold mayA at hm'
  simp only [Bool.and_eq_true, decide_eq_true_eq] at hm'
  obtain ⟨⟨⟨hmp, hmt⟩, _⟩, hf⟩ := hm'
  have HMP := Aside0.mk hmp
  have HMT := Aside0.mk hmt
  have HPL := Aside0.mk (show (progB p).length ≤ 6000 by
    obtain ⟨h1, h2⟩ := Prog6.may_ok hmp
    have h3 := formL_len p.length (by omega)
    have h4 := Prog6.len_flat h2
    unfold progB
    simp only [List.length_append]
    omega)
  have HSL := Aside0.mk (show (Sha.rootOf (treeB t)).length = 32 by unfold Sha.rootOf Sha.rootI; exact Sha.shaI_len _)
  have HE := Aside0.mk (show actB p t f = (rowL (progB p) ++ Sha.rootOf (treeB t)) ++ formL f from rfl)
  have hwf : IntKind.u64.wrap (f : Int) = (f : Int) := by simp [IntKind.wrap, IntKind.bits, IntKind.signed]; omega
  clear h hm hmp hmt
  obtain ⟨g, hg⟩ : ∃ g, w.heap.size = g := ⟨_, rfl⟩
  obtain ⟨w1, hw1, hw1h⟩ : ∃ w1, w.alloc (.cells (cA A p.length c A2 t.length c2 f) 26) = w1 ∧ w1.heap[w.heap.size]? = some (.cells (cA A p.length c A2 t.length c2 f) 26 (0, 0)) := ⟨_, rfl, Sha.heap_new _ _⟩
  have hbb : Below w.heap.size w w1 := by rw [← hw1]; exact (Below.refl _ _).alloc (Nat.le_refl _) _
  rw [hg] at hw1h
  have HX := Aside0.mk (show BoxA w1 g A p.length c A2 t.length c2 f from hw1h)
  have HB1 := Aside0.mk hbb
  have HA1 := Aside0.mk (HA.out.below hbb)
  obtain ⟨o0, o1, o2⟩ := HX.out.cu
  have HW := Aside0.mk hw1
  have HG := Aside0.mk hg
  clear hw1 hw1h hbb hg
  go_enter Tryd.func9, Tryd.ntmps9
  go_upto_region 1 with (fail)
  rw [HW.out, HG.out]
  go_wp2_with fail
  refine (amay_at A c p A2 c2 t f _ HA1.out HM.out).mono ?_
  rintro e w2 ⟨rfl, hb⟩
  have HB2 := Aside0.mk (below_step HB1.out hb)
  have HA2 := Aside0.mk (HA1.out.below hb)
  replace HX := Aside0.mk (HX.out.below hb)
  clear hb o0 o1 o2
  obtain ⟨o0, o1, o2⟩ := HX.out.cu
  go_wp2_with fail
  refine (Prog6.pbytes_calls A c p _ HA2.out.hp HA2.out.lp HA2.out.t6 HA2.out.sp).mono ?_
  rintro e w3 ⟨v3, er, rfl, _, hyes, hb⟩
  obtain ⟨rfl, ho⟩ := hyes HMP.out
  have HO3 := Aside0.mk (Kd.R_lower ho HB2.out.size)
  have HB3 := Aside0.mk (below_step HB2.out hb)
  have HA3 := Aside0.mk (HA2.out.below hb)
  replace HX := Aside0.mk (HX.out.below hb)
  clear ho hb hyes o0 o1 o2 HA2 HB2
  obtain ⟨o0, o1, o2⟩ := HX.out.cu
  go_wp2_with fail
  refine (troot_yes A2 c2 t _ HA3.out.ht HA3.out.lt HA3.out.st HA3.out.bt HMT.out HA3.out.ts).mono ?_
  rintro e w4 ⟨rfl, hb⟩
  obtain ⟨A3, c3, rfl, hc3, hr3⟩ := Kd.R_reads HO3.out
  have HC4 := Aside0.mk (Kd.C_below hr3 hb)
  have HB4 := Aside0.mk (below_step HB3.out hb)
  replace HX := Aside0.mk (HX.out.below hb)
  clear hb hr3 o0 o1 o2 HA3 HB3 HO3
  generalize Sha.rootOf (treeB t) = D at HSL HE ⊢
  generalize progB p = P at HC4 HPL HE hc3 ⊢
  go_upto_region 5 with (first | (refine wpList_store_row rfl 35 (.tmp 6) (.tmp 23) rfl w4.heap.size (Sha.cb D) rfl rfl 35 _ (Sha.heap_new _ _) (Sha.infoDg _ HSL.out) (by rw [Sha.cb_size, HSL.out]; rfl) (Sha.cb_one _) ?_))
  obtain ⟨wz, hwz, HBz, HDz, HZz⟩ := Sha.dg_start w4
  rw [hwz]
  have hdg := setRow_heap _ _ _ (Sha.cb D) _ _ HDz.out
  have hbz := below_setRow HBz.out (Nat.le_refl _) (Sha.cb D)
  obtain ⟨w5, hw5⟩ : ∃ w5, wz.setRow w4.heap.size (Sha.cb D) = w5 := ⟨_, rfl⟩
  rw [hw5] at hdg hbz ⊢
  have HD5 := Aside0.mk hdg
  have HB5 := Aside0.mk (below_step HB4.out hbz)
  have HC5 := Aside0.mk (Kd.C_below HC4.out hbz)
  have HX5 := Aside0.mk (HX.out.below hbz)
  clear hwz hdg hbz hw5 HBz HDz HZz HX HC4
  generalize w4.heap.size = gd at HD5 ⊢
  go_wp2_with fail
  refine (appendBytes_calls none 0 [] A3 c3 P _ ⟨rfl, by simp, fun h => absurd h (by simp)⟩ (Nat.le_refl _) HC5.out hc3 (by have := HPL.out; simp; omega)).mono ?_
  rintro e w6 ⟨v6, rfl, ho, hb⟩
  rw [List.nil_append] at ho
  obtain ⟨A6, c6, rfl, hc6, hr6⟩ := Kd.R_reads ho
  have HO6 := Aside0.mk ho
  have HB6 := Aside0.mk hb
  have HRL := Aside0.mk (show (rowL P).length ≤ 6100 by have := HPL.out; have := formL_len P.length (by omega); unfold rowL; simp only [List.length_append]; omega)
  clear ho hb hr6
  generalize rowL P = Q at HO6 HRL HE hc6 ⊢
  go_upto_region 7 with (fail)
  go_upto_region 8 with (first | ((with_reducible refine gate_dst (N := 30) rfl ?_); refine Kd.R_append_zeros B (w0 := w5) w5.heap.size rfl (.tmp 29) (.const (.int .i64 32)) 30 3 5 (.int .u8 0) 1 rfl Tryd.underlying30 Tryd.underlying3 info5 (by rfl) (by decide) (by decide) _ Q 0 32 (fun _ => True) rfl rfl (by rfl) (fun _ _ => trivial) HO6.out (by decide) HB6.out HB6.out.size (by have := HRL.out; simp; omega) ?_; intro v8 w8 ho8 hb8 hg8 hat8; have HO8 := Aside0.mk ho8; have HB8 := Aside0.mk hb8; clear ho8 hb8 hg8 hat8))
  have hown := Kd.own_of_R HO8.out
  have hlq : (Q ++ List.replicate (Int.toNat 32) (0 : Int)).length = Q.length + 32 := by simp
  rw [hlq] at hown
  have HD8 := Aside0.mk (Sha.heap_keep HD5.out HB8.out)
  have hgd : gd < w5.heap.size := (Array.getElem?_eq_some_iff.1 HD5.out).1
  have HX8 := Aside0.mk (HX5.out.below HB8.out)
  rcases hown.2 with ⟨_, h0⟩ | ⟨gb, cap, cur, rfl, hBg, hgb, hnc, hcm, hcs, htk⟩
  · omega
  obtain ⟨cl, rfl⟩ : ∃ cl : List Value, cur = cl.toArray := ⟨cur.toList, by simp⟩
  have HG8 := Aside0.mk hgb
  have HTK := Aside0.mk htk
  have HCS := Aside0.mk (show Q.length + 32 ≤ cl.length by simpa using (show Q.length + 32 ≤ cl.toArray.size by omega))
  have hcap : cap ≤ 9223372036854775807 := by unfold maxLen at hcm; omega
  have hmin : (Sha.cb D).toList.length = 32 := by have := HSL.out; simp [Sha.cb, this]
  have HON : Aside0 (∀ v ∈ (Sha.cb D).toList, v.oneCell' = true) := ⟨fun v hv => by simp only [Sha.cb, List.mem_map] at hv; obtain ⟨x, _, rfl⟩ := hv; rfl⟩
  have HSR : Aside0 (∀ (j : Nat) (v : Value), (Sha.cb D).toList[j]? = some v → w8.cell? ((⟨gd, 0, none⟩ : Addr).add j) = some v) := ⟨fun j v hv => by
    rw [add_zero3, Nat.zero_add]
    exact (Sha.cell_of HD8.out).2 (by rwa [Array.getElem?_toList] at hv)⟩
  clear hown hgb htk hlq hcm hcs HO8
  obtain ⟨nq, hnq⟩ : ∃ nq, Q.length = nq := ⟨_, rfl⟩
  rw [hnq] at hnc HCS HTK ⊢
  replace hnq := Aside0.mk hnq
  have hle : (nq : Int) ≤ (nq : Int) + 32 := by omega
  have hne : ¬ cap = nq := by omega
  go_region_law (refine step_copy_splice rfl (.tmp 33) (.tmp 34) 30 30 rfl 5 Tryd.underlying30 (by kernel_rfl) _ _ _ _ _ _ rfl rfl gb nq cl _ HG8.out (Sha.cb D).toList (by rw [hmin]; first | rfl | (simp; done) | omega) (fun _ => ⟨rfl, _, rfl, HSR.out⟩) (by rw [hmin]; exact HCS.out) HON.out w5.heap.size w5 (by first | exact HB8.out | exact below_drew1 HB8.out) hBg ?_; intro w9 hg9 hb9)
  have HB9 := Aside0.mk (below_step HB5.out hb9)
  have hlen : (Q ++ D).length = nq + 32 := by rw [List.length_append, hnq.out, HSL.out]
  have HC9 := Aside0.mk (show B.C w9 (some ⟨gb, 0, none⟩) (Q ++ D).length (Q ++ D) from C_block .u8 (show w9.heap[gb]? = some (.cells (splice cl nq (Sha.cb D).toList).toArray 5 (0, 0)) from hg9) (Q ++ D) (fun j x hj => by
    have ht : cl.take nq = Q.map (Value.int .u8) := by
      have q := congrArg (List.take nq) HTK.out
      rw [List.take_take, show min nq ((nq + 32) * 1) = nq by omega] at q
      have q2 : (encs (Value.int IntKind.u8) (Q ++ List.replicate (Int.toNat 32) 0)).take nq = Q.map (Value.int .u8) := by
        unfold encs
        rw [List.map_append, List.take_append_of_le_length (by simp [hnq.out]), List.take_of_length_le (by simp [hnq.out])]
      rw [q2] at q
      simpa using q
    have he : (splice cl nq (Sha.cb D).toList) = (Q ++ D).map (Value.int .u8) ++ cl.drop (nq + (Sha.cb D).toList.length) := by
      unfold splice
      rw [ht, List.map_append, List.append_assoc]
      congr 1
    have hjl : j < (Q ++ D).length := (List.getElem?_eq_some_iff.1 hj).1
    rw [Nat.zero_add, List.getElem?_toArray, he, List.getElem?_append_left (by simpa using hjl), List.getElem?_map, hj]
    rfl) (by omega))
  have HX9 := Aside0.mk (HX5.out.below hb9)
  have hcl : (Q ++ D).length ≤ cap := by omega
  have hl2 : (Q ++ D).length ≤ 7000 := by have := HRL.out; have := hnq.out; omega
  clear hg9 hb9 HG8 HTK HCS HON HSR HD8 HX8 HD5 HX5 HO6 HC5 hle hne hmin hcap
  obtain ⟨o0, o1, o2⟩ := HX9.out.cu
  generalize Q ++ D = X at HC9 hlen hcl hl2 HE
  go_wp2_with fail
  have happ := appendUint_calls (some ⟨gb, 0, none⟩) cap X f w9 HC9.out hcl (by omega) (by omega)
  rw [hlen] at happ
  refine happ.mono ?_
  rintro e w10 ⟨v, rfl, ho, hb⟩
  have HO10 := Aside0.mk (Kd.R_lower ho HB9.out.size)
  have HB10 := Aside0.mk (below_step HB9.out hb)
  clear happ ho hb
  rw [← HE.out] at HO10
  go_wp2
  go_ret2
  exact ⟨v, rfl, HO10.out, HB10.out⟩
end Go.Proofs.YtlojemnmdakfiaaDoor.Ac
end
section
namespace Go.Proofs.YtlojemnmdakfiaaDoor.Ac
open Go.RowKit Go.Proofs.YtlojemnmdakfiaaDoorW.PrintWords Go.Proofs.YtlojemnmdakfiaaDoorW.PrintLast Go.Proofs.YtlojemnmdakfiaaDoorW.PrintMore
set_option linter.unusedVariables false
set_option linter.unusedSimpArgs false
open Go.Proofs.YtlojemnmdakfiaaDoor.Prog6 (Ins KP mayP szOk progB insB)
open Go.Proofs.YtlojemnmdakfiaaDoor.Tr
open Go.Proofs.YtlojemnmdakfiaaDoor.Hand
theorem progB_bytes {p : List Ins} (h : mayP p = true) : Sha.bytes (progB p) := by
  obtain ⟨h1, h2⟩ := Prog6.may_ok h
  refine bytes_app (formL_bytes _ (by omega)) (fun y hy => ?_)
  obtain ⟨r, hr, hyr⟩ := List.mem_flatten.1 hy
  obtain ⟨x, hx, rfl⟩ := List.mem_map.1 hr
  obtain ⟨⟨p1, p2⟩, p3, p4, p5, ⟨p6, p7⟩, p8, p9⟩ := h2 x hx
  refine bytes_app (formL_bytes _ (by omega)) (bytes_app (row_bytes (str_bytes _) (by rw [bytesOf_length]; omega)) (bytes_app (row_bytes (str_bytes _) (by rw [bytesOf_length]; omega)) (bytes_app (row_bytes (str_bytes _) (by rw [bytesOf_length]; omega)) (bytes_app (formL_bytes _ (by omega)) (formL_bytes _ (by omega)))))) y hyr
theorem progB_len {p : List Ins} (h : mayP p = true) : (progB p).length ≤ 6000 := by
  obtain ⟨h1, h2⟩ := Prog6.may_ok h
  have h3 := formL_len p.length (by omega)
  have h4 := Prog6.len_flat h2
  unfold progB
  simp only [List.length_append]
  omega
theorem root_len (l : List Int) : (Sha.rootOf l).length = 32 := by unfold Sha.rootOf Sha.rootI; exact Sha.shaI_len _
theorem root_bytes (l : List Int) : Sha.bytes (Sha.rootOf l) := by unfold Sha.rootOf Sha.rootI; exact Sha.shaI_bytes _
theorem actB_bytes {p : List Ins} (h : mayP p = true) (t : List Fl) (f : Nat) (hf : f ≤ 20000) : Sha.bytes (actB p t f) :=
  bytes_app (bytes_app (row_bytes (progB_bytes h) (by have := progB_len h; omega)) (root_bytes _)) (formL_bytes _ (by omega))
theorem actB_len {p : List Ins} (h : mayP p = true) (t : List Fl) (f : Nat) (hf : f ≤ 20000) : (actB p t f).length ≤ 7000 := by
  have h1 := progB_len h
  have h2 := formL_len (progB p).length (by omega)
  have h3 := formL_len f (by omega)
  have h4 := root_len (treeB t)
  unfold actB rowL
  simp only [List.length_append]
  omega
theorem actB_fuel {p : List Ins} {t : List Fl} {f g : Nat} (hf : f ≤ 20000) (hg : g ≤ 20000) : actB p t f = actB p t g ↔ f = g := by
  refine ⟨fun h => ?_, fun h => by rw [h]⟩
  exact formL_inj (by omega) (by omega) (List.append_cancel_left h)
theorem actB_prog {p q : List Ins} {t : List Fl} {f : Nat} (hp : mayP p = true) (hq : mayP q = true) : actB p t f = actB q t f ↔ p = q := by
  refine ⟨fun h => ?_, fun h => by rw [h]⟩
  unfold actB at h
  rw [List.append_assoc, List.append_assoc] at h
  exact (Prog6.progB_inj hp hq).1 (rowL_pre (by have := progB_len hp; omega) (by have := progB_len hq; omega) h).1
theorem key_ne : Sha.shaI (16 :: actB [] [] 1) ≠ Sha.shaI (16 :: actB [] [] 2) := by decide +kernel
end Go.Proofs.YtlojemnmdakfiaaDoor.Ac
end
section
namespace Go.Proofs.YtlojemnmdakfiaaDoor.Ac
open Go.RowKit Go.Proofs.YtlojemnmdakfiaaDoorW.PrintWords Go.Proofs.YtlojemnmdakfiaaDoorW.PrintLast Go.Proofs.YtlojemnmdakfiaaDoorW.PrintMore
set_option linter.unusedVariables false
set_option linter.unusedSimpArgs false
open Go.Proofs.YtlojemnmdakfiaaDoor.Prog6 (Ins KP mayP szOk progB)
open Go.Proofs.YtlojemnmdakfiaaDoor.Tr
open Go.Proofs.YtlojemnmdakfiaaDoor.Hand
set_option maxHeartbeats 3200000 in
set_option maxRecDepth 100000 in
theorem akey_yes (A : Option Addr) (c : Nat) (p : List Ins) (A2 : Option Addr) (c2 : Nat) (t : List Fl) (f : Nat) (w : World) (h : Arg w A c p A2 c2 t) (hm : mayA p t f = true) :
    Calls Tryd.prog 10 #[.agg (cA A p.length c A2 t.length c2 f)] w fun e w' => e = .returned (.tuple #[Sha.vd (Sha.shaI (16 :: actB p t f)), .int .i64 0]) ∧ Below w.heap.size w w' := by
  have HA := Aside0.mk h
  have HM := Aside0.mk hm
  have hm' := hm
  unfold mayA at hm'
  simp only [Bool.and_eq_true, decide_eq_true_eq] at hm'
  obtain ⟨⟨⟨hmp, hmt⟩, _⟩, hf⟩ := hm'
  have HL := Aside0.mk (actB_len hmp t f (by omega))
  have HY := Aside0.mk (actB_bytes hmp t f (by omega))
  have HSL := Aside0.mk (Sha.shaI_len (16 :: actB p t f))
  generalize hD : Sha.shaI (16 :: actB p t f) = D at HSL
  have HDD := Aside0.mk hD
  clear h hm hmp hmt hD hf
  go_enter Tryd.func10, Tryd.ntmps10
  go_upto_region 1 with (fail)
  obtain ⟨g, hg⟩ : ∃ g, w.heap.size = g := ⟨_, rfl⟩
  obtain ⟨wa, hwa, hwah⟩ : ∃ wa, w.alloc (.cells (cA A p.length c A2 t.length c2 f) 26) = wa ∧ wa.heap[w.heap.size]? = some (.cells (cA A p.length c A2 t.length c2 f) 26 (0, 0)) := ⟨_, rfl, Sha.heap_new _ _⟩
  have hba : Below w.heap.size w wa := by rw [← hwa]; exact (Below.refl _ _).alloc (Nat.le_refl _) _
  rw [hg] at hwah
  obtain ⟨w1, hw1, HBz, HDz, HZz⟩ := Sha.dg_start wa
  rw [hwa, hw1, hg]
  have HX1 := Aside0.mk (show BoxA w1 g A p.length c A2 t.length c2 f from (BoxA.below hwah HBz.out))
  have HB1 := Aside0.mk (below_step hba HBz.out)
  have HA1 := Aside0.mk (HA.out.below HB1.out)
  have hsz : wa.heap.size = g + 1 := by rw [← hwa, ← hg]; simp
  rw [hsz] at HDz
  have HGD := Aside0.mk (show w.heap.size ≤ g + 1 by omega)
  clear hsz
  clear hwa hwah hba hw1 HBz HZz
  obtain ⟨o0, o1, o2⟩ := HX1.out.cu
  go_wp2_with fail
  refine (abytes_yes A c p A2 c2 t f _ HA1.out HM.out).mono ?_
  rintro e w2 ⟨v, rfl, ho, hb⟩
  obtain ⟨A3, c3, rfl, hc3, hr3⟩ := Kd.R_reads ho
  have HC2 := Aside0.mk hr3
  have HB2 := Aside0.mk (below_step HB1.out hb)
  have HD2 := Aside0.mk (Sha.heap_keep HDz.out hb)
  have HT2 := Aside0.mk (HA1.out.ts.below hb)
  clear ho hb hr3 o0 o1 o2 HDz
  generalize actB p t f = X at HC2 HL HY HDD hc3 ⊢
  go_wp2_with fail
  refine (Sha.parts_calls 16 (some ⟨w2.heap.size, 0, none⟩) 1 [X] _ (C_rows_block _ (Sha.heap_new _ _) [X] (fun j x hj => ?_) (by simp)) (Nat.le_refl 1) (by decide) (by simpa using HY.out) (by have := HL.out; simp [Sha.flen]; omega) (HT2.out.below ((Below.refl _ _).alloc (Nat.le_refl _) _))).mono ?_
  · rcases j with _ | j
    · obtain rfl : X = x := by simpa using hj
      exact ⟨A3, c3, rfl, hc3, Kd.C_alloc HC2.out _⟩
    · simp at hj
  rintro e w3 ⟨rfl, hb⟩
  rw [show 16 :: [X].flatten = 16 :: X by simp, HDD.out]
  have hb2 : Below w2.heap.size w2 w3 := below_step ((Below.refl _ _).alloc (Nat.le_refl _) _) hb
  have HB3 := Aside0.mk (below_step HB2.out hb2)
  have HD3 := Aside0.mk (Sha.heap_keep HD2.out hb2)
  clear hb hb2
  go_wp2_with (first | (refine wpList_store_row rfl 35 (.tmp 2) (.tmp 17) rfl (g + 1) (Sha.cb D) rfl rfl 35 _ HD3.out (Sha.infoDg _ HSL.out) (by rw [Sha.cb_size, Sha.cb_size, HSL.out]; simp) (Sha.cb_one _) ?_))
  (try simp only [Exit.inBlock, Exit.then])
  exact dg_ret2 rfl rfl HSL.out (setRow_heap _ _ _ _ _ _ HD3.out) rfl ⟨rfl, below_setRow HB3.out HGD.out _⟩
end Go.Proofs.YtlojemnmdakfiaaDoor.Ac
end
section
namespace Go.Proofs.YtlojemnmdakfiaaDoor.Sha
open Go.RowKit Go.Proofs.YtlojemnmdakfiaaDoorW.PrintWords Go.Proofs.YtlojemnmdakfiaaDoorW.PrintLast Go.Proofs.YtlojemnmdakfiaaDoorW.PrintMore
set_option linter.unusedVariables false
set_option linter.unusedSimpArgs false
set_option maxRecDepth 100000
theorem cB : Tryd.prog.cellsOf 5 = 1 := by kernel_rfl
theorem plainB : Tryd.prog.plainKey 5 = true := by kernel_rfl
theorem eqItems_cb (a b : List Int) (d : Nat) (w : World) : ∀ is : List Nat, (∀ i ∈ is, i < a.length ∧ i < b.length) → (Op.eqItems (d + 1) 5 1 (cb a) (cb b) is).run Tryd.prog w = .ok (is.all fun i => rd a (i : Int) == rd b (i : Int)) w
  | [], _ => by simp [Op.eqItems]
  | i :: is, h => by
    obtain ⟨h1, h2⟩ := h i (by simp)
    have p1 := run_part_plain (P := Tryd.prog) (w := w) plainB (cb_get (xs := a) (j := i) (by omega))
    have p2 := run_part_plain (P := Tryd.prog) (w := w) plainB (cb_get (xs := b) (j := i) (by omega))
    have p3 := run_equalIn_int (P := Tryd.prog) (w := w) d 5 .u8 .u8 (rd a (i : Int)) (rd b (i : Int)) Tryd.underlying5
    have ih := eqItems_cb a b d w is (fun j hj => h j (by simp [hj]))
    simp only [Op.eqItems, Nat.mul_one, Sem.run_bind, p1, p2, p3, Result.andThen_ok]
    cases hz : (rd a (i : Int) == rd b (i : Int)) with
    | true => simpa [hz] using ih
    | false => simp [hz]
theorem info8 : ∃ i, Tryd.prog.info? 5 = some i := by
  obtain ⟨i, h, _⟩ := Option.map_eq_some_iff.1 info5
  exact ⟨i, h⟩
theorem eqD {a b : List Int} (ha : a.length = 32) (hb : b.length = 32) (w : World) : (Op.equalIn 10000 35 (vd a) (vd b)).run Tryd.prog w = .ok (decide (a = b)) w := by
  obtain ⟨i, hi⟩ := info8
  have h := run_equalIn_array (P := Tryd.prog) (w := w) 9999 (cb a) (cb b) Tryd.underlying35 hi
  rw [cB] at h
  rw [show (10000 : Nat) = 9999 + 1 from rfl, h, eqItems_cb a b 9998 w (List.range 32) (fun j hj => by have := List.mem_range.1 hj; omega)]
  congr 1
  rw [Bool.eq_iff_iff, List.all_eq_true, decide_eq_true_eq]
  constructor
  · intro hall
    apply List.ext_getElem (by omega)
    intro j h1 h2
    have := hall j (List.mem_range.2 (by omega))
    unfold rd at this
    rw [Int.toNat_natCast, List.getD_eq_getElem?_getD, List.getD_eq_getElem?_getD, List.getElem?_eq_getElem h1, List.getElem?_eq_getElem h2] at this
    simpa using this
  · rintro rfl j _
    simp
end Go.Proofs.YtlojemnmdakfiaaDoor.Sha
end
section
namespace Go.Proofs.YtlojemnmdakfiaaDoor.Ac
open Go.RowKit Go.Proofs.YtlojemnmdakfiaaDoorW.PrintWords Go.Proofs.YtlojemnmdakfiaaDoorW.PrintLast Go.Proofs.YtlojemnmdakfiaaDoorW.PrintMore
set_option linter.unusedVariables false
set_option linter.unusedSimpArgs false
open Go.Proofs.YtlojemnmdakfiaaDoor.Prog6 (Ins KP mayP szOk progB)
open Go.Proofs.YtlojemnmdakfiaaDoor.Tr
open Go.Proofs.YtlojemnmdakfiaaDoor.Hand
section
variable {P : Program} {ops : Array Oper} {rest : List Oper} {o : Oper} {a : Act} {Q : Exit → Act → World → Prop} {w : World}
theorem wpList_load_g (hw : Region.wanted o (yielded ops a.tmps) = true) (ty : TypeId) (x : Operand) (ho : o.op = .load ty x)
    (g : Nat) (hx : a.eval x = .pointer (some ⟨g, 0, none⟩)) (t : TypeId) (cs : Array Value) (fr : Nat × Nat) (d : TypeDesc) (hg : w.heap[g]? = some (.cells cs t fr))
    (hu : P.underlying ty = some d) (hd : (match d with | .struct _ | .array _ _ => true | _ => false) = true) (hi : (P.info? ty).map (·.size) = some cs.size)
    (h : wpList P ops Q rest (a.put o.dst (.agg cs)) w) : wpList P ops Q (o :: rest) a w :=
  wpList_step fun K hK => by
    rw [if_pos hw]
    exact wp_load_row ty x ho g hx t cs fr d hg hu hd hi (hK _ _ h)
end
theorem arg_nil {w : World} (h6 : Prog6.Tab w) (hs : Sha.Tab w) : Arg w none 0 [] none 0 [] :=
  ⟨⟨rfl, by simp, fun h => absurd h (by simp)⟩, Nat.le_refl _, fun x hx => by simp at hx, ⟨rfl, by simp, fun h => absurd h (by simp)⟩, Nat.le_refl _, fun x hx => by simp at hx, fun x hx => by simp at hx, h6, hs⟩
theorem key_nil (f : Nat) (hf : f ≤ 20000) (w : World) (h6 : Prog6.Tab w) (hs : Sha.Tab w) {D : List Int} (hD : Sha.shaI (16 :: actB [] [] f) = D) :
    Calls Tryd.prog 10 #[.agg #[.slice none 0 0, .slice none 0 0, .int .i64 (f : Int)]] w fun e w' => e = .returned (.tuple #[Sha.vd D, .int .i64 0]) ∧ Below w.heap.size w w' := by
  subst hD
  exact akey_yes none 0 [] none 0 [] f w (arg_nil h6 hs) (by unfold mayA; rw [decide_eq_true (by omega : (0 : Int) ≤ (f : Int)), decide_eq_true (by omega : (f : Int) ≤ 20000)]; rfl)
theorem may_nil (f : Int) (hf : f < 0 ∨ 20000 < f) (w : World) (h6 : Prog6.Tab w) (hs : Sha.Tab w) :
    Calls Tryd.prog 11 #[.agg #[.slice none 0 0, .slice none 0 0, .int .i64 f]] w fun e w' => e = .returned (.bool false) ∧ Below w.heap.size w w' := by
  have h := amay_calls none 0 [] none 0 [] f w (arg_nil h6 hs)
  rw [show mayA [] [] f = false by unfold mayA; rcases hf with h | h; (rw [decide_eq_false (by omega : ¬ (0 : Int) ≤ f), Bool.and_false, Bool.false_and]); (rw [decide_eq_false (by omega : ¬ f ≤ 20000), Bool.and_false])] at h
  exact h
set_option maxHeartbeats 3200000 in
set_option maxRecDepth 100000 in
theorem known_calls (w : World) (h6 : Prog6.Tab w) (hs : Sha.Tab w) : Calls Tryd.prog 7 #[] w fun e w' => e = .returned (.bool true) ∧ Below w.heap.size w w' := by
  have H6 := Aside0.mk h6
  have HS := Aside0.mk hs
  obtain ⟨D1, hD1⟩ : ∃ D, Sha.shaI (16 :: actB [] [] 1) = D := ⟨_, rfl⟩
  obtain ⟨D2, hD2⟩ : ∃ D, Sha.shaI (16 :: actB [] [] 2) = D := ⟨_, rfl⟩
  have HL1 := Aside0.mk (show D1.length = 32 by rw [← hD1]; exact Sha.shaI_len _)
  have HL2 := Aside0.mk (show D2.length = 32 by rw [← hD2]; exact Sha.shaI_len _)
  have HNE := Aside0.mk (show D1 ≠ D2 by rw [← hD1, ← hD2]; exact key_ne)
  replace hD1 := Aside0.mk hD1
  replace hD2 := Aside0.mk hD2
  clear h6 hs
  go_enter Tryd.func7, Tryd.ntmps7
  go_wp2_with fail
  refine (key_nil 1 (by omega) _ H6.out HS.out hD1.out).mono ?_
  rintro e w1 ⟨rfl, hb⟩
  have HB1 := Aside0.mk hb
  clear hb
  go_upto_region 2 with (first | (refine wpList_store_row rfl 35 (.tmp 1) (.tmp 8) rfl w1.heap.size (Sha.cb D1) rfl rfl 35 _ (Sha.heap_new _ _) (Sha.infoDg _ HL1.out) (by rw [Sha.cb_size, HL1.out]; rfl) (Sha.cb_one _) ?_))
  obtain ⟨wz, hwz, HBz, HDz, HZz⟩ := Sha.dg_start w1
  rw [hwz]
  have hdg := setRow_heap _ _ _ (Sha.cb D1) _ _ HDz.out
  have hbz := below_setRow HBz.out (Nat.le_refl _) (Sha.cb D1)
  obtain ⟨w2, hw2⟩ : ∃ w2, wz.setRow w1.heap.size (Sha.cb D1) = w2 := ⟨_, rfl⟩
  rw [hw2] at hdg hbz ⊢
  have HD2 := Aside0.mk hdg
  have HB2 := Aside0.mk (below_step HB1.out hbz)
  clear hwz hdg hbz hw2 HBz HDz HZz HB1
  generalize w1.heap.size = g1 at HD2 ⊢
  go_wp2_with fail
  refine (key_nil 2 (by omega) _ (H6.out.below HB2.out) (HS.out.below HB2.out) hD2.out).mono ?_
  rintro e w3 ⟨rfl, hb⟩
  have HB3 := Aside0.mk (below_step HB2.out hb)
  have HD3 := Aside0.mk (Sha.heap_keep HD2.out hb)
  clear hb
  go_upto_region 3 with (first | (refine wpList_store_row rfl 35 (.tmp 3) (.tmp 13) rfl w3.heap.size (Sha.cb D2) rfl rfl 35 _ (Sha.heap_new _ _) (Sha.infoDg _ HL2.out) (by rw [Sha.cb_size, HL2.out]; rfl) (Sha.cb_one _) ?_))
  obtain ⟨wz, hwz, HBz, HDz, HZz⟩ := Sha.dg_start w3
  rw [hwz]
  have hdg := setRow_heap _ _ _ (Sha.cb D2) _ _ HDz.out
  have hbz := below_setRow HBz.out (Nat.le_refl _) (Sha.cb D2)
  obtain ⟨w4, hw4⟩ : ∃ w4, wz.setRow w3.heap.size (Sha.cb D2) = w4 := ⟨_, rfl⟩
  rw [hw4] at hdg hbz ⊢
  have HE4 := Aside0.mk hdg
  have HB4 := Aside0.mk (below_step HB3.out hbz)
  have HD4 := Aside0.mk (Sha.heap_keep HD3.out hbz)
  clear hwz hdg hbz hw4 HBz HDz HZz HB3 HD3 HD2 HB2
  generalize w3.heap.size = g2 at HE4 ⊢
  have heq : ∀ w : World, (Op.equalIn 10000 35 (Sha.vd D1) (Sha.vd D2)).run Tryd.prog w = .ok false w := fun w => by rw [Sha.eqD HL1.out HL2.out w, decide_eq_false HNE.out]
  go_wp2_with (first | (refine wpList_load_g (by rfl) 35 (.tmp 1) rfl g1 rfl 35 (Sha.cb D1) (0, 0) _ HD4.out Tryd.underlying35 rfl (Sha.infoDg D1 HL1.out) ?_) | (refine wpList_load_g (by rfl) 35 (.tmp 3) rfl g2 rfl 35 (Sha.cb D2) (0, 0) _ HE4.out Tryd.underlying35 rfl (Sha.infoDg D2 HL2.out) ?_))
  refine (may_nil 20001 (Or.inr (by omega)) _ (H6.out.below HB4.out) (HS.out.below HB4.out)).mono ?_
  rintro e w5 ⟨rfl, hb⟩
  have HB5 := Aside0.mk (below_step HB4.out hb)
  clear hb
  go_wp2_with fail
  refine (may_nil (-1) (Or.inl (by omega)) _ (H6.out.below HB5.out) (HS.out.below HB5.out)).mono ?_
  rintro e w6 ⟨rfl, hb⟩
  have HB6 := Aside0.mk (below_step HB5.out hb)
  clear hb
  go_wp2
  go_ret
  exact ⟨rfl, HB6.out⟩
end Go.Proofs.YtlojemnmdakfiaaDoor.Ac
end
section
namespace Go.Proofs.YtlojemnmdakfiaaDoor.Ac
open Go.RowKit Go.Proofs.YtlojemnmdakfiaaDoorW.PrintWords Go.Proofs.YtlojemnmdakfiaaDoorW.PrintLast Go.Proofs.YtlojemnmdakfiaaDoorW.PrintMore
set_option linter.unusedVariables false
set_option linter.unusedSimpArgs false
open Go.Proofs.YtlojemnmdakfiaaDoor.Prog6 (Ins KP mayP szOk progB)
open Go.Proofs.YtlojemnmdakfiaaDoor.Tr
open Go.Proofs.YtlojemnmdakfiaaDoor.Hand
set_option maxHeartbeats 3200000 in
set_option maxRecDepth 100000 in
theorem tgreat_calls (A : Option Addr) (c : Nat) (xs : List Fl) (w : World) (hr : KF.C w A xs.length xs) (hc : xs.length ≤ c) :
    Calls Tryd.prog 20 #[.slice A xs.length c] w fun e w' => ∃ b, e = .returned (.bool b) ∧ Below w.heap.size w w' := by
  have HR := Aside0.mk hr
  have hl63 : xs.length ≤ 9223372036854775807 := hr.2.1
  clear hr
  go_enter Tryd.func20, Tryd.ntmps20
  go_wp2
  go_loopw [3, 4] (fun v3 v wr => ∃ (k : Nat) (z : Int), k ≤ xs.length ∧ v = .int .i64 (k : Int) ∧ v3 = .int .i64 z ∧ Aside0 (Below w.heap.size w wr)) (fun _ v _ => xs.length - (intOf v).toNat)
  case atStart => exact ⟨0, 0, Nat.zero_le _, rfl, rfl, ⟨Below.refl _ _⟩⟩
  case round =>
    obtain ⟨k, z, hk, rfl, rfl, HB⟩ := hrel
    by_cases hlt : k < xs.length
    · obtain ⟨ad, A0, c0, rfl, x0, x1, hc0, hC0⟩ := row_cf (Kd.C_below HR.out HB.out) k hlt xs[k] (List.getElem?_eq_getElem hlt)
      generalize xs[k] = x at x0 x1 hc0 hC0
      clear hc0 hC0
      go_upto_region 5 with (fail)
      go_quiet (fail)
      have HBN := Aside0.mk (pw_below_drewN HB.out nq)
      go_wp2
      go_roundw
      case rel => exact ⟨k + 1, _, by omega, by first | rfl | go_num, rfl, HBN⟩
      case measure => simp [intOf]; omega
    · obtain rfl : k = xs.length := by omega
      go_wp2
      go_ret
      exact ⟨_, rfl, HB.out⟩
set_option maxHeartbeats 3200000 in
set_option maxRecDepth 100000 in
theorem agreat_calls (A : Option Addr) (c : Nat) (p : List Ins) (A2 : Option Addr) (c2 : Nat) (t : List Fl) (f : Int) (w : World) (h : Arg w A c p A2 c2 t) :
    Calls Tryd.prog 6 #[.agg (cA A p.length c A2 t.length c2 f)] w fun e w' => ∃ b, e = .returned (.bool b) ∧ (b = false → p.length ≤ 100) ∧ Below w.heap.size w w' := by
  have HA := Aside0.mk h
  clear h
  obtain ⟨g, hg⟩ : ∃ g, w.heap.size = g := ⟨_, rfl⟩
  obtain ⟨w1, hw1, hw1h⟩ : ∃ w1, w.alloc (.cells (cA A p.length c A2 t.length c2 f) 26) = w1 ∧ w1.heap[w.heap.size]? = some (.cells (cA A p.length c A2 t.length c2 f) 26 (0, 0)) := ⟨_, rfl, Sha.heap_new _ _⟩
  have hbb : Below w.heap.size w w1 := by rw [← hw1]; exact (Below.refl _ _).alloc (Nat.le_refl _) _
  rw [hg] at hw1h
  have HX := Aside0.mk (show BoxA w1 g A p.length c A2 t.length c2 f from hw1h)
  have HB1 := Aside0.mk hbb
  have HA1 := Aside0.mk (HA.out.below hbb)
  obtain ⟨o0, o1, o2⟩ := HX.out.cu
  have HW := Aside0.mk hw1
  have HG := Aside0.mk hg
  clear hw1 hw1h hbb hg
  by_cases hp : p.length ≤ 100
  · have e1 : decide ((p.length : Int) > 100) = false := decide_eq_false (by omega)
    have e2 : decide (p.length > 100) = false := decide_eq_false (by omega)
    have HP := Aside0.mk hp
    clear hp
    go_enter Tryd.func6, Tryd.ntmps6
    go_upto_region 1 with (fail)
    rw [HW.out, HG.out]
    go_wp2_with fail
    refine (tgreat_calls A2 c2 t _ HA1.out.ht HA1.out.lt).mono ?_
    rintro e w2 ⟨b, rfl, hb⟩
    have HB2 := Aside0.mk (below_step HB1.out hb)
    clear hb o0 o1 o2
    go_wp2
    go_ret
    exact ⟨b, rfl, fun _ => HP.out, HB2.out⟩
  · have e1 : decide ((p.length : Int) > 100) = true := decide_eq_true (by omega)
    have e2 : decide (p.length > 100) = true := decide_eq_true (by omega)
    clear hp
    go_enter Tryd.func6, Tryd.ntmps6
    go_upto_region 1 with (fail)
    rw [HW.out, HG.out]
    go_wp2
    go_ret
    exact ⟨true, rfl, (fun h => by cases h), HB1.out⟩
end Go.Proofs.YtlojemnmdakfiaaDoor.Ac
end
section
namespace Go.Proofs.YtlojemnmdakfiaaDoor.Prog6
open Go.RowKit Go.Proofs.YtlojemnmdakfiaaDoorW.PrintWords Go.Proofs.YtlojemnmdakfiaaDoorW.PrintLast Go.Proofs.YtlojemnmdakfiaaDoorW.PrintMore
set_option linter.unusedVariables false
set_option linter.unusedSimpArgs false
def eqIns (x y : Ins) : Bool := (x.1 == y.1) && ((x.2.1.toList == y.2.1.toList) && ((x.2.2.1.toList == y.2.2.1.toList) && ((x.2.2.2.1.toList == y.2.2.2.1.toList) && ((x.2.2.2.2.1 == y.2.2.2.2.1) && (x.2.2.2.2.2 == y.2.2.2.2.2)))))
theorem eqI (x y : Ins) (w : World) : (Op.equalIn 10000 68 (.agg (cI x)) (.agg (cI y))).run Tryd.prog w = .ok (eqIns x y) w := by
  refine eqA_of Tryd.underlying68 (by kernel_rfl) ?_
  refine eqf_cons (a := .int .u8 x.1) (b := .int .u8 y.1) (by rfl) (by go_simp) (by go_simp) (run_equalIn_int _ _ _ _ .u8 _ _ (by kernel_rfl)) ?_
  refine eqf_cons (a := .string x.2.1) (b := .string y.2.1) (by rfl) (by go_simp) (by go_simp) (run_equalIn_string _ _ _ _ _ (by kernel_rfl)) ?_
  refine eqf_cons (a := .string x.2.2.1) (b := .string y.2.2.1) (by rfl) (by go_simp) (by go_simp) (run_equalIn_string _ _ _ _ _ (by kernel_rfl)) ?_
  refine eqf_cons (a := .string x.2.2.2.1) (b := .string y.2.2.2.1) (by rfl) (by go_simp) (by go_simp) (run_equalIn_string _ _ _ _ _ (by kernel_rfl)) ?_
  refine eqf_cons (a := .int .i64 x.2.2.2.2.1) (b := .int .i64 y.2.2.2.2.1) (by rfl) (by go_simp) (by go_simp) (run_equalIn_int _ _ _ _ .i64 _ _ (by kernel_rfl)) ?_
  exact eqf_last (a := .int .i64 x.2.2.2.2.2) (b := .int .i64 y.2.2.2.2.2) (by rfl) (by go_simp) (by go_simp) (run_equalIn_int _ _ _ _ .i64 _ _ (by kernel_rfl))
theorem toList_eq {a b : ByteArray} (h : a.toList = b.toList) : a = b := by
  rw [ByteArray.toList_eq, ByteArray.toList_eq] at h
  obtain ⟨⟨x⟩⟩ := a
  obtain ⟨⟨y⟩⟩ := b
  simp at h
  rw [h]
theorem eqIns_iff (x y : Ins) : eqIns x y = decide (x = y) := by
  rw [Bool.eq_iff_iff]
  unfold eqIns
  simp only [Bool.and_eq_true, beq_iff_eq, decide_eq_true_eq]
  obtain ⟨a, b, c, d, e, f⟩ := x
  obtain ⟨a', b', c', d', e', f'⟩ := y
  constructor
  · rintro ⟨h1, h2, h3, h4, h5, h6⟩
    simp only at h1 h2 h3 h4 h5 h6
    rw [h1, toList_eq h2, toList_eq h3, toList_eq h4, h5, h6]
  · intro h
    cases h
    exact ⟨rfl, rfl, rfl, rfl, rfl, rfl⟩
section
variable {P : Program} {a : Act} {o : Oper}
theorem exec_neqI {ty ty2 : TypeId} {x y : Operand} {xs ys : Array Value} {r : Bool} {w : World} (ho : o.op = .binOp .neq ty x y ty2) (hx : a.eval x = .agg xs) (hy : a.eval y = .agg ys) (hm : P.eqGuardType P.depth ty = false) (h : (Op.equalIn 10000 ty (.agg xs) (.agg ys)).run P w = .ok r w) : (execOp a.eval o).run P w = .ok (.value (.bool (!r))) w := by
  unfold execOp
  rw [ho]
  simp only [hx, hy, Sem.run_bind, run_eqGuard_agg w .neq ty x y xs ys hm, Result.andThen_ok, run_neq_struct, h, Sem.run_pure]
end
end Go.Proofs.YtlojemnmdakfiaaDoor.Prog6
end
section
namespace Go.Proofs.YtlojemnmdakfiaaDoor.Prog6
open Go.RowKit Go.Proofs.YtlojemnmdakfiaaDoorW.PrintWords Go.Proofs.YtlojemnmdakfiaaDoorW.PrintLast Go.Proofs.YtlojemnmdakfiaaDoorW.PrintMore
set_option linter.unusedVariables false
set_option linter.unusedSimpArgs false
def seq_T6 : Bool × List (List Nat × List Nat) := (true, [([], []), ([], []), ([0, 1], [0, 1]), ([2], [2]), ([], []), ([], []), ([4, 5], [4, 5]), ([6], [6]), ([3, 7], [3, 7])])
def seq_B6 : List Nat := [0, 0, 3, 7, 0, 0, 48, 112, 255]
theorem seq_tab6 : rtab .any (opsOf Tryd.f34 6) = seq_T6 := by kernel_rfl
theorem seq_bits6 : waitsOk seq_T6.2 seq_B6 = true := by kernel_rfl
set_option maxHeartbeats 1600000 in
set_option maxRecDepth 100000 in
theorem equal_calls (A B : Option Addr) (c d : Nat) (p q : List Ins) (w : World) (hp : KP.C w A p.length p) (hq : KP.C w B q.length q) (hc : p.length ≤ c) (hd : q.length ≤ d) :
    Calls Tryd.prog 34 #[.slice A p.length c, .slice B q.length d] w fun e w' => e = .returned (.bool (decide (p = q))) ∧ Below w.heap.size w w' := by
  have HP := Aside0.mk hp
  have HQ := Aside0.mk hq
  have hp63 : p.length ≤ 9223372036854775807 := hp.2.1
  have hq63 : q.length ≤ 9223372036854775807 := hq.2.1
  clear hp hq
  by_cases hl : p.length = q.length
  case neg =>
    have h1 : ((p.length : Int) != (q.length : Int)) = true := by rw [bne_iff_ne]; omega
    have h2 : ((p.length : Int) == (q.length : Int)) = false := by rw [beq_eq_false_iff_ne]; omega
    have h3 : (p.length == q.length) = false := by rw [beq_eq_false_iff_ne]; exact hl
    have HV := Aside0.mk (show decide (p = q) = false from decide_eq_false (fun h => hl (by rw [h])))
    clear hl
    go_enter Tryd.func34, Tryd.ntmps34
    go_wp2
    go_ret
    exact ⟨by rw [HV.out]; rfl, Below.refl _ _⟩
  have h1 : ((p.length : Int) != (q.length : Int)) = false := by rw [bne_eq_false_iff_eq]; omega
  have h2 : ((p.length : Int) == (q.length : Int)) = true := by rw [beq_iff_eq]; omega
  have h3 : (p.length == q.length) = true := by rw [beq_iff_eq]; exact hl
  have HL := Aside0.mk hl
  clear hl
  go_enter Tryd.func34, Tryd.ntmps34
  go_wp2
  go_loopw [13] (fun v wr => ∃ k : Nat, k ≤ p.length ∧ v = .int .i64 (k : Int) ∧ Aside0 (p.take k = q.take k) ∧ Aside0 (Below w.heap.size w wr)) (fun i _ => p.length - (intOf i).toNat)
  case atStart => exact ⟨0, Nat.zero_le _, rfl, ⟨rfl⟩, ⟨Below.refl _ _⟩⟩
  case round =>
    obtain ⟨k, hk, rfl, HT, HB⟩ := hrel
    clear h1 h2 h3
    by_cases hlt : k < p.length
    · have hltq : k < q.length := by have := HL.out; omega
      obtain ⟨ad, rfl, x0, x1, x2, x3, x4, x5⟩ := row_cp (Kd.C_below HP.out HB.out) k hlt p[k] (List.getElem?_eq_getElem hlt)
      obtain ⟨ae, rfl, y0, y1, y2, y3, y4, y5⟩ := row_cp (Kd.C_below HQ.out HB.out) k hltq q[k] (List.getElem?_eq_getElem hltq)
      have HTP := Aside0.mk (List.take_succ_eq_append_getElem hlt)
      have HTQ := Aside0.mk (List.take_succ_eq_append_getElem hltq)
      have HNE := Aside0.mk (show p[k] ≠ q[k] → decide (p = q) = false from fun h => decide_eq_false (fun e => h (by subst e; rfl)))
      have HXE := Aside0.mk (show p[k]? = some p[k] from List.getElem?_eq_getElem hlt)
      have HYE := Aside0.mk (show q[k]? = some q[k] from List.getElem?_eq_getElem hltq)
      clear x0 x1 x2 x3 x4 x5 y0 y1 y2 y3 y4 y5
      generalize p[k] = x at HTP HNE HXE
      generalize q[k] = y at HTQ HNE HYE
      go_upto_region 6 with (fail)
      have hS0 : Below wr.heap.size wr wr.drew := below_drew1 (Below.refl _ _)
      refine start_ (n := 9) (S := fun w' => Below wr.heap.size wr w') (ds := []) #[false, false, false, false, false, false, false, false, false] (by kernel_rfl) rfl rfl (by exact hS0) (fun hHeld => ?_)
      refine with_tabW seq_tab6 seq_bits6 (fun HT_ HW_ => ?_)
      refine pure_ (i := 0) (N := some 16) (v := ?_) (a' := ?_) #[true, false, false, false, false, false, false, false, false] rfl rfl (any_of HT_.out (by kernel_rfl)) (fun _ _ _ h => h) (Or.inl ⟨by rfl, ?_⟩) ?_ ?_
      rotate_left
      · intro w'
        go_simp
        with_reducible rfl
      rotate_left
      · simp only [Act.put, List.setIfInBounds_toArray, List.set_cons_zero, List.set_cons_succ, i64_w, i32_w]
        rfl
      refine pure_ (i := 1) (N := some 17) (v := ?_) (a' := ?_) #[true, true, false, false, false, false, false, false, false] rfl rfl (any_of HT_.out (by kernel_rfl)) (fun _ _ _ h => h) (Or.inl ⟨by rfl, ?_⟩) ?_ ?_
      rotate_left
      · intro w'
        go_simp
        with_reducible rfl
      rotate_left
      · simp only [Act.put, List.setIfInBounds_toArray, List.set_cons_zero, List.set_cons_succ, i64_w, i32_w]
        rfl
      refine pure_ (i := 2) (N := some 18) (v := ?_) (a' := ?_) #[true, true, true, false, false, false, false, false, false] rfl rfl (any_of HT_.out (by kernel_rfl)) (fun _ _ _ h => h) (Or.inl ⟨by rfl, ?_⟩) ?_ ?_
      rotate_left
      · intro w'
        go_simp
        with_reducible rfl
      rotate_left
      · simp only [Act.put, List.setIfInBounds_toArray, List.set_cons_zero, List.set_cons_succ, i64_w, i32_w]
        rfl
      refine pure_ (i := 4) (N := some 20) (v := ?_) (a' := ?_) #[true, true, true, false, true, false, false, false, false] rfl rfl (any_of HT_.out (by kernel_rfl)) (fun _ _ _ h => h) (Or.inl ⟨by rfl, ?_⟩) ?_ ?_
      rotate_left
      · intro w'
        go_simp
        with_reducible rfl
      rotate_left
      · simp only [Act.put, List.setIfInBounds_toArray, List.set_cons_zero, List.set_cons_succ, i64_w, i32_w]
        rfl
      refine pure_ (i := 5) (N := some 21) (v := ?_) (a' := ?_) #[true, true, true, false, true, true, false, false, false] rfl rfl (any_of HT_.out (by kernel_rfl)) (fun _ _ _ h => h) (Or.inl ⟨by rfl, ?_⟩) ?_ ?_
      rotate_left
      · intro w'
        go_simp
        with_reducible rfl
      rotate_left
      · simp only [Act.put, List.setIfInBounds_toArray, List.set_cons_zero, List.set_cons_succ, i64_w, i32_w]
        rfl
      refine pure_ (i := 6) (N := some 22) (v := ?_) (a' := ?_) #[true, true, true, false, true, true, true, false, false] rfl rfl (any_of HT_.out (by kernel_rfl)) (fun _ _ _ h => h) (Or.inl ⟨by rfl, ?_⟩) ?_ ?_
      rotate_left
      · intro w'
        go_simp
        with_reducible rfl
      rotate_left
      · simp only [Act.put, List.setIfInBounds_toArray, List.set_cons_zero, List.set_cons_succ, i64_w, i32_w]
        rfl
      refine take_ (i := 3) (N := some 19) (v := ?_) (a' := ?_) #[true, true, true, true, true, true, true, false, false] rfl rfl (take_ofW HT_.out HW_.out (by kernel_rfl)) (fun _ _ _ h => h) (Or.inl ⟨by rfl, ?_⟩) hHeld ?_ ?_
      rotate_left
      · intro w' hSt
        obtain ⟨ad_, hA_, x0, x1, x2, x3, x4, x5⟩ := row_cp (Kd.C_below HP.out (below_step HB.out hSt)) k hlt x HXE.out
        cases hA_
        go_simp
        with_reducible rfl
      rotate_left
      · simp only [Act.put, List.setIfInBounds_toArray, List.set_cons_zero, List.set_cons_succ, i64_w, i32_w]
        rfl
      refine take_ (i := 7) (N := some 23) (v := ?_) (a' := ?_) #[true, true, true, true, true, true, true, true, false] rfl rfl (take_ofW HT_.out HW_.out (by kernel_rfl)) (fun _ _ _ h => h) (Or.inl ⟨by rfl, ?_⟩) hHeld ?_ ?_
      rotate_left
      · intro w' hSt
        obtain ⟨ad_, hA_, y0, y1, y2, y3, y4, y5⟩ := row_cp (Kd.C_below HQ.out (below_step HB.out hSt)) k hltq y HYE.out
        cases hA_
        go_simp
        with_reducible rfl
      rotate_left
      · simp only [Act.put, List.setIfInBounds_toArray, List.set_cons_zero, List.set_cons_succ, i64_w, i32_w]
        rfl
      refine pure_ (i := 8) (N := some 24) (v := ?_) (a' := ?_) #[true, true, true, true, true, true, true, true, true] rfl rfl (any_of HT_.out (by kernel_rfl)) (fun _ _ _ h => h) (Or.inl ⟨by rfl, ?_⟩) ?_ ?_
      rotate_left
      · intro w'
        refine (exec_neqI (r := decide (x = y)) rfl rfl rfl (by kernel_rfl) (by rw [← eqIns_iff]; exact eqI x y w')).trans ?_
        with_reducible rfl
      rotate_left
      · simp only [Act.put, List.setIfInBounds_toArray, List.set_cons_zero, List.set_cons_succ, i64_w, i32_w]
        rfl
      refine done_ (done_of HT_.out (by kernel_rfl)) ?_
      have HBz := Aside0.mk (below_step HB.out hHeld)
      clear hS0 hHeld HT_ HW_ HB
      by_cases hxy : x = y
      case neg =>
        have HV := Aside0.mk (HNE.out hxy)
        have e0 : decide (x = y) = false := decide_eq_false hxy
        rw [e0]
        clear hxy e0
        go_wp2
        go_ret
        exact ⟨by rw [HV.out]; rfl, HBz.out⟩
      have e0 : decide (x = y) = true := decide_eq_true hxy
      rw [e0]
      have HT1 := Aside0.mk (show p.take (k + 1) = q.take (k + 1) by rw [HTP.out, HTQ.out, HT.out, hxy])
      clear hxy e0 HT
      go_wp2
      go_roundw
      case rel => exact ⟨k + 1, by omega, by go_num, HT1, HBz⟩
      case measure => simp [intOf]; omega
    · obtain rfl : k = p.length := by omega
      have HV := Aside0.mk (show decide (p = q) = true from decide_eq_true (by have h := HT.out; rw [List.take_length, HL.out, List.take_length] at h; exact h))
      clear hlt hk
      go_wp2
      go_ret
      exact ⟨by rw [HV.out]; rfl, HB.out⟩
theorem psame_calls (A B : Option Addr) (c d : Nat) (p q : List Ins) (w : World) (hp : KP.C w A p.length p) (hq : KP.C w B q.length q) (hc : p.length ≤ c) (hd : q.length ≤ d) :
    Calls Tryd.prog 17 #[.slice A p.length c, .slice B q.length d] w fun e w' => e = .returned (.bool (decide (p = q))) ∧ Below w.heap.size w w' := by
  have H := Aside0.mk (equal_calls A B c d p q w hp hq hc hd)
  have hp63 : p.length ≤ 9223372036854775807 := hp.2.1
  have hq63 : q.length ≤ 9223372036854775807 := hq.2.1
  clear hp hq
  generalize decide (p = q) = z at H ⊢
  go_enter Tryd.func17, Tryd.ntmps17
  go_wp2_with fail
  refine H.out.mono ?_
  rintro e w1 ⟨rfl, hb⟩
  clear H
  go_wp2
  go_ret
  exact ⟨rfl, hb⟩
end Go.Proofs.YtlojemnmdakfiaaDoor.Prog6
end
section
namespace Go.Proofs.YtlojemnmdakfiaaDoor.Reg
open Go.RowKit Go.Proofs.YtlojemnmdakfiaaDoorW.PrintWords Go.Proofs.YtlojemnmdakfiaaDoorW.PrintLast Go.Proofs.YtlojemnmdakfiaaDoorW.PrintMore
set_option linter.unusedVariables false
set_option linter.unusedSimpArgs false
theorem put_comm (a : Act) {m n : Tmp} (h : m ≠ n) (x y : Value) : (a.put (some m) x).put (some n) y = (a.put (some n) y).put (some m) x := by
  unfold Act.put
  simp only [Array.setIfInBounds_comm x y h]
theorem alloc_new (w : World) (o : Obj) : (w.alloc o).heap[w.heap.size]? = some o := by
  show (w.heap.push o)[w.heap.size]? = some o
  simp
theorem alloc_keep {w : World} {g : Nat} {o x : Obj} (h : w.heap[g]? = some x) : (w.alloc o).heap[g]? = some x :=
  (((Below.refl w.heap.size w).alloc (Nat.le_refl _) o).block g (Array.getElem?_eq_some_iff.1 h).1).trans h
theorem alloc_size (w : World) (o : Obj) : (w.alloc o).heap.size = w.heap.size + 1 := World.size_alloc _ _
section
variable {P : Program} {md : Region.Mode} {ops : Array Oper} {Q : Exit → Act → World → Prop} {S : World → Prop} {ds : List Nat}
theorem allocs2_ {i j : Nat} {m n : Tmp} {oi oj : Oper} {fuel : Nat} {l : Array Bool} {a : Act} {w : World} (li lj lij : Array Bool) (zi zj : Obj)
    (hi : ops[i]? = some oi) (hj : ops[j]? = some oj) (hNi : oi.dst = some m) (hNj : oj.dst = some n) (hgi : oi.guard = none) (hgj : oj.guard = none)
    (ri : ∀ a w, (execOp (Act.eval a) oi).run P w = .ok (.value (.pointer (some ⟨w.heap.size, 0, none⟩))) (w.alloc zi))
    (rj : ∀ a w, (execOp (Act.eval a) oj).run P w = .ok (.value (.pointer (some ⟨w.heap.size, 0, none⟩))) (w.alloc zj))
    (hc : (Region.ready md ops l == [i, j] && l.setIfInBounds i true == li && l.setIfInBounds j true == lj) = true)
    (hci : readyB md ops li lij j = true) (hcj : readyB md ops lj lij i = true) (hdi : i ∉ ds) (hdj : j ∉ ds) (hmn : m ≠ n) (hS : ∀ w o, S w → S (World.alloc w o))
    (hS0 : S w)
    (h : ∀ gi gj w', gi ≠ gj → w.heap.size ≤ gi → w.heap.size ≤ gj → w'.heap[gi]? = some zi → w'.heap[gj]? = some zj → Below w.heap.size w w' → S w' →
      wpAnyLast P md ops Q S ds fuel lij ((a.put (some m) (.pointer (some ⟨gi, 0, none⟩))).put (some n) (.pointer (some ⟨gj, 0, none⟩))) w') :
    wpAnyLast P md ops Q S ds (fuel + 2) l a w := by
  have hwi : ∀ a : Act, Region.wanted oi (yielded ops a.tmps) = true := fun a => by simp [Region.wanted, hgi]
  have hwj : ∀ a : Act, Region.wanted oj (yielded ops a.tmps) = true := fun a => by simp [Region.wanted, hgj]
  have hb1 : ∀ o : Obj, Below w.heap.size w (w.alloc o) := fun o => (Below.refl _ _).alloc (Nat.le_refl _) _
  have hb2 : ∀ o o' : Obj, Below w.heap.size w ((w.alloc o).alloc o') := fun o o' => (hb1 o).alloc (by rw [alloc_size]; omega) _
  refine two_ li lj hi hj hNi hNj hc hdi hdj (fun K hK => ?_) (fun K hK => ?_)
  · refine value_ (v := .pointer (some ⟨w.heap.size, 0, none⟩)) (w1 := w.alloc zi) (hwi a) hNi (ri a w) ?_
    refine hK.out _ _ (hS _ _ hS0) (fun hS1 => ?_)
    refine one_ lij hj hNj hci hdj (fun K hK => ?_)
    refine value_ (v := .pointer (some ⟨(w.alloc zi).heap.size, 0, none⟩)) (w1 := (w.alloc zi).alloc zj) (hwj _) hNj (rj _ _) ?_
    refine hK.out _ _ (hS _ _ hS1) (fun hS2 => ?_)
    exact h _ _ _ (by rw [alloc_size]; omega) (Nat.le_refl _) (by rw [alloc_size]; omega) (alloc_keep (alloc_new _ _)) (alloc_new _ _) (hb2 _ _) hS2
  · refine value_ (v := .pointer (some ⟨w.heap.size, 0, none⟩)) (w1 := w.alloc zj) (hwj a) hNj (rj a w) ?_
    refine hK.out _ _ (hS _ _ hS0) (fun hS1 => ?_)
    refine one_ lij hi hNi hcj hdi (fun K hK => ?_)
    refine value_ (v := .pointer (some ⟨(w.alloc zj).heap.size, 0, none⟩)) (w1 := (w.alloc zj).alloc zi) (hwi _) hNi (ri _ _) ?_
    refine hK.out _ _ (hS _ _ hS1) (fun hS2 => ?_)
    rw [← put_comm a hmn]
    exact h _ _ _ (by rw [alloc_size]; omega) (by rw [alloc_size]; omega) (Nat.le_refl _) (alloc_new _ _) (alloc_keep (alloc_new _ _)) (hb2 _ _) hS2
end
end Go.Proofs.YtlojemnmdakfiaaDoor.Reg
end
section
namespace Go.Proofs.YtlojemnmdakfiaaDoor.Sha
open Go.RowKit Go.Proofs.YtlojemnmdakfiaaDoorW.PrintWords Go.Proofs.YtlojemnmdakfiaaDoorW.PrintLast Go.Proofs.YtlojemnmdakfiaaDoorW.PrintMore
set_option linter.unusedVariables false
set_option linter.unusedSimpArgs false
theorem u8_inj {x y : Int} (hx : 0 ≤ x ∧ x < 256) (hy : 0 ≤ y ∧ y < 256) (h : UInt8.ofNat x.toNat = UInt8.ofNat y.toNat) : x = y := by
  have h2 := congrArg UInt8.toNat h
  rw [UInt8.toNat_ofNat', UInt8.toNat_ofNat', Nat.mod_eq_of_lt (by omega), Nat.mod_eq_of_lt (by omega)] at h2
  omega
theorem smap_inj : ∀ (a b : List Int), Sha.bytes a → Sha.bytes b → (a.map fun n => UInt8.ofNat n.toNat) = (b.map fun n => UInt8.ofNat n.toNat) → a = b
  | [], [], _, _, _ => rfl
  | [], _ :: _, _, _, h => by simp at h
  | _ :: _, [], _, _, h => by simp at h
  | x :: a, y :: b, ha, hb, h => by
    simp only [List.map_cons, List.cons.injEq] at h
    rw [u8_inj (ha x (by simp)) (hb y (by simp)) h.1, smap_inj a b (fun z hz => ha z (by simp [hz])) (fun z hz => hb z (by simp [hz])) h.2]
theorem str_inj {a b : List Int} (ha : Sha.bytes a) (hb : Sha.bytes b) (h : strOfNums a = strOfNums b) : a = b := by
  apply smap_inj a b ha hb
  rw [← strOfNums_data, ← strOfNums_data, h]
theorem str_eqB {a b : List Int} (ha : Sha.bytes a) (hb : Sha.bytes b) : ((strOfNums a).toList == (strOfNums b).toList) = decide (a = b) := by
  rw [Bool.eq_iff_iff, beq_iff_eq, decide_eq_true_eq]
  refine ⟨fun h => ?_, fun h => by rw [h]⟩
  rw [ByteArray.toList_eq, ByteArray.toList_eq] at h
  apply str_inj ha hb
  have h3 : (strOfNums a).data = (strOfNums b).data := by
    rw [← Array.toList_inj]
    exact h
  cases hx : strOfNums a
  cases hy : strOfNums b
  rw [hx, hy] at h3
  exact congrArg ByteArray.mk h3
end Go.Proofs.YtlojemnmdakfiaaDoor.Sha
end
