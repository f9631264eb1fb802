/- What calls of Go functions of this seat come to, as the rows need it: under the conditions that each theorem names. -/
import Derived.Test.YtoiblfmlahedlaaDoorH68227917bba1
import Derived.Test.YtoiblfmlahedlaaDoorProg
import Derived.Below
import Derived.Deep.Draws
import Derived.Deep.AppendLies
import Derived.Maps.AppendAt
import Derived.OwnWalk
import Derived.Laws.BytesArg
import Derived.Laws.MakeOwn
import Derived.Laws.OwnMore
import Derived.Deep.OwnRows
import Derived.Tactics
import Derived.Lib.ConvBytes
import Derived.Laws.Slices
import Derived.WalkKit
import Derived.KernelRfl
import Derived.RowKit3
import Derived.Deep.LoopGhost
import Derived.Deep.QuietTactic
import Derived.BigQuiet
import Derived.WideLaws
import Derived.Deep.DeepCutAuto
import Derived.Deep.CutBlock
import Derived.Deep.RegionHeld3
import Derived.Laws.Rows
import Derived.Lib.AppendStr
import Derived.ArgAppend
import Derived.Laws.IdiomCopy
import Derived.OrdersHeld
import Derived.Laws.BitsLemmas
import Derived.RowKit
import Derived.Outline
import Derived.Laws.BitsAllLaws
section
namespace Go.Proofs.YtoiblfmlahedlaaDoor.Sha
open Go.RowKit Go.Proofs.YtoiblfmlahedlaaDoorW.PrintWords Go.Proofs.YtoiblfmlahedlaaDoorW.PrintLast Go.Proofs.YtoiblfmlahedlaaDoorW.PrintMore
set_option linter.unusedVariables false
set_option linter.unusedSimpArgs false
set_option maxRecDepth 100000
theorem ival {k : IntKind} {a b : Int} (h : a = b) : Value.int k a = .int k b := by rw [h]
theorem cell_of {w : World} {g : Nat} {cur : Array Value} {t : TypeId} (h : w.heap[g]? = some (.cells cur t (0, 0))) {j : Nat} {u : Value} : w.cell? ⟨g, j, none⟩ = some u ↔ cur[j]? = some u := by
  simp [World.cell?, h]
theorem heap_keep {w w' : World} {h : Nat} {o : Obj} (hh : w.heap[h]? = some o) (hb : Below w.heap.size w w') : w'.heap[h]? = some o := (hb.block h (Array.getElem?_eq_some_iff.1 hh).1).trans hh
theorem heap_new (w : World) (o : Obj) : (w.alloc o).heap[w.heap.size]? = some o := by
  show (w.heap.push o)[w.heap.size]? = some o
  simp
theorem heap_new' (w : World) (o : Obj) (n : Nat) (h : n = w.heap.size) : (w.alloc o).heap[n]? = some o := by
  subst h
  exact heap_new w o
def turnI (x : Int) (n : Nat) : Int := bits .or .u32 (x / 2 ^ n) (x * 2 ^ (32 - n) % 4294967296)
theorem amount (n : Nat) (h0 : 0 < n) (h1 : n < 32) : bits .and .u64 (IntKind.u64.wrap (-(n : Int))) 31 = ((32 - n : Nat) : Int) := by
  have key : ∀ n : Fin 32, 0 < n.val → bits .and .u64 (IntKind.u64.wrap (-(n.val : Int))) 31 = ((32 - n.val : Nat) : Int) := by decide +kernel
  exact key ⟨n, h1⟩ h0
theorem or_comm (a b : Int) : bits .or .u32 a b = bits .or .u32 b a := by
  show IntKind.u32.wrap ((BitVec.ofInt 32 a ||| BitVec.ofInt 32 b).toNat : Int) = IntKind.u32.wrap ((BitVec.ofInt 32 b ||| BitVec.ofInt 32 a).toNat : Int)
  rw [BitVec.or_comm]
set_option maxHeartbeats 800000 in
theorem rotl_calls (x : Int) (n : Nat) (h0 : 0 < n) (h1 : n < 32) (w : World) : Calls Tryd.prog 108 #[.int .u32 x, .int .i64 (-(n : Int))] w fun e w' => e = .returned (.int .u32 (turnI x n)) ∧ w' = w := by
  have ha := amount n h0 h1
  generalize hm : 32 - n = m at ha
  have hm1 : m ≤ 32 := by omega
  have hm0 : 0 ≤ (m : Int) := by omega
  have hs : IntKind.u64.wrap (32 - (m : Int)) = (n : Int) := by simp [IntKind.wrap, IntKind.bits, IntKind.signed]; omega
  have hn0 : 0 ≤ (n : Int) := by omega
  have hn1 : (n : Int) ≤ 32 := by omega
  have hm2 : (m : Int) ≤ 32 := by omega
  go_enter Tryd.func108, Tryd.ntmps108
  go_wp2
  go_ret
  exact ⟨by rw [or_comm, ← hm]; rfl, rfl⟩
theorem right_calls (x : Int) (n : Nat) (h0 : 0 < n) (h1 : n < 32) (w : World) : Calls Tryd.prog 107 #[.int .u32 x, .int .i64 (n : Int)] w fun e w' => e = .returned (.int .u32 (turnI x n)) ∧ w' = w := by
  go_enter Tryd.func107, Tryd.ntmps107
  go_wp2_with fail
  refine (rotl_calls x n h0 h1 _).mono ?_
  rintro e w1 ⟨rfl, rfl⟩
  go_wp2
  go_ret
  exact ⟨rfl, rfl⟩
abbrev B := Kd.int .u8
theorem getB {w : World} {A : Option Addr} {n : Nat} {xs : List Int} (h : B.C w A n xs) (k : Nat) (hk : k < n) : ∃ ad, A = some ad ∧ w.cell? (ad.add k) = some (.int .u8 (rd xs (k : Int))) := by
  obtain ⟨ad, e, hx⟩ := Kd.at_int h (k : Int) (by omega) (by omega)
  exact ⟨ad, e, by simpa using hx⟩
def bytes (l : List Int) : Prop := ∀ x ∈ l, 0 ≤ x ∧ x < 256
theorem bytes_rd {l : List Int} (h : bytes l) (k : Nat) (hk : k < l.length) : 0 ≤ rd l (k : Int) ∧ rd l (k : Int) < 256 := by
  unfold rd
  rw [Int.toNat_natCast, List.getD_eq_getElem?_getD, List.getElem?_eq_getElem hk]
  exact h _ (List.getElem_mem hk)
abbrev S8 := Int × Int × Int × Int × Int × Int × Int × Int
abbrev c8 (s : S8) : Array Value := #[.int .u32 s.1, .int .u32 s.2.1, .int .u32 s.2.2.1, .int .u32 s.2.2.2.1, .int .u32 s.2.2.2.2.1, .int .u32 s.2.2.2.2.2.1, .int .u32 s.2.2.2.2.2.2.1, .int .u32 s.2.2.2.2.2.2.2]
abbrev v8 (s : S8) : Value := .agg (c8 s)
def cw (xs : List Int) : Array Value := (xs.map (Value.int .u32)).toArray
theorem cw_get {xs : List Int} {j : Nat} (h : j < xs.length) : (cw xs)[j]? = some (.int .u32 (rd xs (j : Int))) := by
  unfold cw rd
  rw [Int.toNat_natCast, List.getD_eq_getElem?_getD, List.getElem?_toArray, List.getElem?_map, List.getElem?_eq_getElem h]
  rfl
theorem cw_set (xs : List Int) (j : Nat) (x : Int) : (cw xs).setIfInBounds j (.int .u32 x) = cw (xs.set j x) := by
  unfold cw
  rw [List.setIfInBounds_toArray, List.map_set]
def wordI (a b c d : Int) : Int := ((a * 256 + b) * 256 + c) * 256 + d
def ld (l : List Int) : Nat → List Int
  | 0 => List.replicate 64 0
  | t + 1 => (ld l t).set t (wordI (rd l ((4 * t : Nat) : Int)) (rd l ((4 * t + 1 : Nat) : Int)) (rd l ((4 * t + 2 : Nat) : Int)) (rd l ((4 * t + 3 : Nat) : Int)))
theorem ld_len (l : List Int) (t : Nat) : (ld l t).length = 64 := by
  induction t with
  | zero => simp [ld]
  | succ t ih => simp [ld, ih]
structure St (w0 w : World) (s z : Array Value) (xs : List Int) : Prop where
  s : w.heap[w0.heap.size]? = some (.cells s 67 (0, 0))
  z : w.heap[w0.heap.size + 1]? = some (.cells z 67 (0, 0))
  x : w.heap[w0.heap.size + 1 + 1]? = some (.cells (cw xs) 68 (0, 0))
  b : Below w0.heap.size w0 w
theorem St.drew {w0 w : World} {s z : Array Value} {xs : List Int} (h : St w0 w s z xs) : St w0 w.drew s z xs := ⟨h.s, h.z, h.x, below_drew1 h.b⟩
theorem St.set {w0 w : World} {s z : Array Value} {xs : List Int} (h : St w0 w s z xs) (j : Nat) (x : Int) : St w0 (w.setCell ⟨w0.heap.size + 1 + 1, j, none⟩ (.int .u32 x)) s z (xs.set j x) :=
  ⟨blk_far h.s (p := ⟨w0.heap.size + 1 + 1, j, none⟩) (by show _ ≠ _; simp; omega) _, blk_far h.z (p := ⟨w0.heap.size + 1 + 1, j, none⟩) (by show _ ≠ _; simp) _, by rw [← cw_set]; exact blk_set h.x j _, h.b.setCell (p := ⟨w0.heap.size + 1 + 1, j, none⟩) (by show w0.heap.size ≤ w0.heap.size + 1 + 1; omega) _⟩
theorem St.setS {w0 w : World} {s z : Array Value} {xs : List Int} (h : St w0 w s z xs) (j : Nat) (v : Value) : St w0 (w.setCell ⟨w0.heap.size, j, none⟩ v) (s.setIfInBounds j v) z xs :=
  ⟨blk_set h.s j _, blk_far h.z (p := ⟨w0.heap.size, j, none⟩) (by show _ ≠ _; simp) _, blk_far h.x (p := ⟨w0.heap.size, j, none⟩) (by show _ ≠ _; simp; omega) _, h.b.setCell (p := ⟨w0.heap.size, j, none⟩) (Nat.le_refl _) _⟩
theorem St.setZ {w0 w : World} {s z : Array Value} {xs : List Int} (h : St w0 w s z xs) (j : Nat) (v : Value) : St w0 (w.setCell ⟨w0.heap.size + 1, j, none⟩ v) s (z.setIfInBounds j v) xs :=
  ⟨blk_far h.s (p := ⟨w0.heap.size + 1, j, none⟩) (by show _ ≠ _; simp) _, blk_set h.z j _, blk_far h.x (p := ⟨w0.heap.size + 1, j, none⟩) (by show _ ≠ _; simp) _, h.b.setCell (p := ⟨w0.heap.size + 1, j, none⟩) (by show w0.heap.size ≤ w0.heap.size + 1; omega) _⟩
theorem St.frozenS {w0 w : World} {s z : Array Value} {xs : List Int} (h : St w0 w s z xs) (j : Nat) : w.frozen? ⟨w0.heap.size, j, none⟩ = false := by simp [World.frozen?, h.s]
theorem St.frozenZ {w0 w : World} {s z : Array Value} {xs : List Int} (h : St w0 w s z xs) (j : Nat) : w.frozen? ⟨w0.heap.size + 1, j, none⟩ = false := by simp [World.frozen?, h.z]
theorem St.frozen {w0 w : World} {s z : Array Value} {xs : List Int} (h : St w0 w s z xs) (j : Nat) : w.frozen? ⟨w0.heap.size + 1 + 1, j, none⟩ = false := by simp [World.frozen?, h.x]
abbrev add32 (a b : Int) : Int := IntKind.u32.wrap (a + b)
abbrev xor32 (a b : Int) : Int := bits .xor .u32 a b
abbrev and32 (a b : Int) : Int := bits .and .u32 a b
abbrev not32 (a : Int) : Int := bits .xor .u32 4294967295 a
def wordP (a b c d : Int) : Int := bits .or .u32 (bits .or .u32 (bits .or .u32 (IntKind.u32.wrap (IntKind.u32.wrap a * 16777216)) (IntKind.u32.wrap (IntKind.u32.wrap b * 65536))) (IntKind.u32.wrap (IntKind.u32.wrap c * 256))) (IntKind.u32.wrap d)
theorem wraps_u32 (n : Int) (h₀ : 0 ≤ n) (h₁ : n < 2 ^ 32) : IntKind.u32.wrap n = n := by rw [IntKind.wrap_u32]; omega
theorem wordP_eq (a b c d : Int) (a0 : 0 ≤ a) (a1 : a < 256) (b0 : 0 ≤ b) (b1 : b < 256) (c0 : 0 ≤ c) (c1 : c < 256) (d0 : 0 ≤ d) (d1 : d < 256) : wordP a b c d = wordI a b c d := by
  unfold wordP wordI
  rw [wraps_u32 a (by omega) (by omega), wraps_u32 b (by omega) (by omega), wraps_u32 c (by omega) (by omega), wraps_u32 d (by omega) (by omega), wraps_u32 (a * 16777216) (by omega) (by omega), wraps_u32 (b * 65536) (by omega) (by omega), wraps_u32 (c * 256) (by omega) (by omega)]
  rw [bits_join .u32 32 (by decide) wraps_u32 24 (a * 16777216) (b * 65536) (by omega) (by omega) (by omega) (by omega) (by omega) (by omega)]
  rw [bits_join .u32 32 (by decide) wraps_u32 16 (a * 16777216 + b * 65536) (c * 256) (by omega) (by omega) (by omega) (by omega) (by omega) (by omega)]
  rw [bits_join .u32 32 (by decide) wraps_u32 8 (a * 16777216 + b * 65536 + c * 256) d (by omega) (by omega) (by omega) (by omega) (by omega) (by omega)]
  omega
def schW (a x c y : Int) : Int := add32 (add32 (add32 a (xor32 (xor32 (turnI x 7) (turnI x 18)) (x / 8))) c) (xor32 (xor32 (turnI y 17) (turnI y 19)) (y / 1024))
def sch (l : List Int) : Nat → List Int
  | 0 => ld l 16
  | n + 1 => (sch l n).set (16 + n) (schW (rd (sch l n) ((n : Nat) : Int)) (rd (sch l n) ((n + 1 : Nat) : Int)) (rd (sch l n) ((n + 9 : Nat) : Int)) (rd (sch l n) ((n + 14 : Nat) : Int)))
theorem sch_len (l : List Int) (n : Nat) : (sch l n).length = 64 := by
  induction n with
  | zero => simp [sch, ld_len]
  | succ n ih => simp [sch, ih]
def t1I (e f g h k w : Int) : Int := add32 (add32 (add32 (add32 h (xor32 (xor32 (turnI e 6) (turnI e 11)) (turnI e 25))) (xor32 (and32 e f) (and32 (not32 e) g))) k) w
def t2I (a b c : Int) : Int := add32 (xor32 (xor32 (turnI a 2) (turnI a 13)) (turnI a 22)) (xor32 (xor32 (and32 a b) (and32 a c)) (and32 b c))
def rnd (k w : Int) (s : S8) : S8 :=
  (add32 (t1I s.2.2.2.2.1 s.2.2.2.2.2.1 s.2.2.2.2.2.2.1 s.2.2.2.2.2.2.2 k w) (t2I s.1 s.2.1 s.2.2.1), s.1, s.2.1, s.2.2.1, add32 s.2.2.2.1 (t1I s.2.2.2.2.1 s.2.2.2.2.2.1 s.2.2.2.2.2.2.1 s.2.2.2.2.2.2.2 k w), s.2.2.2.2.1, s.2.2.2.2.2.1, s.2.2.2.2.2.2.1)
def rnds (ks ws : List Int) (s : S8) : Nat → S8
  | 0 => s
  | n + 1 => rnd (rd ks (n : Int)) (rd ws (n : Int)) (rnds ks ws s n)
def mix (s r : S8) : Nat → S8
  | 0 => s
  | 1 => (add32 s.1 r.1, s.2)
  | 2 => (add32 s.1 r.1, add32 s.2.1 r.2.1, s.2.2)
  | 3 => (add32 s.1 r.1, add32 s.2.1 r.2.1, add32 s.2.2.1 r.2.2.1, s.2.2.2)
  | 4 => (add32 s.1 r.1, add32 s.2.1 r.2.1, add32 s.2.2.1 r.2.2.1, add32 s.2.2.2.1 r.2.2.2.1, s.2.2.2.2)
  | 5 => (add32 s.1 r.1, add32 s.2.1 r.2.1, add32 s.2.2.1 r.2.2.1, add32 s.2.2.2.1 r.2.2.2.1, add32 s.2.2.2.2.1 r.2.2.2.2.1, s.2.2.2.2.2)
  | 6 => (add32 s.1 r.1, add32 s.2.1 r.2.1, add32 s.2.2.1 r.2.2.1, add32 s.2.2.2.1 r.2.2.2.1, add32 s.2.2.2.2.1 r.2.2.2.2.1, add32 s.2.2.2.2.2.1 r.2.2.2.2.2.1, s.2.2.2.2.2.2)
  | 7 => (add32 s.1 r.1, add32 s.2.1 r.2.1, add32 s.2.2.1 r.2.2.1, add32 s.2.2.2.1 r.2.2.2.1, add32 s.2.2.2.2.1 r.2.2.2.2.1, add32 s.2.2.2.2.2.1 r.2.2.2.2.2.1, add32 s.2.2.2.2.2.2.1 r.2.2.2.2.2.2.1, s.2.2.2.2.2.2.2)
  | _ + 8 => (add32 s.1 r.1, add32 s.2.1 r.2.1, add32 s.2.2.1 r.2.2.1, add32 s.2.2.2.1 r.2.2.2.1, add32 s.2.2.2.2.1 r.2.2.2.2.1, add32 s.2.2.2.2.2.1 r.2.2.2.2.2.1, add32 s.2.2.2.2.2.2.1 r.2.2.2.2.2.2.1, add32 s.2.2.2.2.2.2.2 r.2.2.2.2.2.2.2)
def kTab : List Int := [1116352408, 1899447441, 3049323471, 3921009573, 961987163, 1508970993, 2453635748, 2870763221, 3624381080, 310598401, 607225278, 1426881987, 1925078388, 2162078206, 2614888103, 3248222580, 3835390401, 4022224774, 264347078, 604807628, 770255983, 1249150122, 1555081692, 1996064986, 2554220882, 2821834349, 2952996808, 3210313671, 3336571891, 3584528711, 113926993, 338241895, 666307205, 773529912, 1294757372, 1396182291, 1695183700, 1986661051, 2177026350, 2456956037, 2730485921, 2820302411, 3259730800, 3345764771, 3516065817, 3600352804, 4094571909, 275423344, 430227734, 506948616, 659060556, 883997877, 958139571, 1322822218, 1537002063, 1747873779, 1955562222, 2024104815, 2227730452, 2361852424, 2428436474, 2756734187, 3204031479, 3329325298]
def fTab : List Int := [1779033703, 3144134277, 1013904242, 2773480762, 1359893119, 2600822924, 528734635, 1541459225]
structure Tab (w : World) : Prop where
  pos : 2 ≤ w.heap.size
  k : ∀ i : Nat, i < 64 → w.cell? ⟨1, i, none⟩ = some (.int .u32 (rd kTab (i : Int)))
  f : ∀ i : Nat, i < 8 → w.cell? ⟨0, i, none⟩ = some (.int .u32 (rd fTab (i : Int)))
theorem Tab.below {w w' : World} (h : Tab w) (hb : Below w.heap.size w w') : Tab w' :=
  ⟨Nat.le_trans h.pos hb.size, fun i hi => (hb.cell (World.block_lt_of_cell? w _ (h.k i hi))).trans (h.k i hi), fun i hi => (hb.cell (World.block_lt_of_cell? w _ (h.f i hi))).trans (h.f i hi)⟩
def blockI (s : S8) (l : List Int) : S8 := mix s (rnds kTab (sch l 48) s 64) 8
structure G4 (wr : World) (g : Nat) (k p16 p15 p7 p2 : Nat) (a x c y z : Int) : Prop where
  g16 : ∀ w' : World, w'.heap = wr.heap → w'.cell? ⟨g, p16, none⟩ = some (.int .u32 a)
  g15 : ∀ w' : World, w'.heap = wr.heap → w'.cell? ⟨g, p15, none⟩ = some (.int .u32 x)
  g7 : ∀ w' : World, w'.heap = wr.heap → w'.cell? ⟨g, p7, none⟩ = some (.int .u32 c)
  g2 : ∀ w' : World, w'.heap = wr.heap → w'.cell? ⟨g, p2, none⟩ = some (.int .u32 y)
  gk : ∀ w' : World, w'.heap = wr.heap → w'.cell? ⟨g, k, none⟩ = some (.int .u32 z)
  fr : ∀ w' : World, w'.heap = wr.heap → w'.frozen? ⟨g, k, none⟩ = false
structure L4 (w : World) (ad : Addr) (q0 q1 q2 q3 : Nat) (y0 y1 y2 y3 : Int) : Prop where
  l0 : ∀ w', Below w.heap.size w w' → w'.cell? (ad.add q0) = some (.int .u8 y0)
  l1 : ∀ w', Below w.heap.size w w' → w'.cell? (ad.add q1) = some (.int .u8 y1)
  l2 : ∀ w', Below w.heap.size w w' → w'.cell? (ad.add q2) = some (.int .u8 y2)
  l3 : ∀ w', Below w.heap.size w w' → w'.cell? (ad.add q3) = some (.int .u8 y3)
theorem getB' {w w' : World} {ad : Addr} {n : Nat} {xs : List Int} (h : B.C w (some ad) n xs) (hb : Below w.heap.size w w') (k : Nat) (hk : k < n) : w'.cell? (ad.add k) = some (.int .u8 (rd xs (k : Int))) := by
  obtain ⟨ad', e, hx⟩ := getB (Kd.C_below h hb) k hk
  cases e
  exact hx
theorem L4.of {w : World} {ad : Addr} {l : List Int} (h : B.C w (some ad) l.length l) (q0 q1 q2 q3 : Nat) (h0 : q0 < l.length) (h1 : q1 < l.length) (h2 : q2 < l.length) (h3 : q3 < l.length) : L4 w ad q0 q1 q2 q3 (rd l (q0 : Int)) (rd l (q1 : Int)) (rd l (q2 : Int)) (rd l (q3 : Int)) :=
  ⟨fun w' hb => getB' h hb _ h0, fun w' hb => getB' h hb _ h1, fun w' hb => getB' h hb _ h2, fun w' hb => getB' h hb _ h3⟩
theorem St.start (w : World) (s z : Array Value) : St w (((w.alloc (.cells s 67)).alloc (.cells z 67)).alloc (.cells (cw (List.replicate 64 0)) 68)) s z (List.replicate 64 0) :=
  ⟨by rw [Below.heap_alloc _ _ _ (by simp; omega), Below.heap_alloc _ _ _ (by simp)]; exact heap_new _ _, by rw [Below.heap_alloc _ _ _ (by simp)]; exact heap_new' _ _ _ (by simp), heap_new' _ _ _ (by simp), (((Below.refl w.heap.size w).alloc (Nat.le_refl _) _).alloc (by simp) _).alloc (by simp; omega) _⟩
theorem St.setZ8 {w0 w : World} {s : Array Value} {xs : List Int} {a b c d e f g h : Int} (H : St w0 w s (c8 (a, b, c, d, e, f, g, h)) xs) (r0 r1 r2 r3 r4 r5 r6 r7 : Int) :
    St w0 ((((((((w.setCell ⟨w0.heap.size + 1, 0, none⟩ (.int .u32 r0)).setCell ⟨w0.heap.size + 1, 1, none⟩ (.int .u32 r1)).setCell ⟨w0.heap.size + 1, 2, none⟩ (.int .u32 r2)).setCell ⟨w0.heap.size + 1, 3, none⟩ (.int .u32 r3)).setCell ⟨w0.heap.size + 1, 4, none⟩ (.int .u32 r4)).setCell ⟨w0.heap.size + 1, 5, none⟩ (.int .u32 r5)).setCell ⟨w0.heap.size + 1, 6, none⟩ (.int .u32 r6)).setCell ⟨w0.heap.size + 1, 7, none⟩ (.int .u32 r7)) s (c8 (r0, r1, r2, r3, r4, r5, r6, r7)) xs := by
  have h := (((((((H.setZ 0 (.int .u32 r0)).setZ 1 (.int .u32 r1)).setZ 2 (.int .u32 r2)).setZ 3 (.int .u32 r3)).setZ 4 (.int .u32 r4)).setZ 5 (.int .u32 r5)).setZ 6 (.int .u32 r6)).setZ 7 (.int .u32 r7)
  simpa using h
end Go.Proofs.YtoiblfmlahedlaaDoor.Sha
end
