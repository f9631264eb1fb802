/- What calls of Go functions of this seat come to, as the rows need it: under the conditions that each theorem names. -/
import Derived.Test.YtllcofllnjgkcaaDoorRefG
namespace Go.Proofs.YtllcofllnjgkcaaDoor.Ref
open Go.RowKit Go.Proofs.YtllcofllnjgkcaaDoorW.PrintWords Go.Proofs.YtllcofllnjgkcaaDoorW.PrintLast Go.Proofs.YtllcofllnjgkcaaDoorW.PrintMore
set_option linter.unusedVariables false
set_option linter.unusedSimpArgs false
open Go.Proofs.YtllcofllnjgkcaaDoor.Sha
def part (l : List Int) (t : Nat) : Nat → Int
  | 0 => 0
  | j + 1 => part l t j * 256 + rd l ((4 * t + j : Nat) : Int)
def ldR (l : List Int) (t j : Nat) : List Int := (ld l t).set t (part l t j)
theorem ld_zero (l : List Int) (t j : Nat) (h : t ≤ j) (hj : j < 64) : rd (ld l t) (j : Int) = 0 := by
  induction t with
  | zero =>
    unfold rd ld
    rw [Int.toNat_natCast, List.getD_eq_getElem?_getD, List.getElem?_replicate, if_pos hj]
    rfl
  | succ t ih =>
    have := ih (by omega)
    unfold rd at this ⊢
    rw [Int.toNat_natCast, List.getD_eq_getElem?_getD] at this ⊢
    unfold ld
    rw [List.getElem?_set_ne (by omega)]
    exact this
theorem ldR_zero (l : List Int) (t : Nat) (h : t < 64) : ldR l t 0 = ld l t := by
  have h0 := ld_zero l t t (Nat.le_refl _) h
  unfold ldR part
  apply List.ext_getElem (by simp)
  intro i h1 h2
  rw [List.getElem_set]
  split
  · rename_i he
    subst he
    unfold rd at h0
    rw [Int.toNat_natCast, List.getD_eq_getElem?_getD, List.getElem?_eq_getElem h2] at h0
    exact h0.symm
  · rfl
theorem ldR_four (l : List Int) (t : Nat) : ldR l t 4 = ld l (t + 1) := by
  unfold ldR
  show _ = (ld l t).set t _
  congr 1
  simp [part, wordI]
theorem ldR_set (l : List Int) (t j : Nat) (x : Int) : (ldR l t j).set t x = (ld l t).set t x := by unfold ldR; rw [List.set_set]
theorem ldR_len (l : List Int) (t j : Nat) : (ldR l t j).length = 64 := by unfold ldR; rw [List.length_set, ld_len]
theorem ldR_at (l : List Int) (t j : Nat) (h : t < 64) : rd (ldR l t j) (t : Int) = part l t j := by
  unfold rd ldR
  rw [Int.toNat_natCast, List.getD_eq_getElem?_getD, List.getElem?_set_self (by rw [ld_len]; exact h)]
  rfl
theorem part_rng {l : List Int} (hb : Sha.bytes l) (t : Nat) (h : 4 * t + 4 ≤ l.length) : ∀ j, j ≤ 4 → 0 ≤ part l t j ∧ part l t j < 256 ^ j
  | 0, _ => by simp [part]
  | j + 1, hj => by
    have ih := part_rng hb t h j (by omega)
    have hy := bytes_rd hb (4 * t + j) (by omega)
    unfold part
    rw [Int.pow_succ]
    omega
def rng (x : Int) : Prop := 0 ≤ x ∧ x < 4294967296
theorem wrap_rng (x : Int) : rng (IntKind.u32.wrap x) := by unfold rng; rw [IntKind.wrap_u32]; omega
theorem not_eq {e : Int} (h : rng e) : IntKind.u32.wrap (4294967295 - e) = bits .xor .u32 4294967295 e := by
  obtain ⟨h0, h1⟩ := h
  obtain ⟨n, rfl⟩ := Int.eq_ofNat_of_zero_le h0
  show _ = IntKind.u32.wrap ((BitVec.ofInt 32 4294967295 ^^^ BitVec.ofInt 32 (n : Int)).toNat : Int)
  have h2 : BitVec.ofInt 32 4294967295 = BitVec.allOnes 32 := by decide
  rw [h2, BitVec.allOnes_xor, BitVec.toNat_not, ofInt_u32 n (by omega)]
  congr 1
  omega
def rng8 (s : S8) : Prop := rng s.1 ∧ rng s.2.1 ∧ rng s.2.2.1 ∧ rng s.2.2.2.1 ∧ rng s.2.2.2.2.1 ∧ rng s.2.2.2.2.2.1 ∧ rng s.2.2.2.2.2.2.1 ∧ rng s.2.2.2.2.2.2.2
theorem rnd_rng (k w : Int) {s : S8} (h : rng8 s) : rng8 (rnd k w s) := by
  obtain ⟨h0, h1, h2, h3, h4, h5, h6, h7⟩ := h
  exact ⟨wrap_rng _, h0, h1, h2, wrap_rng _, h4, h5, h6⟩
theorem rnds_rng (ks ws : List Int) {s : S8} (h : rng8 s) (n : Nat) : rng8 (rnds ks ws s n) := by
  induction n with
  | zero => exact h
  | succ n ih => exact rnd_rng _ _ ih
theorem mix_rng (s r : S8) : rng8 (mix s r 8) := ⟨wrap_rng _, wrap_rng _, wrap_rng _, wrap_rng _, wrap_rng _, wrap_rng _, wrap_rng _, wrap_rng _⟩
def setW (s : S8) (k : Nat) (v : Int) : S8 :=
  match k with
  | 0 => (v, s.2) | 1 => (s.1, v, s.2.2) | 2 => (s.1, s.2.1, v, s.2.2.2) | 3 => (s.1, s.2.1, s.2.2.1, v, s.2.2.2.2) | 4 => (s.1, s.2.1, s.2.2.1, s.2.2.2.1, v, s.2.2.2.2.2)
  | 5 => (s.1, s.2.1, s.2.2.1, s.2.2.2.1, s.2.2.2.2.1, v, s.2.2.2.2.2.2) | 6 => (s.1, s.2.1, s.2.2.1, s.2.2.2.1, s.2.2.2.2.1, s.2.2.2.2.2.1, v, s.2.2.2.2.2.2.2) | _ => (s.1, s.2.1, s.2.2.1, s.2.2.2.1, s.2.2.2.2.1, s.2.2.2.2.2.1, s.2.2.2.2.2.2.1, v)
theorem c8_set (s : S8) (k : Nat) (hk : k < 8) (v : Int) : (c8 s).setIfInBounds k (.int .u32 v) = c8 (setW s k v) := by
  obtain rfl | rfl | rfl | rfl | rfl | rfl | rfl | rfl : k = 0 ∨ k = 1 ∨ k = 2 ∨ k = 3 ∨ k = 4 ∨ k = 5 ∨ k = 6 ∨ k = 7 := by omega
  all_goals rfl
def mixW (s r : S8) : Nat → S8
  | 0 => r
  | k + 1 => setW (mixW s r k) k (IntKind.u32.wrap (wd (mixW s r k) k + wd s k))
theorem mixW_all (s r : S8) : mixW s r 8 = mix s r 8 := by
  obtain ⟨a, b, c, d, e, f, g, h⟩ := s
  obtain ⟨a', b', c', d', e', f', g', h'⟩ := r
  simp only [mixW, setW, wd, mix, add32, Int.add_comm]
/-- What a block has in memory. -/
structure Rb (w0 w : World) (s : S8) (xs : List Int) : Prop where
  s : w.heap[w0.heap.size]? = some (.cells (c8 s) 49 (0, 0))
  k : w.heap[w0.heap.size + 1]? = some (.cells (cw kTab) 50 (0, 0))
  z : w.heap[w0.heap.size + 1 + 1]? = some (.cells (c8 (0, 0, 0, 0, 0, 0, 0, 0)) 49 (0, 0))
  x : w.heap[w0.heap.size + 1 + 1 + 1]? = some (.cells (cw xs) 50 (0, 0))
  b : Below w0.heap.size w0 w
theorem Rb.drew {w0 w : World} {s : S8} {xs : List Int} (h : Rb w0 w s xs) : Rb w0 w.drew s xs := ⟨h.s, h.k, h.z, h.x, below_drew1 h.b⟩
theorem Rb.set {w0 w : World} {s : S8} {xs : List Int} (h : Rb w0 w s xs) (j : Nat) (x : Int) : Rb w0 (w.setCell ⟨w0.heap.size + 1 + 1 + 1, j, none⟩ (.int .u32 x)) s (xs.set j x) :=
  ⟨blk_far h.s (p := ⟨w0.heap.size + 1 + 1 + 1, j, none⟩) (by first | (show _ ≠ _; simp; done) | (show _ ≠ _; simp; omega)) _, blk_far h.k (p := ⟨w0.heap.size + 1 + 1 + 1, j, none⟩) (by first | (show _ ≠ _; simp; done) | (show _ ≠ _; simp; omega)) _, blk_far h.z (p := ⟨w0.heap.size + 1 + 1 + 1, j, none⟩) (by first | (show _ ≠ _; simp; done) | (show _ ≠ _; simp; omega)) _, by rw [← cw_set]; exact blk_set h.x j _, h.b.setCell (p := ⟨w0.heap.size + 1 + 1 + 1, j, none⟩) (by show w0.heap.size ≤ w0.heap.size + 1 + 1 + 1; omega) _⟩
theorem Rb.far {w0 w : World} {s : S8} {xs : List Int} (h : Rb w0 w s xs) (g j : Nat) (hg : w0.heap.size + 1 + 1 + 1 < g) (v : Value) : Rb w0 (w.setCell ⟨g, j, none⟩ v) s xs :=
  ⟨blk_far h.s (p := ⟨g, j, none⟩) (by show _ ≠ g; omega) _, blk_far h.k (p := ⟨g, j, none⟩) (by show _ ≠ g; omega) _, blk_far h.z (p := ⟨g, j, none⟩) (by show _ ≠ g; omega) _, blk_far h.x (p := ⟨g, j, none⟩) (by show _ ≠ g; omega) _, h.b.setCell (p := ⟨g, j, none⟩) (by show w0.heap.size ≤ g; omega) _⟩
theorem Rb.row {w0 w : World} {s : S8} {xs : List Int} (h : Rb w0 w s xs) (g : Nat) (hg : w0.heap.size + 1 + 1 + 1 < g) (cs : Array Value) : Rb w0 (w.setRow g cs) s xs :=
  ⟨(setRow_other _ _ _ _ (by omega)).trans h.s, (setRow_other _ _ _ _ (by omega)).trans h.k, (setRow_other _ _ _ _ (by omega)).trans h.z, (setRow_other _ _ _ _ (by omega)).trans h.x, below_setRow h.b (by omega) _⟩
theorem Rb.below {w0 w w' : World} {s : S8} {xs : List Int} (h : Rb w0 w s xs) (hb : Below w.heap.size w w') : Rb w0 w' s xs := ⟨heap_keep h.s hb, heap_keep h.k hb, heap_keep h.z hb, heap_keep h.x hb, below_step h.b hb⟩
theorem Rb.frozen {w0 w : World} {s : S8} {xs : List Int} (h : Rb w0 w s xs) (j : Nat) : w.frozen? ⟨w0.heap.size + 1 + 1 + 1, j, none⟩ = false := by simp [World.frozen?, h.x]
theorem Rb.start (w : World) (s : S8) : Rb w ((((w.alloc (.cells (c8 s) 49)).alloc (.cells (cw kTab) 50)).alloc (.cells (c8 (0, 0, 0, 0, 0, 0, 0, 0)) 49)).alloc (.cells (cw (List.replicate 64 0)) 50)) s (List.replicate 64 0) :=
  ⟨by rw [Below.heap_alloc _ _ _ (by first | (simp; done) | (simp; omega)), Below.heap_alloc _ _ _ (by first | (simp; done) | (simp; omega)), Below.heap_alloc _ _ _ (by first | (simp; done) | (simp; omega))]; exact Sha.heap_new _ _, by rw [Below.heap_alloc _ _ _ (by first | (simp; done) | (simp; omega)), Below.heap_alloc _ _ _ (by first | (simp; done) | (simp; omega))]; exact Sha.heap_new' _ _ _ (by simp), by rw [Below.heap_alloc _ _ _ (by first | (simp; done) | (simp; omega))]; exact Sha.heap_new' _ _ _ (by simp), Sha.heap_new' _ _ _ (by simp), ((((Below.refl w.heap.size w).alloc (Nat.le_refl _) _).alloc (by first | (simp; done) | (simp; omega)) _).alloc (by first | (simp; done) | (simp; omega)) _).alloc (by first | (simp; done) | (simp; omega)) _⟩
theorem infoS8 (s : S8) : (Tryd.prog.info? 49).map (·.size) = some (c8 s).size := infoS
end Go.Proofs.YtllcofllnjgkcaaDoor.Ref
