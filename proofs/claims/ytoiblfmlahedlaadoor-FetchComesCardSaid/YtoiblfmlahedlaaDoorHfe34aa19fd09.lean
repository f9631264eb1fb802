/- What calls of Go functions of this seat come to, as the rows need it: under the conditions that each theorem names. -/
import Derived.Test.YtoiblfmlahedlaaDoorH90499394dd19
import Derived.ChangeKeysEq
section
namespace Go.Proofs.YtoiblfmlahedlaaDoor.Sha
open Go.RowKit Go.Proofs.YtoiblfmlahedlaaDoorW.PrintWords Go.Proofs.YtoiblfmlahedlaaDoorW.PrintLast Go.Proofs.YtoiblfmlahedlaaDoorW.PrintMore
set_option linter.unusedVariables false
set_option linter.unusedSimpArgs false
set_option maxRecDepth 100000
theorem cB : Tryd.prog.cellsOf 5 = 1 := by kernel_rfl
theorem plainB : Tryd.prog.plainKey 5 = true := by kernel_rfl
theorem eqItems_cb (a b : List Int) (d : Nat) (w : World) : ∀ is : List Nat, (∀ i ∈ is, i < a.length ∧ i < b.length) → (Op.eqItems (d + 1) 5 1 (cb a) (cb b) is).run Tryd.prog w = .ok (is.all fun i => rd a (i : Int) == rd b (i : Int)) w
  | [], _ => by simp [Op.eqItems]
  | i :: is, h => by
    obtain ⟨h1, h2⟩ := h i (by simp)
    have p1 := run_part_plain (P := Tryd.prog) (w := w) plainB (cb_get (xs := a) (j := i) (by omega))
    have p2 := run_part_plain (P := Tryd.prog) (w := w) plainB (cb_get (xs := b) (j := i) (by omega))
    have p3 := run_equalIn_int (P := Tryd.prog) (w := w) d 5 .u8 .u8 (rd a (i : Int)) (rd b (i : Int)) Tryd.underlying5
    have ih := eqItems_cb a b d w is (fun j hj => h j (by simp [hj]))
    simp only [Op.eqItems, Nat.mul_one, Sem.run_bind, p1, p2, p3, Result.andThen_ok]
    cases hz : (rd a (i : Int) == rd b (i : Int)) with
    | true => simpa [hz] using ih
    | false => simp [hz]
theorem info8 : ∃ i, Tryd.prog.info? 5 = some i := by
  obtain ⟨i, h, _⟩ := Option.map_eq_some_iff.1 info5
  exact ⟨i, h⟩
theorem eqD {a b : List Int} (ha : a.length = 32) (hb : b.length = 32) (w : World) : (Op.equalIn 10000 31 (vd a) (vd b)).run Tryd.prog w = .ok (decide (a = b)) w := by
  obtain ⟨i, hi⟩ := info8
  have h := run_equalIn_array (P := Tryd.prog) (w := w) 9999 (cb a) (cb b) Tryd.underlying31 hi
  rw [cB] at h
  rw [show (10000 : Nat) = 9999 + 1 from rfl, h, eqItems_cb a b 9998 w (List.range 32) (fun j hj => by have := List.mem_range.1 hj; omega)]
  congr 1
  rw [Bool.eq_iff_iff, List.all_eq_true, decide_eq_true_eq]
  constructor
  · intro hall
    apply List.ext_getElem (by omega)
    intro j h1 h2
    have := hall j (List.mem_range.2 (by omega))
    unfold rd at this
    rw [Int.toNat_natCast, List.getD_eq_getElem?_getD, List.getD_eq_getElem?_getD, List.getElem?_eq_getElem h1, List.getElem?_eq_getElem h2] at this
    simpa using this
  · rintro rfl j _
    simp
theorem cutD (A : Option Addr) (c : Nat) (rows : List (List Int)) (n : Nat) (hn : n ≤ rows.length) (hc : rows.length ≤ c) :
    ∃ (A' : Option Addr) (c' : Nat), (∀ W : World, (Instr.slice 41 (.slice A rows.length c) (some (.int .i64 (n : Int))) none none).run Tryd.prog W = .ok (.slice A' (rows.drop n).length c') W) ∧
      (∀ w : World, KD.C w A rows.length rows → KD.C w A' (rows.drop n).length (rows.drop n)) ∧ (rows.drop n).length ≤ c' := by
  obtain ⟨i0, hi, hz⟩ := Option.map_eq_some_iff.1 infoDG
  have hz' : i0.size = 32 := by simp at hz; exact hz.2.1
  have hel : Tryd.prog.elem 41 = 31 := by simp [Program.elem, Tryd.underlying41]
  refine ⟨if c = n then A else A.map (·.add (n * 32)), c - n, fun W => ?_, fun w h => ?_, by rw [List.length_drop]; omega⟩
  · rw [run_slice_l (P := Tryd.prog) W 41 A rows.length c (by rw [hel]; exact Tryd.underlying41) .i64 (n : Int) (by omega) (by omega), hel, List.length_drop]
    simp [sizeOf, typeInfo, hi, hz', sliced, Result.andThen]
  · exact Kd.C_drop h hn hc
end Go.Proofs.YtoiblfmlahedlaaDoor.Sha
end
section
namespace Go.Proofs.YtoiblfmlahedlaaDoor.Ref
open Go.RowKit Go.Proofs.YtoiblfmlahedlaaDoorW.PrintWords Go.Proofs.YtoiblfmlahedlaaDoorW.PrintLast Go.Proofs.YtoiblfmlahedlaaDoorW.PrintMore
set_option linter.unusedVariables false
set_option linter.unusedSimpArgs false
set_option maxRecDepth 100000
open Go.Proofs.YtoiblfmlahedlaaDoor.Sha
def isPb (n : Nat) : Bool := decide (1 < n) && !((List.range n).any fun j => decide (2 ≤ j) && decide (j * j ≤ n) && (n % j == 0))
theorem isPb_no {n k : Nat} (hk : 2 ≤ k) (hkk : k * k ≤ n) (h : n % k = 0) : isPb n = false := by
  have hlt : k < n := by
    have : k * 2 ≤ k * k := Nat.mul_le_mul_left k hk
    omega
  have ha : ((List.range n).any fun j => decide (2 ≤ j) && decide (j * j ≤ n) && (n % j == 0)) = true := by
    rw [List.any_eq_true]
    exact ⟨k, List.mem_range.2 hlt, by simp [hk, hkk, h]⟩
  unfold isPb
  rw [ha]
  simp
theorem isPb_yes {n k : Nat} (hkk : n < k * k) (h : ∀ j, 2 ≤ j → j < k → n % j ≠ 0) : isPb n = decide (1 < n) := by
  have ha : ((List.range n).any fun j => decide (2 ≤ j) && decide (j * j ≤ n) && (n % j == 0)) = false := by
    rw [List.any_eq_false]
    intro j _
    simp only [Bool.and_eq_true, decide_eq_true_eq, beq_iff_eq, not_and]
    intro h1 h2
    refine h j h1.1 ?_ h2
    rcases Nat.lt_or_ge j k with h3 | h3
    · exact h3
    · have := Nat.mul_le_mul h3 h3
      omega
  unfold isPb
  rw [ha]
  simp
set_option maxHeartbeats 800000 in
theorem prime_calls (n : Nat) (w : World) (hn : n ≤ 400) : Calls Tryd.prog 73 #[.int .i64 n] w fun e w' => e = .returned (.bool (isPb n)) ∧ w' = w := by
  go_enter Tryd.func73, Tryd.ntmps73
  go_wp2
  go_loop [3] (fun v => ∃ k : Nat, v = .int .i64 (k : Int) ∧ 2 ≤ k ∧ k ≤ 21 ∧ Aside0 (∀ j, 2 ≤ j → j < k → n % j ≠ 0)) (fun v => 22 - (intOf v).toNat)
  case atStart => exact ⟨2, rfl, by omega, by omega, ⟨fun j h1 h2 => by omega⟩⟩
  case round =>
    obtain ⟨k, rfl, hk2, hk21, HJ⟩ := hrel
    obtain ⟨m, hm⟩ : ∃ m, m = k * k := ⟨_, rfl⟩
    have hm2 : (k : Int) * (k : Int) = (m : Int) := by rw [hm]; simp
    have hm3 : m ≤ 441 := by rw [hm]; exact Nat.mul_le_mul hk21 hk21
    have HM := Aside0.mk hm
    clear hm
    have hk0 : ¬ ((k : Int) = 0) := by omega
    by_cases hlt : m ≤ n
    · have hk20 : k ≤ 20 := by
        rcases Nat.lt_or_ge 20 k with h | h
        · have : k = 21 := by omega
          subst this
          have := HM.out
          omega
        · exact h
      by_cases hr : n % k = 0
      · have HP := Aside0.mk (isPb_no hk2 (by rw [← HM.out]; exact hlt) hr)
        have hr2 : (n : Int) % (k : Int) = 0 := by exact_mod_cast hr
        go_wp2
        go_ret
        exact ⟨by rw [HP.out]; rfl, rfl⟩
      · have hr2 : ((n : Int) % (k : Int) == 0) = false := by rw [beq_eq_false_iff_ne]; exact_mod_cast hr
        have HJ2 := Aside0.mk (show ∀ j, 2 ≤ j → j < k + 1 → n % j ≠ 0 from fun j h1 h2 => by
          rcases Nat.lt_or_ge j k with h | h
          · exact HJ.out j h1 h
          · obtain rfl : j = k := by omega
            exact hr)
        go_wp2
        go_round
        case rel => exact ⟨k + 1, by go_num, by omega, by omega, HJ2⟩
        case measure => simp [intOf]; omega
    · have HP := Aside0.mk (isPb_yes (n := n) (k := k) (by rw [← HM.out]; omega) HJ.out)
      have e1 : decide ((n : Int) > 1) = decide (1 < n) := by rw [decide_eq_decide]; omega
      go_wp2
      go_ret
      exact ⟨by rw [HP.out]; first | rfl | (congr 1; simp), rfl⟩
theorem C_oneI (w : World) (x : Int) (t : TypeId) : (Kd.int .i64).C (w.alloc (.cells #[.int .i64 x] t)) (some ⟨w.heap.size, 0, none⟩) 1 [x] :=
  C_block .i64 (Sha.heap_new _ _) [x] (fun j y hj => by
    rcases j with _ | j
    · obtain rfl : x = y := by simpa using hj
      rfl
    · simp at hj) (by simp)
def pb (n : Nat) : List Int := ((List.range n).filter isPb).map Int.ofNat
theorem pb_succ (n : Nat) : pb (n + 1) = if isPb n then pb n ++ [(n : Int)] else pb n := by
  unfold pb
  rw [List.range_succ, List.filter_append]
  cases h : isPb n <;> simp [List.filter, h]
theorem pb_pre {n m : Nat} (h : n ≤ m) : pb n <+: pb m := by
  induction m with
  | zero => obtain rfl : n = 0 := by omega
            exact List.prefix_rfl
  | succ m ih =>
    rcases Nat.lt_or_ge m n with h1 | h1
    · obtain rfl : n = m + 1 := by omega
      exact List.prefix_rfl
    · refine (ih h1).trans ?_
      rw [pb_succ]
      split
      · exact List.prefix_append _ _
      · exact List.prefix_rfl
def P64 : List Int := [2, 3, 5, 7, 11, 13, 17, 19, 23, 29, 31, 37, 41, 43, 47, 53, 59, 61, 67, 71, 73, 79, 83, 89, 97, 101, 103, 107, 109, 113, 127, 131, 137, 139, 149, 151, 157, 163, 167, 173, 179, 181, 191, 193, 197, 199, 211, 223, 227, 229, 233, 239, 241, 251, 257, 263, 269, 271, 277, 281, 283, 293, 307, 311]
set_option maxRecDepth 100000 in
theorem pb_end : pb 312 = P64 := by decide +kernel
theorem P64_len : P64.length = 64 := rfl
theorem pb_len {n : Nat} (h : n ≤ 312) : (pb n).length ≤ 64 := by
  have := (pb_pre h).length_le
  rw [pb_end, P64_len] at this
  exact this
theorem pb_full {n : Nat} (h : n ≤ 312) (hl : 64 ≤ (pb n).length) : pb n = P64 := by
  have h1 := pb_len h
  rw [← pb_end]
  exact (pb_pre h).eq_of_length (by rw [pb_end, P64_len]; omega)
theorem pb_more {n : Nat} (h : n ≤ 312) (hl : (pb n).length < 64) : n < 312 := by
  rcases Nat.lt_or_ge n 312 with h1 | h1
  · exact h1
  · obtain rfl : n = 312 := by omega
    rw [pb_end, P64_len] at hl
    omega
abbrev KI := Kd.int .i64
theorem infoI : (Tryd.prog.info? 3).map (fun i => (i.zero, i.size, i.bytes)) = some (some (.int .i64 0), 1, 8) := by kernel_rfl
set_option maxHeartbeats 1600000 in
set_option maxRecDepth 100000 in
theorem primes_calls (w : World) : Calls Tryd.prog 50 #[.int .i64 64] w fun e w' => ∃ v, e = .returned v ∧ Kd.R KI 3 w' w.heap.size (fun _ => True) v P64 ∧ Below w.heap.size w w' := by
  go_enter Tryd.func50, Tryd.ntmps50
  go_wp2
  go_loopw [3, 4] (fun v i wr => ∃ (n : Nat) (t : List Int) (A : Option Addr) (c : Nat), n ≤ 312 ∧ Aside0 (t = pb n) ∧ i = .int .i64 (n : Int) ∧ v = .slice A t.length c ∧ Aside0 (Kd.R KI 3 wr w.heap.size (fun _ => True) (.slice A t.length c) t) ∧ Aside0 (Below w.heap.size w wr)) (fun _ i _ => 312 - (intOf i).toNat)
  case atStart => exact ⟨2, [], none, 0, by omega, ⟨rfl⟩, rfl, rfl, ⟨Kd.R_nil _ _ _ _ _⟩, ⟨Below.refl _ _⟩⟩
  case round =>
    obtain ⟨n, t, A, c, hn, HT, rfl, rfl, HO, HB⟩ := hrel
    have hl64 : t.length ≤ 64 := by rw [HT.out]; exact pb_len hn
    by_cases hlt : t.length < 64
    · have hn1 := pb_more hn (by rw [← HT.out]; exact hlt)
      have HS := Aside0.mk (pb_succ n)
      have HP := Aside0.mk (fun w => prime_calls n w (by omega))
      generalize isPb n = b at HS HP
      cases b with
      | true =>
        have HS2 := Aside0.mk (show t ++ [(n : Int)] = pb (n + 1) by rw [HS.out, HT.out]; rfl)
        go_wp2_with fail
        refine (HP.out _).mono ?_
        rintro e w1 ⟨rfl, hw⟩
        replace hw := hw.symm
        subst hw
        go_wp2_with (first | ((with_reducible refine gate_builtin (b := .append) (xs := #[.tmp 13, .tmp 15]) rfl ?_); at_builtin; refine Kd.R_append_rows KI (w0 := w) w.heap.size rfl (.tmp 13) (.tmp 15) 23 3 (.int .i64 0) 8 rfl Tryd.underlying23 infoI rfl (by decide) (by omega) _ t [(n : Int)] _ _ _ (fun _ => True) (fun _ => False) rfl rfl (by (with_reducible repeat (first | apply Kd.R_alloc | apply Kd.R_drewN | apply Kd.R_drew)); exact HO.out) (C_oneI _ _ _) (fun _ _ h => h) (fun _ h => h.elim) (fun _ _ => trivial) (HB.out.alloc HB.out.size _) (HB.out.alloc HB.out.size _).size ?aL ?_; (case aL => omega); intro v2 w6 ho hb2 _ _; have HO2 := Aside0.mk ho; have HB2 := Aside0.mk hb2; clear ho hb2))
        generalize t ++ [(n : Int)] = t2 at *
        obtain ⟨A2, c2, rfl, _, _⟩ := Kd.R_reads HO2.out
        go_roundw
        case rel => exact ⟨n + 1, t2, A2, c2, by omega, HS2, by go_num, rfl, HO2, HB2⟩
        case measure => simp [intOf]; omega
      | false =>
        have HS2 := Aside0.mk (show t = pb (n + 1) by rw [HS.out, HT.out]; rfl)
        go_wp2_with fail
        refine (HP.out _).mono ?_
        rintro e w1 ⟨rfl, hw⟩
        replace hw := hw.symm
        subst hw
        go_wp2
        go_roundw
        case rel => exact ⟨n + 1, t, A, c, by omega, HS2, by go_num, rfl, HO, HB⟩
        case measure => simp [intOf]; omega
    · have HE := Aside0.mk (show t = P64 by rw [HT.out]; exact pb_full hn (by rw [← HT.out]; omega))
      go_wp2
      go_ret
      exact ⟨_, rfl, by rw [← HE.out]; exact HO.out, HB.out⟩
end Go.Proofs.YtoiblfmlahedlaaDoor.Ref
namespace Go.Proofs.YtoiblfmlahedlaaDoor.Ref
open Go.RowKit Go.Proofs.YtoiblfmlahedlaaDoorW.PrintWords Go.Proofs.YtoiblfmlahedlaaDoorW.PrintLast Go.Proofs.YtoiblfmlahedlaaDoorW.PrintMore
set_option linter.unusedVariables false
set_option linter.unusedSimpArgs false
open Go.Proofs.YtoiblfmlahedlaaDoor.Sha
def num : List Nat → Nat
  | [] => 0
  | d :: r => d + 65536 * num r
def small (l : List Nat) : Prop := ∀ x ∈ l, x < 65536
theorem num_take_succ : ∀ (l : List Nat) (k : Nat), k < l.length → num (l.take (k + 1)) = num (l.take k) + l.getD k 0 * 65536 ^ k
  | [], k, h => by simp at h
  | d :: r, 0, _ => by simp [num]
  | d :: r, k + 1, h => by
    have ih := num_take_succ r k (by simpa using h)
    simp only [List.take_succ_cons, num, ih, List.getD_cons_succ, Nat.pow_succ, Nat.mul_add]
    have : 65536 * (r.getD k 0 * 65536 ^ k) = r.getD k 0 * (65536 ^ k * 65536) := by ac_rfl
    omega
theorem num_set : ∀ (l : List Nat) (p d : Nat), p < l.length → num (l.set p d) + l.getD p 0 * 65536 ^ p = num l + d * 65536 ^ p
  | [], p, d, h => by simp at h
  | e :: r, 0, d, _ => by simp [num]; omega
  | e :: r, p + 1, d, h => by
    have ih := num_set r p d (by simpa using h)
    simp only [List.set_cons_succ, num, List.getD_cons_succ, Nat.pow_succ]
    have h1 : r.getD p 0 * (65536 ^ p * 65536) = 65536 * (r.getD p 0 * 65536 ^ p) := by ac_rfl
    have h2 : d * (65536 ^ p * 65536) = 65536 * (d * 65536 ^ p) := by ac_rfl
    rw [h1, h2]
    omega
theorem num_split : ∀ (l : List Nat) (k : Nat), k ≤ l.length → num l = num (l.take k) + 65536 ^ k * num (l.drop k)
  | l, 0, _ => by simp [num]
  | [], k + 1, h => by simp at h
  | d :: r, k + 1, h => by
    have ih := num_split r k (by simpa using h)
    simp only [List.take_succ_cons, List.drop_succ_cons, num, Nat.pow_succ]
    have h1 : 65536 ^ k * 65536 * num (r.drop k) = 65536 * (65536 ^ k * num (r.drop k)) := by ac_rfl
    rw [h1]
    omega
theorem num_lt : ∀ (l : List Nat), small l → num l < 65536 ^ l.length
  | [], _ => by simp [num]
  | d :: r, h => by
    have ih := num_lt r (fun x hx => h x (by simp [hx]))
    have hd := h d (by simp)
    simp only [num, List.length_cons, Nat.pow_succ]
    omega
theorem inner_step {out b : List Nat} {i k c V0 ai x : Nat} (hp : i + k < out.length) (hk : k < b.length) (hx : x = out.getD (i + k) 0 + ai * b.getD k 0 + c)
    (h : num out + c * 65536 ^ (i + k) = V0 + ai * 65536 ^ i * num (b.take k)) :
    num (out.set (i + k) (x % 65536)) + (x / 65536) * 65536 ^ (i + (k + 1)) = V0 + ai * 65536 ^ i * num (b.take (k + 1)) := by
  have h1 := num_set out (i + k) (x % 65536) hp
  have h2 := num_take_succ b k hk
  have hP : 65536 ^ (i + (k + 1)) = 65536 ^ (i + k) * 65536 := by rw [← Nat.add_assoc, Nat.pow_succ]
  have hab : ai * 65536 ^ i * (b.getD k 0 * 65536 ^ k) = ai * b.getD k 0 * 65536 ^ (i + k) := by rw [Nat.pow_add]; ac_rfl
  rw [h2, Nat.mul_add, hab, hP]
  generalize 65536 ^ (i + k) = P at *
  have hxP : x * P = (x % 65536) * P + (x / 65536) * (P * 65536) := by
    have e1 : (x / 65536) * (P * 65536) = (65536 * (x / 65536)) * P := by ac_rfl
    rw [e1, ← Nat.add_mul, Nat.mod_add_div]
  have hxP2 : x * P = out.getD (i + k) 0 * P + ai * b.getD k 0 * P + c * P := by rw [hx, Nat.add_mul, Nat.add_mul]
  omega
theorem outer_end {out b : List Nat} {i c V0 ai : Nat} (hb : b.length = 10) (ho : out.length = 10) (hs : small out) (hi : i ≤ 10)
    (h : num out + c * 65536 ^ (i + (10 - i)) = V0 + ai * 65536 ^ i * num (b.take (10 - i))) : num out = (V0 + ai * 65536 ^ i * num b) % 65536 ^ 10 := by
  have h1 := num_split b (10 - i) (by omega)
  have h2 := num_lt out hs
  rw [ho] at h2
  have e10 : i + (10 - i) = 10 := by omega
  rw [e10] at h
  have hM : ai * 65536 ^ i * (65536 ^ (10 - i) * num (b.drop (10 - i))) = 65536 ^ 10 * (ai * num (b.drop (10 - i))) := by
    have : (65536 : Nat) ^ 10 = 65536 ^ i * 65536 ^ (10 - i) := by rw [← Nat.pow_add, e10]
    rw [this]
    ac_rfl
  rw [h1, Nat.mul_add, hM, ← Nat.add_assoc, ← h, Nat.add_assoc, Nat.mul_comm c, ← Nat.mul_add, Nat.add_mul_mod_self_left, Nat.mod_eq_of_lt h2]
theorem outer_step {a b : List Nat} {i V : Nat} (hi : i < a.length) (hV : V = (num (a.take i) * num b) % 65536 ^ 10) :
    (V + a.getD i 0 * 65536 ^ i * num b) % 65536 ^ 10 = (num (a.take (i + 1)) * num b) % 65536 ^ 10 := by
  rw [num_take_succ a i hi, Nat.add_mul, hV, Nat.mod_add_mod]
end Go.Proofs.YtoiblfmlahedlaaDoor.Ref
namespace Go.Proofs.YtoiblfmlahedlaaDoor.Ref
open Go.RowKit Go.Proofs.YtoiblfmlahedlaaDoorW.PrintWords Go.Proofs.YtoiblfmlahedlaaDoorW.PrintLast Go.Proofs.YtoiblfmlahedlaaDoorW.PrintMore
set_option linter.unusedVariables false
set_option linter.unusedSimpArgs false
open Go.Proofs.YtoiblfmlahedlaaDoor.Sha
def c10 (l : List Nat) : Array Value := (l.map fun (n : Nat) => Value.int .u64 (n : Int)).toArray
abbrev v10 (l : List Nat) : Value := .agg (c10 l)
theorem c10_get {l : List Nat} {j : Nat} (h : j < l.length) : (c10 l)[j]? = some (.int .u64 ((l.getD j 0 : Nat) : Int)) := by
  unfold c10
  rw [List.getD_eq_getElem?_getD, List.getElem?_toArray, List.getElem?_map, List.getElem?_eq_getElem h]
  rfl
theorem c10_set (l : List Nat) (j x : Nat) : (c10 l).setIfInBounds j (.int .u64 (x : Int)) = c10 (l.set j x) := by
  unfold c10
  rw [List.setIfInBounds_toArray, List.map_set]
theorem c10_size (l : List Nat) : (c10 l).size = l.length := by simp [c10]
theorem c10_one (l : List Nat) : (c10 l).all (·.oneCell') = true := by
  rw [Array.all_eq_true_iff_forall_mem]
  intro v hv
  unfold c10 at hv
  simp only [List.mem_toArray, List.mem_map] at hv
  obtain ⟨x, _, rfl⟩ := hv
  rfl
theorem info10 (l : List Nat) (h : l.length = 10) : (Tryd.prog.info? 121).map (·.size) = some (c10 l).size := by
  rw [c10_size, h]
  kernel_rfl
def z10 : List Nat := List.replicate 10 0
structure Tm (w0 w : World) (a b out : List Nat) : Prop where
  a : w.heap[w0.heap.size]? = some (.cells (c10 a) 121 (0, 0))
  b : w.heap[w0.heap.size + 1]? = some (.cells (c10 b) 121 (0, 0))
  z : w.heap[w0.heap.size + 1 + 1]? = some (.cells (c10 z10) 121 (0, 0))
  o : w.heap[w0.heap.size + 1 + 1 + 1]? = some (.cells (c10 out) 121 (0, 0))
  l : Below w0.heap.size w0 w
theorem Tm.drew {w0 w : World} {a b out : List Nat} (h : Tm w0 w a b out) : Tm w0 w.drew a b out := ⟨h.a, h.b, h.z, h.o, below_drew1 h.l⟩
theorem Tm.set {w0 w : World} {a b out : List Nat} (h : Tm w0 w a b out) (j x : Nat) : Tm w0 (w.setCell ⟨w0.heap.size + 1 + 1 + 1, j, none⟩ (.int .u64 (x : Int))) a b (out.set j x) :=
  ⟨blk_far h.a (p := ⟨w0.heap.size + 1 + 1 + 1, j, none⟩) (by first | (show _ ≠ _; simp; done) | (show _ ≠ _; simp; omega)) _, blk_far h.b (p := ⟨w0.heap.size + 1 + 1 + 1, j, none⟩) (by first | (show _ ≠ _; simp; done) | (show _ ≠ _; simp; omega)) _, blk_far h.z (p := ⟨w0.heap.size + 1 + 1 + 1, j, none⟩) (by first | (show _ ≠ _; simp; done) | (show _ ≠ _; simp; omega)) _, by rw [← c10_set]; exact blk_set h.o j _, h.l.setCell (p := ⟨w0.heap.size + 1 + 1 + 1, j, none⟩) (by show w0.heap.size ≤ w0.heap.size + 1 + 1 + 1; omega) _⟩
theorem Tm.start (w : World) (a b : List Nat) : Tm w ((((w.alloc (.cells (c10 a) 121)).alloc (.cells (c10 b) 121)).alloc (.cells (c10 z10) 121)).alloc (.cells (c10 z10) 121)) a b z10 :=
  ⟨by rw [Below.heap_alloc _ _ _ (by first | (simp; done) | (simp; omega)), Below.heap_alloc _ _ _ (by first | (simp; done) | (simp; omega)), Below.heap_alloc _ _ _ (by simp)]; exact Sha.heap_new _ _, by rw [Below.heap_alloc _ _ _ (by first | (simp; done) | (simp; omega)), Below.heap_alloc _ _ _ (by simp)]; exact Sha.heap_new' _ _ _ (by simp), by rw [Below.heap_alloc _ _ _ (by simp)]; exact Sha.heap_new' _ _ _ (by simp), Sha.heap_new' _ _ _ (by simp), ((((Below.refl w.heap.size w).alloc (Nat.le_refl _) _).alloc (by simp) _).alloc (by first | (simp; done) | (simp; omega)) _).alloc (by first | (simp; done) | (simp; omega)) _⟩
def tim_T9 : Bool × List (List Nat × List Nat) := (true, [([], []), ([], []), ([0, 1], [0, 1]), ([2], [2]), ([3], [3]), ([], []), ([5], [5]), ([6], [6]), ([], []), ([8], [8]), ([9], [9]), ([7, 10], [7, 10]), ([4, 11], [4, 11]), ([], []), ([12, 13], [12, 13]), ([14, 0, 1, 2, 3, 4, 5, 6, 7, 8, 9, 10, 11, 12, 13, 14], [14])])
def tim_B9 : List Nat := [0, 0, 3, 7, 15, 0, 32, 96, 0, 256, 768, 2016, 4095, 0, 16383, 32767]
theorem tim_tab9 : rtab .any (opsOf Tryd.f75 9) = tim_T9 := by kernel_rfl
theorem tim_bits9 : waitsOk tim_T9.2 tim_B9 = true := by kernel_rfl
theorem wrap_u64' (n : Int) (h0 : 0 ≤ n) (h1 : n < 18446744073709551616) : IntKind.u64.wrap n = n := by rw [IntKind.wrap_u64]; omega
theorem small_set {l : List Nat} (h : small l) (j x : Nat) (hx : x < 65536) : small (l.set j x) := fun y hy => by
  rcases List.mem_or_eq_of_mem_set hy with h1 | rfl
  · exact h y h1
  · exact hx
theorem small_getD {l : List Nat} (h : small l) (j : Nat) : l.getD j 0 < 65536 := by
  rw [List.getD_eq_getElem?_getD]
  cases hj : l[j]? with
  | none => simp
  | some x => simpa using h x (List.mem_of_getElem? hj)
set_option maxHeartbeats 1600000 in
set_option maxRecDepth 100000 in
theorem times_calls (a b : List Nat) (w : World) (ha : a.length = 10) (hb : b.length = 10) (hsa : small a) (hsb : small b) :
    Calls Tryd.prog 75 #[v10 a, v10 b] w fun e w' => ∃ out, e = .returned (v10 out) ∧ out.length = 10 ∧ small out ∧ num out = num a * num b % 65536 ^ 10 ∧ Below w.heap.size w w' := by
  have HLA := Aside0.mk ha
  have HLB := Aside0.mk hb
  have HSA := Aside0.mk hsa
  have HSB := Aside0.mk hsb
  clear ha hb hsa hsb
  go_enter Tryd.func75, Tryd.ntmps75
  go_wp2
  go_loopw [6] (fun v wr => ∃ (i : Nat) (out : List Nat), i ≤ 10 ∧ v = .int .i64 (i : Int) ∧ Aside0 (Tm w wr a b out) ∧ Aside0 (out.length = 10 ∧ small out) ∧ Aside0 (num out = num (a.take i) * num b % 65536 ^ 10)) (fun v _ => 10 - (intOf v).toNat)
  case atStart => exact ⟨0, z10, by omega, rfl, ⟨Tm.start w a b⟩, ⟨rfl, by intro x hx; obtain ⟨_, rfl⟩ := List.mem_replicate.1 hx; omega⟩, ⟨by simp [num]; decide⟩⟩
  case round =>
    obtain ⟨i, out, hi, rfl, HT, HO, HN⟩ := hrel
    by_cases hlt : i < 10
    · have hi10 : (i : Int) < 10 := by omega
      go_wp2
      go_loopw [7, 8] (fun vc v wr => ∃ (c k : Nat) (out2 : List Nat), i + k ≤ 10 ∧ c < 65536 ∧ vc = .int .u64 (c : Int) ∧ v = .int .i64 (k : Int) ∧ Aside0 (Tm w wr a b out2) ∧ Aside0 (out2.length = 10 ∧ small out2) ∧ Aside0 (num out2 + c * 65536 ^ (i + k) = num out + a.getD i 0 * 65536 ^ i * num (b.take k))) (fun _ v _ => 10 - (intOf v).toNat)
      case atStart => exact ⟨0, 0, out, by omega, by omega, rfl, rfl, HT, HO, ⟨by simp [num]⟩⟩
      case round =>
        clear HT
        obtain ⟨c, k, out2, hik, hc, rfl, rfl, HT, HO2, HI⟩ := hrel
        obtain ⟨p, hp⟩ : ∃ p, p = i + k := ⟨_, rfl⟩
        have hpi : (i : Int) + (k : Int) = (p : Int) := by omega
        have hp11 : p ≤ 10 := by omega
        by_cases hlt2 : p < 10
        · have hp10 : (p : Int) < 10 := by omega
          have hk10 : (k : Int) < 10 := by omega
          have hkb : k < b.length := by rw [HLB.out]; omega
          have hpo : p < out2.length := by rw [HO2.out.1]; exact hlt2
          obtain ⟨ai, hai⟩ : ∃ q, q = a.getD i 0 := ⟨_, rfl⟩
          obtain ⟨bk, hbk⟩ : ∃ q, q = b.getD k 0 := ⟨_, rfl⟩
          obtain ⟨o, hoe⟩ : ∃ q, q = out2.getD p 0 := ⟨_, rfl⟩
          have hai6 : ai < 65536 := by rw [hai]; exact small_getD HSA.out i
          have hbk6 : bk < 65536 := by rw [hbk]; exact small_getD HSB.out k
          have ho6 : o < 65536 := by rw [hoe]; exact small_getD HO2.out.2 p
          obtain ⟨ab, hab⟩ : ∃ q, q = ai * bk := ⟨_, rfl⟩
          have hab6 : ab ≤ 65535 * 65535 := by rw [hab]; exact Nat.mul_le_mul (by omega) (by omega)
          obtain ⟨s1, hs1⟩ : ∃ q, q = o + ab := ⟨_, rfl⟩
          obtain ⟨x, hx⟩ : ∃ q, q = s1 + c := ⟨_, rfl⟩
          have hxb : x ≤ 4294967295 := by omega
          have HLD := Aside0.mk (show (∀ w' : World, w'.heap = wr.heap → w'.cell? ⟨w.heap.size + 1 + 1 + 1, p, none⟩ = some (.int .u64 (o : Int))) ∧ (∀ w' : World, w'.heap = wr.heap → w'.cell? ⟨w.heap.size, i, none⟩ = some (.int .u64 (ai : Int))) ∧ (∀ w' : World, w'.heap = wr.heap → w'.cell? ⟨w.heap.size + 1, k, none⟩ = some (.int .u64 (bk : Int))) from
            ⟨fun w' hh => by rw [hoe]; exact (cell_of (show w'.heap[w.heap.size + 1 + 1 + 1]? = _ by rw [hh]; exact HT.out.o)).2 (c10_get hpo), fun w' hh => by rw [hai]; exact (cell_of (show w'.heap[w.heap.size]? = _ by rw [hh]; exact HT.out.a)).2 (c10_get (by rw [HLA.out]; exact hlt)), fun w' hh => by rw [hbk]; exact (cell_of (show w'.heap[w.heap.size + 1]? = _ by rw [hh]; exact HT.out.b)).2 (c10_get hkb)⟩)
          have HWP := Aside0.mk (show IntKind.i64.wrap (p : Int) = (p : Int) by simp [IntKind.wrap, IntKind.bits, IntKind.signed]; omega)
          have HMU := Aside0.mk (show IntKind.u64.wrap ((ai : Int) * (bk : Int)) = (ab : Int) by rw [show (ai : Int) * (bk : Int) = (ab : Int) by rw [hab]; simp]; exact wrap_u64' _ (by omega) (by omega))
          have HA1 := Aside0.mk (show IntKind.u64.wrap ((o : Int) + (ab : Int)) = (s1 : Int) by rw [show (o : Int) + (ab : Int) = (s1 : Int) by omega]; exact wrap_u64' _ (by omega) (by omega))
          have HA2 := Aside0.mk (show IntKind.u64.wrap ((s1 : Int) + (c : Int)) = (x : Int) by rw [show (s1 : Int) + (c : Int) = (x : Int) by omega]; exact wrap_u64' _ (by omega) (by omega))
          have HSTEP := Aside0.mk (show num (out2.set p (x % 65536)) + (x / 65536) * 65536 ^ (i + (k + 1)) = num out + a.getD i 0 * 65536 ^ i * num (b.take (k + 1)) by
            rw [hp]
            refine inner_step (by rw [← hp]; exact hpo) hkb ?_ HI.out
            rw [hx, hs1, hab, hoe, hai, hbk, hp])
          have hxd : x / 65536 < 65536 := by omega
          have hxm : x % 65536 < 65536 := by omega
          have HC := Aside0.mk (show i + (k + 1) ≤ 10 by omega)
          have hS0 : wr.drew.heap = wr.heap := rfl
          clear hp hai hbk hoe hab hs1 hx hik
          go_upto_region 9 with (fail)
          refine start_ (n := 16) (S := fun w' => w'.heap = wr.heap) (ds := []) #[false, false, false, false, false, false, false, false, false, false, false, false, false, false, false, false] (by kernel_rfl) rfl rfl (by exact hS0) (fun hHeld => ?_)
          refine with_tabW tim_tab9 tim_bits9 (fun HT_ HW_ => ?_)
          refine pure_ (i := 0) (N := some 20) (v := ?_) (a' := ?_) #[true, false, false, false, false, false, false, false, false, false, false, false, false, false, false, false] rfl rfl (any_of HT_.out (by kernel_rfl)) (fun _ _ _ h => h) (Or.inl ⟨by rfl, ?_⟩) ?_ ?_
          rotate_left
          · intro w'
            go_simp
            with_reducible rfl
          rotate_left
          · simp only [Act.put, List.setIfInBounds_toArray, List.set_cons_zero, List.set_cons_succ, i64_w, i32_w]
            rfl
          refine pure_ (i := 1) (N := some 21) (v := ?_) (a' := ?_) #[true, true, false, false, false, false, false, false, false, false, false, false, false, false, false, false] rfl rfl (any_of HT_.out (by kernel_rfl)) (fun _ _ _ h => h) (Or.inl ⟨by rfl, ?_⟩) ?_ ?_
          rotate_left
          · intro w'
            go_simp
            with_reducible rfl
          rotate_left
          · simp only [Act.put, List.setIfInBounds_toArray, List.set_cons_zero, List.set_cons_succ, i64_w, i32_w]
            rfl
          refine pure_ (i := 2) (N := some 22) (v := ?_) (a' := ?_) #[true, true, true, false, false, false, false, false, false, false, false, false, false, false, false, false] rfl rfl (any_of HT_.out (by kernel_rfl)) (fun _ _ _ h => h) (Or.inl ⟨by rfl, ?_⟩) ?_ ?_
          rotate_left
          · intro w'
            go_simp
            rw [HWP.out]
          rotate_left
          · simp only [Act.put, List.setIfInBounds_toArray, List.set_cons_zero, List.set_cons_succ, i64_w, i32_w]
            rfl
          refine pure_ (i := 3) (N := some 23) (v := ?_) (a' := ?_) #[true, true, true, true, false, false, false, false, false, false, false, false, false, false, false, false] rfl rfl (any_of HT_.out (by kernel_rfl)) (fun _ _ _ h => h) (Or.inl ⟨by rfl, ?_⟩) ?_ ?_
          rotate_left
          · intro w'
            go_simp
            with_reducible rfl
          rotate_left
          · simp only [Act.put, List.setIfInBounds_toArray, List.set_cons_zero, List.set_cons_succ, i64_w, i32_w]
            rfl
          refine take_ (i := 4) (N := some 24) (v := ?_) (a' := ?_) #[true, true, true, true, true, false, false, false, false, false, false, false, false, false, false, false] rfl rfl (take_ofW HT_.out HW_.out (by kernel_rfl)) (fun _ _ _ h => h) (Or.inl ⟨by rfl, ?_⟩) hHeld ?_ ?_
          rotate_left
          · intro w' hSt
            have hx := HLD.out.1 w' hSt
            go_simp
            with_reducible rfl
          rotate_left
          · simp only [Act.put, List.setIfInBounds_toArray, List.set_cons_zero, List.set_cons_succ, i64_w, i32_w]
            rfl
          refine pure_ (i := 5) (N := some 25) (v := ?_) (a' := ?_) #[true, true, true, true, true, true, false, false, false, false, false, false, false, false, false, false] rfl rfl (any_of HT_.out (by kernel_rfl)) (fun _ _ _ h => h) (Or.inl ⟨by rfl, ?_⟩) ?_ ?_
          rotate_left
          · intro w'
            go_simp
            with_reducible rfl
          rotate_left
          · simp only [Act.put, List.setIfInBounds_toArray, List.set_cons_zero, List.set_cons_succ, i64_w, i32_w]
            rfl
          refine pure_ (i := 6) (N := some 26) (v := ?_) (a' := ?_) #[true, true, true, true, true, true, true, false, false, false, false, false, false, false, false, false] rfl rfl (any_of HT_.out (by kernel_rfl)) (fun _ _ _ h => h) (Or.inl ⟨by rfl, ?_⟩) ?_ ?_
          rotate_left
          · intro w'
            go_simp
            with_reducible rfl
          rotate_left
          · simp only [Act.put, List.setIfInBounds_toArray, List.set_cons_zero, List.set_cons_succ, i64_w, i32_w]
            rfl
          refine take_ (i := 7) (N := some 27) (v := ?_) (a' := ?_) #[true, true, true, true, true, true, true, true, false, false, false, false, false, false, false, false] rfl rfl (take_ofW HT_.out HW_.out (by kernel_rfl)) (fun _ _ _ h => h) (Or.inl ⟨by rfl, ?_⟩) hHeld ?_ ?_
          rotate_left
          · intro w' hSt
            have hx := HLD.out.2.1 w' hSt
            go_simp
            with_reducible rfl
          rotate_left
          · simp only [Act.put, List.setIfInBounds_toArray, List.set_cons_zero, List.set_cons_succ, i64_w, i32_w]
            rfl
          refine pure_ (i := 8) (N := some 28) (v := ?_) (a' := ?_) #[true, true, true, true, true, true, true, true, true, false, false, false, false, false, false, false] rfl rfl (any_of HT_.out (by kernel_rfl)) (fun _ _ _ h => h) (Or.inl ⟨by rfl, ?_⟩) ?_ ?_
          rotate_left
          · intro w'
            go_simp
            with_reducible rfl
          rotate_left
          · simp only [Act.put, List.setIfInBounds_toArray, List.set_cons_zero, List.set_cons_succ, i64_w, i32_w]
            rfl
          refine pure_ (i := 9) (N := some 29) (v := ?_) (a' := ?_) #[true, true, true, true, true, true, true, true, true, true, false, false, false, false, false, false] rfl rfl (any_of HT_.out (by kernel_rfl)) (fun _ _ _ h => h) (Or.inl ⟨by rfl, ?_⟩) ?_ ?_
          rotate_left
          · intro w'
            go_simp
            with_reducible rfl
          rotate_left
          · simp only [Act.put, List.setIfInBounds_toArray, List.set_cons_zero, List.set_cons_succ, i64_w, i32_w]
            rfl
          refine take_ (i := 10) (N := some 30) (v := ?_) (a' := ?_) #[true, true, true, true, true, true, true, true, true, true, true, false, false, false, false, false] rfl rfl (take_ofW HT_.out HW_.out (by kernel_rfl)) (fun _ _ _ h => h) (Or.inl ⟨by rfl, ?_⟩) hHeld ?_ ?_
          rotate_left
          · intro w' hSt
            have hx := HLD.out.2.2 w' hSt
            go_simp
            with_reducible rfl
          rotate_left
          · simp only [Act.put, List.setIfInBounds_toArray, List.set_cons_zero, List.set_cons_succ, i64_w, i32_w]
            rfl
          refine pure_ (i := 11) (N := some 31) (v := ?_) (a' := ?_) #[true, true, true, true, true, true, true, true, true, true, true, true, false, false, false, false] rfl rfl (any_of HT_.out (by kernel_rfl)) (fun _ _ _ h => h) (Or.inl ⟨by rfl, ?_⟩) ?_ ?_
          rotate_left
          · intro w'
            go_simp
            rw [HMU.out]
          rotate_left
          · simp only [Act.put, List.setIfInBounds_toArray, List.set_cons_zero, List.set_cons_succ, i64_w, i32_w]
            rfl
          refine pure_ (i := 12) (N := some 32) (v := ?_) (a' := ?_) #[true, true, true, true, true, true, true, true, true, true, true, true, true, false, false, false] rfl rfl (any_of HT_.out (by kernel_rfl)) (fun _ _ _ h => h) (Or.inl ⟨by rfl, ?_⟩) ?_ ?_
          rotate_left
          · intro w'
            go_simp
            rw [HA1.out]
          rotate_left
          · simp only [Act.put, List.setIfInBounds_toArray, List.set_cons_zero, List.set_cons_succ, i64_w, i32_w]
            rfl
          refine pure_ (i := 13) (N := some 33) (v := ?_) (a' := ?_) #[true, true, true, true, true, true, true, true, true, true, true, true, true, true, false, false] rfl rfl (any_of HT_.out (by kernel_rfl)) (fun _ _ _ h => h) (Or.inl ⟨by rfl, ?_⟩) ?_ ?_
          rotate_left
          · intro w'
            go_simp
            with_reducible rfl
          rotate_left
          · simp only [Act.put, List.setIfInBounds_toArray, List.set_cons_zero, List.set_cons_succ, i64_w, i32_w]
            rfl
          refine pure_ (i := 14) (N := some 34) (v := ?_) (a' := ?_) #[true, true, true, true, true, true, true, true, true, true, true, true, true, true, true, false] rfl rfl (any_of HT_.out (by kernel_rfl)) (fun _ _ _ h => h) (Or.inl ⟨by rfl, ?_⟩) ?_ ?_
          rotate_left
          · intro w'
            go_simp
            rw [HA2.out]
          rotate_left
          · simp only [Act.put, List.setIfInBounds_toArray, List.set_cons_zero, List.set_cons_succ, i64_w, i32_w]
            rfl
          refine pure_ (i := 15) (N := some 9) (v := ?_) (a' := ?_) #[true, true, true, true, true, true, true, true, true, true, true, true, true, true, true, true] rfl rfl (any_of HT_.out (by kernel_rfl)) (fun _ _ _ h => h) (Or.inl ⟨by rfl, ?_⟩) ?_ ?_
          rotate_left
          · intro w'
            go_simp
            with_reducible rfl
          rotate_left
          · simp only [Act.put, List.setIfInBounds_toArray, List.set_cons_zero, List.set_cons_succ, i64_w, i32_w]
            rfl
          refine done_ (done_of HT_.out (by kernel_rfl)) ?_
          replace HT := Aside0.mk HT.out.drew
          clear hS0 hHeld HT_ HW_ HLD HMU HA1 HA2 HWP HI
          generalize wr.drew = w5 at HT ⊢
          have hx := (cell_of HT.out.o).2 (c10_get hpo)
          have hf : w5.frozen? ⟨w.heap.size + 1 + 1 + 1, p, none⟩ = false := by simp [World.frozen?, HT.out.o]
          generalize out2.getD p 0 = od at hx
          have HT2 := Aside0.mk (HT.out.set p (x % 65536))
          rw [show ((x % 65536 : Nat) : Int) = (x : Int) % 65536 from rfl] at HT2
          have HO3 := Aside0.mk (show (out2.set p (x % 65536)).length = 10 ∧ small (out2.set p (x % 65536)) from ⟨by rw [List.length_set]; exact HO2.out.1, small_set HO2.out.2 _ _ hxm⟩)
          have hx4 : x ≤ 4294967295 := hxb
          go_wp2
          go_roundw
          case rel => exact ⟨x / 65536, k + 1, _, HC.out, hxd, by go_num, by go_num, HT2, HO3, HSTEP⟩
          case measure => simp [intOf]; omega
        · have hp9 : ¬ ((p : Int) < 10) := by omega
          have hkk : k = 10 - i := by omega
          have HE := Aside0.mk (outer_end HLB.out HO2.out.1 HO2.out.2 hi (by rw [← hkk]; exact HI.out))
          have HE2 := Aside0.mk (show num out2 = num (a.take (i + 1)) * num b % 65536 ^ 10 by rw [HE.out]; exact outer_step (by rw [HLA.out]; exact hlt) HN.out)
          clear hp hkk HE HI hik
          go_wp2
          go_roundw
          case rel => exact ⟨i + 1, out2, by omega, by go_num, HT, HO2, HE2⟩
          case measure => simp [intOf]; omega
    · obtain rfl : i = 10 := by omega
      have HNN := Aside0.mk (show num out = num a * num b % 65536 ^ 10 by rw [HN.out, ← HLA.out, List.take_length])
      have HIO := Aside0.mk (info10 out HO.out.1)
      clear hlt hi
      rw [show ((10 : Nat) : Int) = 10 from rfl]
      go_wp2_with (first | (refine wpList_load_row rfl 121 (.tmp 5) rfl (w.heap.size + 1 + 1 + 1) rfl 121 (c10 out) (0, 0) _ HT.out.o Tryd.underlying121 rfl HIO.out ?_) | (refine wpList_store_row rfl 121 (.tmp 4) (.tmp 43) rfl (w.heap.size + 1 + 1) (c10 out) rfl rfl 121 _ HT.out.z HIO.out (by rw [c10_size, c10_size, HO.out.1]; rfl) (c10_one _) ?_))
      have HF := Aside0.mk (setRow_heap _ _ _ (c10 out) _ _ HT.out.z)
      have HB := Aside0.mk (below_setRow HT.out.l (show w.heap.size ≤ w.heap.size + 1 + 1 by omega) (c10 out))
      (try simp only [Exit.inBlock, Exit.then])
      refine bodyPost_ret (results_cell_row rfl _ _ (w.heap.size + 1 + 1) 121 (c10 out) (0, 0) _ rfl HF.out Tryd.underlying121 rfl HIO.out) rfl ?_
      exact ⟨out, rfl, HO.out.1, HO.out.2, HNN.out, HB.out⟩
end Go.Proofs.YtoiblfmlahedlaaDoor.Ref
namespace Go.Proofs.YtoiblfmlahedlaaDoor.Ref
open Go.RowKit Go.Proofs.YtoiblfmlahedlaaDoorW.PrintWords Go.Proofs.YtoiblfmlahedlaaDoorW.PrintLast Go.Proofs.YtoiblfmlahedlaaDoorW.PrintMore
set_option linter.unusedVariables false
set_option linter.unusedSimpArgs false
open Go.Proofs.YtoiblfmlahedlaaDoor.Sha
def dg (n : Nat) : Nat → List Nat
  | 0 => z10
  | k + 1 => (dg n k).set k (n / 65536 ^ k % 65536)
theorem dg_len (n k : Nat) : (dg n k).length = 10 := by
  induction k with
  | zero => rfl
  | succ k ih => simp [dg, ih]
theorem dg_small (n k : Nat) : small (dg n k) := by
  induction k with
  | zero => intro x hx; obtain ⟨_, rfl⟩ := List.mem_replicate.1 hx; omega
  | succ k ih => exact small_set ih _ _ (by omega)
theorem dg_num (n : Nat) (h : n < 18446744073709551616) : num (dg n 4) = n := by
  simp [dg, z10, List.replicate, num]
  omega
structure Dm (w0 w : World) (z o : List Nat) : Prop where
  z : w.heap[w0.heap.size]? = some (.cells (c10 z) 121 (0, 0))
  o : w.heap[w0.heap.size + 1]? = some (.cells (c10 o) 121 (0, 0))
  l : Below w0.heap.size w0 w
theorem Dm.set {w0 w : World} {z o : List Nat} (h : Dm w0 w z o) (j x : Nat) : Dm w0 (w.setCell ⟨w0.heap.size + 1, j, none⟩ (.int .u64 (x : Int))) z (o.set j x) :=
  ⟨blk_far h.z (p := ⟨w0.heap.size + 1, j, none⟩) (by show _ ≠ _; simp) _, by rw [← c10_set]; exact blk_set h.o j _, h.l.setCell (p := ⟨w0.heap.size + 1, j, none⟩) (by show w0.heap.size ≤ w0.heap.size + 1; omega) _⟩
theorem Dm.start (w : World) (a b : List Nat) : Dm w ((w.alloc (.cells (c10 a) 121)).alloc (.cells (c10 b) 121)) a b :=
  ⟨by rw [Below.heap_alloc _ _ _ (by simp)]; exact Sha.heap_new _ _, Sha.heap_new' _ _ _ (by simp), ((Below.refl w.heap.size w).alloc (Nat.le_refl _) _).alloc (by simp) _⟩
set_option maxHeartbeats 1600000 in
set_option maxRecDepth 100000 in
theorem digits_calls (n : Nat) (w : World) (hn : n < 18446744073709551616) :
    Calls Tryd.prog 74 #[.int .u64 n] w fun e w' => e = .returned (v10 (dg n 4)) ∧ Below w.heap.size w w' := by
  go_enter Tryd.func74, Tryd.ntmps74
  go_wp2
  go_loopw [0, 4] (fun v0 v wr => ∃ k m : Nat, k ≤ 4 ∧ m < 18446744073709551616 ∧ v0 = .int .u64 (m : Int) ∧ v = .int .i64 (k : Int) ∧ Aside0 (m = n / 65536 ^ k) ∧ Aside0 (Dm w wr z10 (dg n k))) (fun _ v _ => 4 - (intOf v).toNat)
  case atStart => exact ⟨0, n, by omega, hn, rfl, rfl, ⟨by simp⟩, ⟨Dm.start w z10 z10⟩⟩
  case round =>
    clear hn
    obtain ⟨k, m, hk, hm, rfl, rfl, HM, HD⟩ := hrel
    by_cases hlt : k < 4
    · have hk10 : (k : Int) < 10 := by omega
      have hx := (cell_of HD.out.o).2 (c10_get (l := dg n k) (j := k) (by rw [dg_len]; omega))
      have hf : wr.frozen? ⟨w.heap.size + 1, k, none⟩ = false := by simp [World.frozen?, HD.out.o]
      generalize (dg n k).getD k 0 = od at hx
      have HD2 := Aside0.mk (HD.out.set k (m % 65536))
      rw [show (dg n k).set k (m % 65536) = dg n (k + 1) by rw [HM.out]; rfl] at HD2
      rw [show ((m % 65536 : Nat) : Int) = (m : Int) % 65536 from rfl] at HD2
      have HM2 := Aside0.mk (show m / 65536 = n / 65536 ^ (k + 1) by rw [HM.out, Nat.div_div_eq_div_mul, Nat.pow_succ])
      go_wp2
      go_roundw
      case rel => exact ⟨k + 1, m / 65536, by omega, by omega, by go_num, by go_num, HM2, HD2⟩
      case measure => simp [intOf]; omega
    · obtain rfl : k = 4 := by omega
      have HI := Aside0.mk (info10 (dg n 4) (dg_len _ _))
      have HL := Aside0.mk (dg_len n 4)
      clear hlt hk HM
      generalize hD : dg n 4 = D at *
      have HDD := Aside0.mk hD
      clear hD
      rw [show ((4 : Nat) : Int) = 4 from rfl]
      go_wp2_with (first | (refine wpList_load_row rfl 121 (.tmp 3) rfl (w.heap.size + 1) rfl 121 (c10 D) (0, 0) _ HD.out.o Tryd.underlying121 rfl HI.out ?_) | (refine wpList_store_row rfl 121 (.tmp 2) (.tmp 15) rfl w.heap.size (c10 D) rfl rfl 121 _ HD.out.z HI.out (by rw [c10_size, c10_size, HL.out]; rfl) (c10_one _) ?_))
      have HF := Aside0.mk (setRow_heap _ _ _ (c10 D) _ _ HD.out.z)
      have HB := Aside0.mk (below_setRow HD.out.l (Nat.le_refl _) (c10 D))
      (try simp only [Exit.inBlock, Exit.then])
      refine bodyPost_ret (results_cell_row rfl _ _ w.heap.size 121 (c10 D) (0, 0) _ rfl HF.out Tryd.underlying121 rfl HI.out) rfl ?_
      exact ⟨by first | rfl | rw [HDD.out], HB.out⟩
theorem num_top {a b : List Nat} {q : Nat} (la : a.length = 10) (lb : b.length = 10) (sa : small a) (hq : q < 10) (hd : a.drop (q + 1) = b.drop (q + 1)) (h : a.getD q 0 < b.getD q 0) : num a < num b := by
  have h1 := num_split a (q + 1) (by omega)
  have h2 := num_split b (q + 1) (by omega)
  have h3 := num_take_succ a q (by omega)
  have h4 := num_take_succ b q (by omega)
  have h5 := num_lt (a.take q) (fun x hx => sa x (List.mem_of_mem_take hx))
  rw [List.length_take, show min q a.length = q by omega] at h5
  rw [h1, h2, hd, h3, h4]
  have h6 : (a.getD q 0 + 1) * 65536 ^ q ≤ b.getD q 0 * 65536 ^ q := Nat.mul_le_mul_right _ h
  rw [Nat.add_mul, Nat.one_mul] at h6
  omega
theorem drop_step {a b : List Nat} {q : Nat} (la : a.length = 10) (lb : b.length = 10) (hq : q < 10) (hd : a.drop (q + 1) = b.drop (q + 1)) (h : a.getD q 0 = b.getD q 0) : a.drop q = b.drop q := by
  rw [List.drop_eq_getElem_cons (show q < a.length by omega), List.drop_eq_getElem_cons (show q < b.length by omega), hd]
  congr 1
  rw [List.getD_eq_getElem?_getD, List.getD_eq_getElem?_getD, List.getElem?_eq_getElem (by omega), List.getElem?_eq_getElem (by omega)] at h
  simpa using h
def abv_T4 : Bool × List (List Nat × List Nat) := (true, [([], []), ([0], [0]), ([1], [1]), ([], []), ([3], [3]), ([4], [4]), ([2, 5], [2, 5])])
def abv_B4 : List Nat := [0, 1, 3, 0, 8, 24, 63]
theorem abv_tab4 : rtab .any (opsOf Tryd.f76 4) = abv_T4 := by kernel_rfl
theorem abv_bits4 : waitsOk abv_T4.2 abv_B4 = true := by kernel_rfl
def abv_T5 : Bool × List (List Nat × List Nat) := (true, [([], []), ([0], [0]), ([1], [1]), ([], []), ([3], [3]), ([4], [4]), ([2, 5], [2, 5]), ([6, 0, 1, 2, 3, 4, 5, 6], [6])])
def abv_B5 : List Nat := [0, 1, 3, 0, 8, 24, 63, 127]
theorem abv_tab5 : rtab .any (opsOf Tryd.f76 5) = abv_T5 := by kernel_rfl
theorem abv_bits5 : waitsOk abv_T5.2 abv_B5 = true := by kernel_rfl
set_option maxHeartbeats 1600000 in
set_option maxRecDepth 100000 in
theorem above_calls (a b : List Nat) (w : World) (ha : a.length = 10) (hb : b.length = 10) (hsa : small a) (hsb : small b) :
    Calls Tryd.prog 76 #[v10 a, v10 b] w fun e w' => e = .returned (.bool (decide (num b < num a))) ∧ Below w.heap.size w w' := by
  have HLA := Aside0.mk ha
  have HLB := Aside0.mk hb
  have HSA := Aside0.mk hsa
  have HSB := Aside0.mk hsb
  clear ha hb hsa hsb
  go_enter Tryd.func76, Tryd.ntmps76
  go_wp2
  go_loopw [5] (fun v wr => ∃ k : Nat, k ≤ 10 ∧ v = .int .i64 ((k : Int) - 1) ∧ Aside0 (a.drop k = b.drop k) ∧ Aside0 (Dm w wr a b)) (fun v _ => ((intOf v) + 1).toNat)
  case atStart => exact ⟨10, by omega, rfl, ⟨by rw [List.drop_eq_nil_of_le (by rw [HLA.out]; omega), List.drop_eq_nil_of_le (by rw [HLB.out]; omega)]⟩, ⟨Dm.start w a b⟩⟩
  case round =>
    obtain ⟨k, hk, rfl, HE, HD⟩ := hrel
    rcases k with _ | q
    · rw [show ((0 : Nat) : Int) - 1 = -1 from rfl]
      have HF := Aside0.mk (show decide (num b < num a) = false by
        have h := HE.out
        rw [List.drop_zero, List.drop_zero] at h
        rw [h]
        simp)
      go_wp2
      go_ret
      exact ⟨by rw [HF.out]; rfl, HD.out.l⟩
    · rw [show ((q + 1 : Nat) : Int) - 1 = (q : Int) by omega]
      have hq10 : (q : Int) < 10 := by omega
      obtain ⟨x, hx⟩ : ∃ x, x = a.getD q 0 := ⟨_, rfl⟩
      obtain ⟨y, hy⟩ : ∃ y, y = b.getD q 0 := ⟨_, rfl⟩
      have HLD := Aside0.mk (show (∀ w' : World, w'.heap = wr.heap → w'.cell? ⟨w.heap.size, q, none⟩ = some (.int .u64 (x : Int))) ∧ (∀ w' : World, w'.heap = wr.heap → w'.cell? ⟨w.heap.size + 1, q, none⟩ = some (.int .u64 (y : Int))) from
        ⟨fun w' hh => by rw [hx]; exact (cell_of (show w'.heap[w.heap.size]? = _ by rw [hh]; exact HD.out.z)).2 (c10_get (by rw [HLA.out]; omega)), fun w' hh => by rw [hy]; exact (cell_of (show w'.heap[w.heap.size + 1]? = _ by rw [hh]; exact HD.out.o)).2 (c10_get (by rw [HLB.out]; omega))⟩)
      have hS0 : wr.drew.heap = wr.heap := rfl
      have HBW := Aside0.mk (below_drew1 HD.out.l)
      by_cases hxy : x = y
      · have HE2 := Aside0.mk (drop_step HLA.out HLB.out (by omega) HE.out (by rw [← hx, ← hy]; exact hxy))
        subst hxy
        clear hx hy
        go_upto_region 4 with (fail)
        refine start_ (n := 7) (S := fun w' => w'.heap = wr.heap) (ds := []) #[false, false, false, false, false, false, false] (by kernel_rfl) rfl rfl (by exact hS0) (fun hHeld => ?_)
        refine with_tabW abv_tab4 abv_bits4 (fun HT_ HW_ => ?_)
        refine pure_ (i := 0) (N := some 10) (v := ?_) (a' := ?_) #[true, false, false, false, false, false, false] rfl rfl (any_of HT_.out (by kernel_rfl)) (fun _ _ _ h => h) (Or.inl ⟨by rfl, ?_⟩) ?_ ?_
        rotate_left
        · intro w'
          go_simp
          with_reducible rfl
        rotate_left
        · simp only [Act.put, List.setIfInBounds_toArray, List.set_cons_zero, List.set_cons_succ, i64_w, i32_w]
          rfl
        refine pure_ (i := 1) (N := some 11) (v := ?_) (a' := ?_) #[true, true, false, false, false, false, false] rfl rfl (any_of HT_.out (by kernel_rfl)) (fun _ _ _ h => h) (Or.inl ⟨by rfl, ?_⟩) ?_ ?_
        rotate_left
        · intro w'
          go_simp
          with_reducible rfl
        rotate_left
        · simp only [Act.put, List.setIfInBounds_toArray, List.set_cons_zero, List.set_cons_succ, i64_w, i32_w]
          rfl
        refine take_ (i := 2) (N := some 12) (v := ?_) (a' := ?_) #[true, true, true, false, false, false, false] rfl rfl (take_ofW HT_.out HW_.out (by kernel_rfl)) (fun _ _ _ h => h) (Or.inl ⟨by rfl, ?_⟩) hHeld ?_ ?_
        rotate_left
        · intro w' hSt
          have hx := HLD.out.1 w' hSt
          go_simp
          with_reducible rfl
        rotate_left
        · simp only [Act.put, List.setIfInBounds_toArray, List.set_cons_zero, List.set_cons_succ, i64_w, i32_w]
          rfl
        refine pure_ (i := 3) (N := some 13) (v := ?_) (a' := ?_) #[true, true, true, true, false, false, false] rfl rfl (any_of HT_.out (by kernel_rfl)) (fun _ _ _ h => h) (Or.inl ⟨by rfl, ?_⟩) ?_ ?_
        rotate_left
        · intro w'
          go_simp
          with_reducible rfl
        rotate_left
        · simp only [Act.put, List.setIfInBounds_toArray, List.set_cons_zero, List.set_cons_succ, i64_w, i32_w]
          rfl
        refine pure_ (i := 4) (N := some 14) (v := ?_) (a' := ?_) #[true, true, true, true, true, false, false] rfl rfl (any_of HT_.out (by kernel_rfl)) (fun _ _ _ h => h) (Or.inl ⟨by rfl, ?_⟩) ?_ ?_
        rotate_left
        · intro w'
          go_simp
          with_reducible rfl
        rotate_left
        · simp only [Act.put, List.setIfInBounds_toArray, List.set_cons_zero, List.set_cons_succ, i64_w, i32_w]
          rfl
        refine take_ (i := 5) (N := some 15) (v := ?_) (a' := ?_) #[true, true, true, true, true, true, false] rfl rfl (take_ofW HT_.out HW_.out (by kernel_rfl)) (fun _ _ _ h => h) (Or.inl ⟨by rfl, ?_⟩) hHeld ?_ ?_
        rotate_left
        · intro w' hSt
          have hx := HLD.out.2 w' hSt
          go_simp
          with_reducible rfl
        rotate_left
        · simp only [Act.put, List.setIfInBounds_toArray, List.set_cons_zero, List.set_cons_succ, i64_w, i32_w]
          rfl
        refine pure_ (i := 6) (N := some 16) (v := ?_) (a' := ?_) #[true, true, true, true, true, true, true] rfl rfl (any_of HT_.out (by kernel_rfl)) (fun _ _ _ h => h) (Or.inl ⟨by rfl, ?_⟩) ?_ ?_
        rotate_left
        · intro w'
          go_simp
          with_reducible rfl
        rotate_left
        · simp only [Act.put, List.setIfInBounds_toArray, List.set_cons_zero, List.set_cons_succ, i64_w, i32_w]
          rfl
        refine done_ (done_of HT_.out (by kernel_rfl)) ?_
        clear hS0 hHeld HT_ HW_ HLD
        have HD2 := Aside0.mk (show Dm w wr.drew a b from ⟨HD.out.z, HD.out.o, HBW.out⟩)
        generalize wr.drew = w5 at HD2 ⊢
        go_wp2
        go_roundw
        case rel => exact ⟨q, by omega, by go_num, HE2, HD2⟩
        case measure => simp [intOf]
      · have HF := Aside0.mk (show decide (num b < num a) = decide (y < x) by
          rw [decide_eq_decide]
          rcases Nat.lt_or_ge y x with h | h
          · have := num_top HLB.out HLA.out HSB.out (by omega) HE.out.symm (by rw [← hx, ← hy]; exact h)
            omega
          · have := num_top HLA.out HLB.out HSA.out (by omega) HE.out (by rw [← hx, ← hy]; omega)
            omega)
        have hxy2 : ((x : Int) == (y : Int)) = false := by rw [beq_eq_false_iff_ne]; omega
        have hxy3 : (x == y) = false := by rw [beq_eq_false_iff_ne]; exact hxy
        have hxy4 : ((x : Int) != (y : Int)) = true := by simp [bne, hxy2]
        clear hx hy
        go_upto_region 4 with (fail)
        refine start_ (n := 7) (S := fun w' => w'.heap = wr.heap) (ds := []) #[false, false, false, false, false, false, false] (by kernel_rfl) rfl rfl (by exact hS0) (fun hHeld => ?_)
        refine with_tabW abv_tab4 abv_bits4 (fun HT_ HW_ => ?_)
        refine pure_ (i := 0) (N := some 10) (v := ?_) (a' := ?_) #[true, false, false, false, false, false, false] rfl rfl (any_of HT_.out (by kernel_rfl)) (fun _ _ _ h => h) (Or.inl ⟨by rfl, ?_⟩) ?_ ?_
        rotate_left
        · intro w'
          go_simp
          with_reducible rfl
        rotate_left
        · simp only [Act.put, List.setIfInBounds_toArray, List.set_cons_zero, List.set_cons_succ, i64_w, i32_w]
          rfl
        refine pure_ (i := 1) (N := some 11) (v := ?_) (a' := ?_) #[true, true, false, false, false, false, false] rfl rfl (any_of HT_.out (by kernel_rfl)) (fun _ _ _ h => h) (Or.inl ⟨by rfl, ?_⟩) ?_ ?_
        rotate_left
        · intro w'
          go_simp
          with_reducible rfl
        rotate_left
        · simp only [Act.put, List.setIfInBounds_toArray, List.set_cons_zero, List.set_cons_succ, i64_w, i32_w]
          rfl
        refine take_ (i := 2) (N := some 12) (v := ?_) (a' := ?_) #[true, true, true, false, false, false, false] rfl rfl (take_ofW HT_.out HW_.out (by kernel_rfl)) (fun _ _ _ h => h) (Or.inl ⟨by rfl, ?_⟩) hHeld ?_ ?_
        rotate_left
        · intro w' hSt
          have hx := HLD.out.1 w' hSt
          go_simp
          with_reducible rfl
        rotate_left
        · simp only [Act.put, List.setIfInBounds_toArray, List.set_cons_zero, List.set_cons_succ, i64_w, i32_w]
          rfl
        refine pure_ (i := 3) (N := some 13) (v := ?_) (a' := ?_) #[true, true, true, true, false, false, false] rfl rfl (any_of HT_.out (by kernel_rfl)) (fun _ _ _ h => h) (Or.inl ⟨by rfl, ?_⟩) ?_ ?_
        rotate_left
        · intro w'
          go_simp
          with_reducible rfl
        rotate_left
        · simp only [Act.put, List.setIfInBounds_toArray, List.set_cons_zero, List.set_cons_succ, i64_w, i32_w]
          rfl
        refine pure_ (i := 4) (N := some 14) (v := ?_) (a' := ?_) #[true, true, true, true, true, false, false] rfl rfl (any_of HT_.out (by kernel_rfl)) (fun _ _ _ h => h) (Or.inl ⟨by rfl, ?_⟩) ?_ ?_
        rotate_left
        · intro w'
          go_simp
          with_reducible rfl
        rotate_left
        · simp only [Act.put, List.setIfInBounds_toArray, List.set_cons_zero, List.set_cons_succ, i64_w, i32_w]
          rfl
        refine take_ (i := 5) (N := some 15) (v := ?_) (a' := ?_) #[true, true, true, true, true, true, false] rfl rfl (take_ofW HT_.out HW_.out (by kernel_rfl)) (fun _ _ _ h => h) (Or.inl ⟨by rfl, ?_⟩) hHeld ?_ ?_
        rotate_left
        · intro w' hSt
          have hx := HLD.out.2 w' hSt
          go_simp
          with_reducible rfl
        rotate_left
        · simp only [Act.put, List.setIfInBounds_toArray, List.set_cons_zero, List.set_cons_succ, i64_w, i32_w]
          rfl
        refine pure_ (i := 6) (N := some 16) (v := ?_) (a' := ?_) #[true, true, true, true, true, true, true] rfl rfl (any_of HT_.out (by kernel_rfl)) (fun _ _ _ h => h) (Or.inl ⟨by rfl, ?_⟩) ?_ ?_
        rotate_left
        · intro w'
          go_simp
          with_reducible rfl
        rotate_left
        · simp only [Act.put, List.setIfInBounds_toArray, List.set_cons_zero, List.set_cons_succ, i64_w, i32_w]
          rfl
        refine done_ (done_of HT_.out (by kernel_rfl)) ?_
        clear hS0 hHeld HT_ HW_
        have hS0 : wr.drew.drew.heap = wr.heap := rfl
        go_upto_region 5 with (fail)
        refine start_ (n := 8) (S := fun w' => w'.heap = wr.heap) (ds := []) #[false, false, false, false, false, false, false, false] (by kernel_rfl) rfl rfl (by exact hS0) (fun hHeld => ?_)
        refine with_tabW abv_tab5 abv_bits5 (fun HT_ HW_ => ?_)
        refine pure_ (i := 0) (N := some 17) (v := ?_) (a' := ?_) #[true, false, false, false, false, false, false, false] rfl rfl (any_of HT_.out (by kernel_rfl)) (fun _ _ _ h => h) (Or.inl ⟨by rfl, ?_⟩) ?_ ?_
        rotate_left
        · intro w'
          go_simp
          with_reducible rfl
        rotate_left
        · simp only [Act.put, List.setIfInBounds_toArray, List.set_cons_zero, List.set_cons_succ, i64_w, i32_w]
          rfl
        refine pure_ (i := 1) (N := some 18) (v := ?_) (a' := ?_) #[true, true, false, false, false, false, false, false] rfl rfl (any_of HT_.out (by kernel_rfl)) (fun _ _ _ h => h) (Or.inl ⟨by rfl, ?_⟩) ?_ ?_
        rotate_left
        · intro w'
          go_simp
          with_reducible rfl
        rotate_left
        · simp only [Act.put, List.setIfInBounds_toArray, List.set_cons_zero, List.set_cons_succ, i64_w, i32_w]
          rfl
        refine take_ (i := 2) (N := some 19) (v := ?_) (a' := ?_) #[true, true, true, false, false, false, false, false] rfl rfl (take_ofW HT_.out HW_.out (by kernel_rfl)) (fun _ _ _ h => h) (Or.inl ⟨by rfl, ?_⟩) hHeld ?_ ?_
        rotate_left
        · intro w' hSt
          have hx := HLD.out.1 w' hSt
          go_simp
          with_reducible rfl
        rotate_left
        · simp only [Act.put, List.setIfInBounds_toArray, List.set_cons_zero, List.set_cons_succ, i64_w, i32_w]
          rfl
        refine pure_ (i := 3) (N := some 20) (v := ?_) (a' := ?_) #[true, true, true, true, false, false, false, false] rfl rfl (any_of HT_.out (by kernel_rfl)) (fun _ _ _ h => h) (Or.inl ⟨by rfl, ?_⟩) ?_ ?_
        rotate_left
        · intro w'
          go_simp
          with_reducible rfl
        rotate_left
        · simp only [Act.put, List.setIfInBounds_toArray, List.set_cons_zero, List.set_cons_succ, i64_w, i32_w]
          rfl
        refine pure_ (i := 4) (N := some 21) (v := ?_) (a' := ?_) #[true, true, true, true, true, false, false, false] rfl rfl (any_of HT_.out (by kernel_rfl)) (fun _ _ _ h => h) (Or.inl ⟨by rfl, ?_⟩) ?_ ?_
        rotate_left
        · intro w'
          go_simp
          with_reducible rfl
        rotate_left
        · simp only [Act.put, List.setIfInBounds_toArray, List.set_cons_zero, List.set_cons_succ, i64_w, i32_w]
          rfl
        refine take_ (i := 5) (N := some 22) (v := ?_) (a' := ?_) #[true, true, true, true, true, true, false, false] rfl rfl (take_ofW HT_.out HW_.out (by kernel_rfl)) (fun _ _ _ h => h) (Or.inl ⟨by rfl, ?_⟩) hHeld ?_ ?_
        rotate_left
        · intro w' hSt
          have hx := HLD.out.2 w' hSt
          go_simp
          with_reducible rfl
        rotate_left
        · simp only [Act.put, List.setIfInBounds_toArray, List.set_cons_zero, List.set_cons_succ, i64_w, i32_w]
          rfl
        refine pure_ (i := 6) (N := some 23) (v := ?_) (a' := ?_) #[true, true, true, true, true, true, true, false] rfl rfl (any_of HT_.out (by kernel_rfl)) (fun _ _ _ h => h) (Or.inl ⟨by rfl, ?_⟩) ?_ ?_
        rotate_left
        · intro w'
          go_simp
          with_reducible rfl
        rotate_left
        · simp only [Act.put, List.setIfInBounds_toArray, List.set_cons_zero, List.set_cons_succ, i64_w, i32_w]
          rfl
        refine pure_ (i := 7) (N := some 4) (v := ?_) (a' := ?_) #[true, true, true, true, true, true, true, true] rfl rfl (any_of HT_.out (by kernel_rfl)) (fun _ _ _ h => h) (Or.inl ⟨by rfl, ?_⟩) ?_ ?_
        rotate_left
        · intro w'
          go_simp
          with_reducible rfl
        rotate_left
        · simp only [Act.put, List.setIfInBounds_toArray, List.set_cons_zero, List.set_cons_succ, i64_w, i32_w]
          rfl
        refine done_ (done_of HT_.out (by kernel_rfl)) ?_
        clear hS0 hHeld HT_ HW_
        go_wp2
        go_ret
        exact ⟨by rw [HF.out]; first | rfl | simp, below_drew1 HBW.out⟩
end Go.Proofs.YtoiblfmlahedlaaDoor.Ref
namespace Go.Proofs.YtoiblfmlahedlaaDoor.Ref
open Go.RowKit Go.Proofs.YtoiblfmlahedlaaDoorW.PrintWords Go.Proofs.YtoiblfmlahedlaaDoorW.PrintLast Go.Proofs.YtoiblfmlahedlaaDoorW.PrintMore
set_option linter.unusedVariables false
set_option linter.unusedSimpArgs false
open Go.Proofs.YtoiblfmlahedlaaDoor.Sha
def yF (q : Nat) : Nat → Nat
  | 0 => q
  | k + 1 => yF q k * q % 65536 ^ 10
def stepF (p pw x bit : Nat) : Nat := if yF (x + bit) (pw - 1) ≤ p * 65536 ^ (2 * pw) then x + bit else x
def rootF (p pw : Nat) : Nat → Nat → Nat → Nat
  | 0, x, _ => x
  | f + 1, x, bit => rootF p pw f (stepF p pw x bit) (bit / 2)
theorem rootF_zero (p pw f x : Nat) : rootF p pw f x 0 = x := by
  induction f with
  | zero => rfl
  | succ f ih =>
    show rootF p pw f (stepF p pw x 0) (0 / 2) = x
    have h : stepF p pw x 0 = x := by unfold stepF; split <;> simp
    rw [h]
    exact ih
def mostL (p pw : Nat) : List Nat := z10.set (2 * pw) p
theorem mostL_num (p pw : Nat) (h : pw ≤ 4) : num (mostL p pw) = p * 65536 ^ (2 * pw) := by
  have := num_set z10 (2 * pw) p (by show 2 * pw < 10; omega)
  have h0 : num z10 = 0 := rfl
  have h1 : z10.getD (2 * pw) 0 = 0 := by
    unfold z10
    rw [List.getD_eq_getElem?_getD, List.getElem?_replicate]
    split <;> rfl
  rw [h0, h1] at this
  unfold mostL
  omega
set_option maxHeartbeats 1600000 in
set_option maxRecDepth 100000 in
theorem root_calls (p pw : Nat) (w : World) (hp : p < 65536) (hw2 : 2 ≤ pw) (hw3 : pw ≤ 3) :
    Calls Tryd.prog 51 #[.int .i64 p, .int .i64 pw] w fun e w' => e = .returned (.int .u32 ((rootF p pw 38 0 137438953472 % 4294967296 : Nat) : Int)) ∧ Below w.heap.size w w' := by
  obtain ⟨t, ht⟩ : ∃ t, t = 2 * pw := ⟨_, rfl⟩
  have ht10 : (t : Int) < 10 := by omega
  have hti : 2 * (pw : Int) = (t : Int) := by omega
  have HML := Aside0.mk (show (mostL p pw).length = 10 by simp [mostL, z10])
  have HMS := Aside0.mk (show small (mostL p pw) from small_set (by intro x hx; obtain ⟨_, rfl⟩ := List.mem_replicate.1 hx; omega) _ _ hp)
  have HMN := Aside0.mk (mostL_num p pw (by omega))
  have HMT := Aside0.mk (show z10.set t p = mostL p pw by rw [ht]; rfl)
  clear ht
  go_enter Tryd.func51, Tryd.ntmps51
  go_upto_region 2 with (fail)
  obtain ⟨w1, hw1, HZ, HB1, hz1⟩ : ∃ w1, w.alloc (.cells #[.int .u64 0, .int .u64 0, .int .u64 0, .int .u64 0, .int .u64 0, .int .u64 0, .int .u64 0, .int .u64 0, .int .u64 0, .int .u64 0] 121) = w1 ∧ Aside0 (w1.heap[w.heap.size]? = some (.cells (c10 z10) 121 (0, 0))) ∧ Aside0 (Below w.heap.size w w1) ∧ w1.heap.size = w.heap.size + 1 :=
    ⟨_, rfl, ⟨Sha.heap_new _ _⟩, ⟨(Below.refl w.heap.size w).alloc (Nat.le_refl _) _⟩, by simp⟩
  rw [hw1]
  clear hw1
  have hx := (cell_of HZ.out).2 (c10_get (l := z10) (j := t) (by show t < 10; omega))
  have hf : w1.frozen? ⟨w.heap.size, t, none⟩ = false := by simp [World.frozen?, HZ.out]
  generalize z10.getD t 0 = zd at hx
  go_wp2
  have HM := Aside0.mk (blk_set HZ.out t (.int .u64 (p : Int)))
  rw [c10_set, HMT.out] at HM
  replace HB1 := Aside0.mk (HB1.out.setCell (p := ⟨w.heap.size, t, none⟩) (Nat.le_refl _) (.int .u64 (p : Int)))
  clear hx hf HZ HMT hz1
  generalize w1.setCell ⟨w.heap.size, t, none⟩ (.int .u64 (p : Int)) = w0 at HM HB1 ⊢
  generalize mostL p pw = ml at *
  generalize hTG : rootF p pw 38 0 137438953472 = TG
  have HTG := Aside0.mk hTG
  clear hTG
  go_loopw [6, 7] (fun vx vb wr => ∃ f x bit : Nat, vx = .int .u64 (x : Int) ∧ vb = .int .u64 (bit : Int) ∧ x + 2 * bit ≤ 274877906944 ∧ Aside0 (bit < 2 ^ f) ∧ Aside0 (rootF p pw f x bit = TG) ∧ Aside0 (wr.heap[w.heap.size]? = some (.cells (c10 ml) 121 (0, 0))) ∧ Aside0 (Below w.heap.size w wr)) (fun _ vb _ => (intOf vb).toNat)
  case atStart => exact ⟨38, 0, 137438953472, rfl, rfl, by omega, ⟨by decide⟩, ⟨HTG.out⟩, HM, HB1⟩
  case round =>
    clear HM HB1
    obtain ⟨f, x, bit, rfl, rfl, hxb, HF, HT, HM, HB⟩ := hrel
    by_cases hlt : 0 < bit
    · obtain ⟨q, hq⟩ : ∃ q, q = x + bit := ⟨_, rfl⟩
      have hqi : (x : Int) + (bit : Int) = (q : Int) := by omega
      have hq38 : q ≤ 274877906944 := by omega
      have HQ := Aside0.mk hq
      clear hq
      have HI8 := Aside0.mk (info10 (dg q 4) (dg_len q 4))
      have HL8 := Aside0.mk (dg_len q 4)
      have HS8 := Aside0.mk (dg_small q 4)
      have HN8 := Aside0.mk (dg_num q (by omega))
      go_wp2_with fail
      refine (digits_calls q _ (by omega)).mono ?_
      rintro e w2 ⟨rfl, hb⟩
      have HB2 := Aside0.mk (below_step HB.out hb)
      replace HM := Aside0.mk (heap_keep HM.out hb)
      clear hb
      generalize dg q 4 = D at *
      go_wp2_with (first | (refine wpList_store_row rfl 121 (.tmp 8) (.tmp 23) rfl w2.heap.size (c10 D) rfl rfl 121 _ (Sha.heap_new _ _) HI8.out (by rw [c10_size, HL8.out]; rfl) (c10_one _) ?_) | (refine wpList_load_row rfl 121 (.tmp 8) rfl w2.heap.size rfl 121 (c10 D) (0, 0) _ (setRow_heap _ _ _ _ _ _ (Sha.heap_new _ _)) Tryd.underlying121 rfl HI8.out ?_) | (refine wpList_store_row rfl 121 (.tmp 9) (.tmp 24) rfl (w2.heap.size + 1) (c10 D) rfl rfl 121 _ (Sha.heap_new' _ _ _ (by simp)) HI8.out (by rw [c10_size, HL8.out]; rfl) (c10_one _) ?_))
      obtain ⟨w4, hw4, H8, H9, HM4, HB4⟩ : ∃ w4, (((w2.alloc (.cells #[.int .u64 0, .int .u64 0, .int .u64 0, .int .u64 0, .int .u64 0, .int .u64 0, .int .u64 0, .int .u64 0, .int .u64 0, .int .u64 0] 121)).setRow w2.heap.size (c10 D)).alloc (.cells #[.int .u64 0, .int .u64 0, .int .u64 0, .int .u64 0, .int .u64 0, .int .u64 0, .int .u64 0, .int .u64 0, .int .u64 0, .int .u64 0] 121)).setRow (w2.heap.size + 1) (c10 D) = w4 ∧ Aside0 (w4.heap[w2.heap.size]? = some (.cells (c10 D) 121 (0, 0))) ∧ Aside0 (w4.heap[w2.heap.size + 1]? = some (.cells (c10 D) 121 (0, 0))) ∧ Aside0 (w4.heap[w.heap.size]? = some (.cells (c10 ml) 121 (0, 0))) ∧ Aside0 (Below w.heap.size w w4) := by
        have hg : w.heap.size < w2.heap.size := (Array.getElem?_eq_some_iff.1 HM.out).1
        have hz := HB2.out.size
        have hs : ((w2.alloc (.cells #[.int .u64 0, .int .u64 0, .int .u64 0, .int .u64 0, .int .u64 0, .int .u64 0, .int .u64 0, .int .u64 0, .int .u64 0, .int .u64 0] 121)).setRow w2.heap.size (c10 D)).heap.size = w2.heap.size + 1 := by rw [size_setRow]; simp
        have hb1 : Below w.heap.size w ((w2.alloc (.cells #[.int .u64 0, .int .u64 0, .int .u64 0, .int .u64 0, .int .u64 0, .int .u64 0, .int .u64 0, .int .u64 0, .int .u64 0, .int .u64 0] 121)).setRow w2.heap.size (c10 D)) := below_setRow (HB2.out.alloc hz _) hz _
        refine ⟨_, rfl, ⟨?_⟩, ⟨?_⟩, ⟨?_⟩, ⟨?_⟩⟩
        · rw [setRow_other _ _ _ _ (by omega), Below.heap_alloc _ _ _ (by omega)]
          exact setRow_heap _ _ _ _ _ _ (Sha.heap_new _ _)
        · exact setRow_heap _ _ _ _ _ _ (Sha.heap_new' _ _ _ hs.symm)
        · rw [setRow_other _ _ _ _ (by omega), Below.heap_alloc _ _ _ (by omega), setRow_other _ _ _ _ (by omega), Below.heap_alloc _ _ _ hg]
          exact HM.out
        · exact below_setRow (hb1.alloc hb1.size _) (by omega) _
      rw [hw4]
      clear hw4
      have hg2 := Aside0.mk (show w.heap.size < w2.heap.size from (Array.getElem?_eq_some_iff.1 HM.out).1)
      generalize w2.heap.size = g8 at *
      clear HM HB HB2
      go_loopw [10] (fun v wz => ∃ (k : Nat) (y : List Nat), 1 ≤ k ∧ k ≤ pw ∧ v = .int .i64 (k : Int) ∧ Aside0 (y.length = 10) ∧ Aside0 (small y) ∧ Aside0 (num y = yF q (k - 1)) ∧ Aside0 (wz.heap[g8 + 1]? = some (.cells (c10 y) 121 (0, 0))) ∧ Aside0 (wz.heap[g8]? = some (.cells (c10 D) 121 (0, 0))) ∧ Aside0 (wz.heap[w.heap.size]? = some (.cells (c10 ml) 121 (0, 0))) ∧ Aside0 (Below w.heap.size w wz)) (fun v _ => 4 - (intOf v).toNat)
      case atStart => exact ⟨1, D, by omega, by omega, rfl, HL8, HS8, HN8, H9, H8, HM4, HB4⟩
      case round =>
        clear H9 H8 HM4 HB4
        obtain ⟨k, y, hk1, hkp, rfl, HYL, HYS, HYN, H9, H8, HM, HB⟩ := hrel
        have HIY := Aside0.mk (info10 y HYL.out)
        by_cases hlt2 : k < pw
        · have hk3 : k ≤ 3 := by omega
          go_wp2_with (first | ((with_reducible refine gate_dst (N := 30) rfl ?_); refine wpList_load_row rfl 121 (.tmp 9) rfl (g8 + 1) rfl 121 (c10 y) (0, 0) _ H9.out Tryd.underlying121 rfl HIY.out ?_) | ((with_reducible refine gate_dst (N := 31) rfl ?_); refine wpList_load_row rfl 121 (.tmp 8) rfl g8 rfl 121 (c10 D) (0, 0) _ H8.out Tryd.underlying121 rfl HI8.out ?_))
          refine (times_calls y D _ HYL.out HL8.out HYS.out HS8.out).mono ?_
          rintro e w5 ⟨out, rfl, hol, hos, hon, hb⟩
          have HOL := Aside0.mk hol
          have HOS := Aside0.mk hos
          have HON := Aside0.mk (show num out = yF q (k + 1 - 1) by
            rw [hon, HYN.out, HN8.out, show k + 1 - 1 = (k - 1) + 1 by omega]
            rfl)
          have HIO := Aside0.mk (info10 out hol)
          replace HB := Aside0.mk (below_step HB.out hb)
          replace H9 := Aside0.mk (heap_keep H9.out hb)
          replace H8 := Aside0.mk (heap_keep H8.out hb)
          replace HM := Aside0.mk (heap_keep HM.out hb)
          clear hol hos hon hb
          go_wp2_with (first | (refine wpList_store_row rfl 121 (.tmp 9) (.tmp 32) rfl (g8 + 1) (c10 out) rfl rfl 121 _ H9.out HIO.out (by rw [c10_size, c10_size, HOL.out, HYL.out]) (c10_one _) ?_))
          go_roundw
          case rel => exact ⟨k + 1, out, by omega, by omega, by go_num, HOL, HOS, HON, ⟨setRow_heap _ _ _ _ _ _ H9.out⟩, ⟨(setRow_other _ _ _ _ (by omega)).trans H8.out⟩, ⟨(setRow_other _ _ _ _ (by have := hg2.out; omega)).trans HM.out⟩, ⟨below_setRow HB.out (by have := hg2.out; omega) _⟩⟩
          case measure => simp [intOf]; omega
        · obtain rfl : k = pw := by omega
          have HIM := Aside0.mk (info10 ml HML.out)
          have HDEC := Aside0.mk (show decide (num ml < num y) = decide (p * 65536 ^ (2 * k) < yF q (k - 1)) by rw [HMN.out, HYN.out])
          go_wp2_with (first | ((with_reducible refine gate_dst (N := 33) rfl ?_); refine wpList_load_row rfl 121 (.tmp 9) rfl (g8 + 1) rfl 121 (c10 y) (0, 0) _ H9.out Tryd.underlying121 rfl HIY.out ?_) | ((with_reducible refine gate_dst (N := 34) rfl ?_); refine wpList_load_row rfl 121 (.tmp 5) rfl w.heap.size rfl 121 (c10 ml) (0, 0) _ HM.out Tryd.underlying121 rfl HIM.out ?_))
          refine (above_calls y ml _ HYL.out HML.out HYS.out HMS.out).mono ?_
          rintro e w5 ⟨rfl, hb⟩
          rw [HDEC.out]
          replace HB := Aside0.mk (below_step HB.out hb)
          replace HM := Aside0.mk (heap_keep HM.out hb)
          clear hb H9 H8 hlt2 hkp
          obtain ⟨f', rfl⟩ : ∃ f', f = f' + 1 := ⟨f - 1, by rcases f with _ | f; (have := HF.out; simp at this; omega); rfl⟩
          have HF2 := Aside0.mk (show bit / 2 < 2 ^ f' by have := HF.out; rw [Nat.pow_succ] at this; omega)
          by_cases hab : p * 65536 ^ (2 * k) < yF q (k - 1)
          · rw [decide_eq_true hab]
            have HT2 := Aside0.mk (show rootF p k f' x (bit / 2) = TG by
              have h : stepF p k x bit = x := by unfold stepF; rw [← HQ.out, if_neg (by omega)]
              rw [← HT.out]
              show _ = rootF p k f' (stepF p k x bit) (bit / 2)
              rw [h])
            clear hab HDEC
            go_wp2
            go_roundw
            case rel => exact ⟨f', x, bit / 2, rfl, by go_num, by omega, HF2, HT2, HM, HB⟩
            case measure => simp [intOf]; omega
          · rw [decide_eq_false hab]
            have HT2 := Aside0.mk (show rootF p k f' q (bit / 2) = TG by
              have h : stepF p k x bit = q := by unfold stepF; rw [← HQ.out, if_pos (by omega)]
              rw [← HT.out]
              show _ = rootF p k f' (stepF p k x bit) (bit / 2)
              rw [h])
            have hq2 : q + 2 * (bit / 2) ≤ 274877906944 := by have := HQ.out; omega
            clear hab HDEC
            go_wp2
            go_roundw
            case rel => exact ⟨f', q, bit / 2, by go_num, by go_num, hq2, HF2, HT2, HM, HB⟩
            case measure => simp [intOf]; omega
    · obtain rfl : bit = 0 := by omega
      rw [rootF_zero] at HT
      have hx38 : x ≤ 274877906944 := by omega
      clear hlt HF
      go_wp2
      go_ret
      exact ⟨congrArg Ending.returned (ival (by rw [HTG.out, ← HT.out]; omega)), HB.out⟩
end Go.Proofs.YtoiblfmlahedlaaDoor.Ref
namespace Go.Proofs.YtoiblfmlahedlaaDoor.Ref
open Go.RowKit Go.Proofs.YtoiblfmlahedlaaDoorW.PrintWords Go.Proofs.YtoiblfmlahedlaaDoorW.PrintLast Go.Proofs.YtoiblfmlahedlaaDoorW.PrintMore
set_option linter.unusedVariables false
set_option linter.unusedSimpArgs false
open Go.Proofs.YtoiblfmlahedlaaDoor.Sha
def pN (k : Nat) : Nat := (rd P64 (k : Int)).toNat
theorem pN_ok (k : Nat) (h : k < 64) : rd P64 (k : Int) = (pN k : Int) ∧ pN k < 65536 := by
  have key : ∀ k : Fin 64, rd P64 ((k.val : Nat) : Int) = (pN k.val : Int) ∧ pN k.val < 65536 := by decide +kernel
  exact key ⟨k, h⟩
def rK (k : Nat) : Int := ((rootF (pN k) 3 38 0 137438953472 % 4294967296 : Nat) : Int)
def rH (k : Nat) : Int := ((rootF (pN k) 2 38 0 137438953472 % 4294967296 : Nat) : Int)
def ksN : Nat → List Int
  | 0 => List.replicate 64 0
  | n + 1 => (ksN n).set n (rK n)
def hsN : Nat → List Int
  | 0 => List.replicate 8 0
  | n + 1 => if n < 8 then (hsN n).set n (rH n) else hsN n
theorem ksN_len (n : Nat) : (ksN n).length = 64 := by
  induction n with
  | zero => simp [ksN]
  | succ n ih => simp [ksN, ih]
theorem hsN_len (n : Nat) : (hsN n).length = 8 := by
  induction n with
  | zero => simp [hsN]
  | succ n ih => unfold hsN; split <;> simp [ih]
set_option maxRecDepth 100000 in
theorem ksN_all : ksN 64 = kTab := by decide +kernel
set_option maxRecDepth 100000 in
theorem hsN_all : hsN 64 = fTab := by decide +kernel
theorem cw_size (l : List Int) : (cw l).size = l.length := by simp [cw]
theorem cw_one (l : List Int) : (cw l).all (·.oneCell') = true := by
  rw [Array.all_eq_true_iff_forall_mem]
  intro v hv
  unfold cw at hv
  simp only [List.mem_toArray, List.mem_map] at hv
  obtain ⟨x, _, rfl⟩ := hv
  rfl
theorem infoH (l : List Int) (h : l.length = 8) : (Tryd.prog.info? 67).map (·.size) = some (cw l).size := by rw [cw_size, h]; kernel_rfl
theorem infoK (l : List Int) (h : l.length = 64) : (Tryd.prog.info? 68).map (·.size) = some (cw l).size := by rw [cw_size, h]; kernel_rfl
structure Wm (w0 w : World) (h k : List Int) : Prop where
  a : w.heap[w0.heap.size]? = some (.cells (cw (List.replicate 8 0)) 67 (0, 0))
  b : w.heap[w0.heap.size + 1]? = some (.cells (cw (List.replicate 64 0)) 68 (0, 0))
  h : w.heap[w0.heap.size + 1 + 1]? = some (.cells (cw h) 67 (0, 0))
  k : w.heap[w0.heap.size + 1 + 1 + 1]? = some (.cells (cw k) 68 (0, 0))
  l : Below w0.heap.size w0 w
theorem Wm.below {w0 w w' : World} {h k : List Int} (H : Wm w0 w h k) (hb : Below w.heap.size w w') : Wm w0 w' h k := ⟨heap_keep H.a hb, heap_keep H.b hb, heap_keep H.h hb, heap_keep H.k hb, below_step H.l hb⟩
theorem Wm.setK {w0 w : World} {h k : List Int} (H : Wm w0 w h k) (j : Nat) (x : Int) : Wm w0 (w.setCell ⟨w0.heap.size + 1 + 1 + 1, j, none⟩ (.int .u32 x)) h (k.set j x) :=
  ⟨blk_far H.a (p := ⟨w0.heap.size + 1 + 1 + 1, j, none⟩) (by first | (show _ ≠ _; simp; done) | (show _ ≠ _; simp; omega)) _, blk_far H.b (p := ⟨w0.heap.size + 1 + 1 + 1, j, none⟩) (by first | (show _ ≠ _; simp; done) | (show _ ≠ _; simp; omega)) _, blk_far H.h (p := ⟨w0.heap.size + 1 + 1 + 1, j, none⟩) (by first | (show _ ≠ _; simp; done) | (show _ ≠ _; simp; omega)) _, by rw [← cw_set]; exact blk_set H.k j _, H.l.setCell (p := ⟨w0.heap.size + 1 + 1 + 1, j, none⟩) (by show w0.heap.size ≤ w0.heap.size + 1 + 1 + 1; omega) _⟩
theorem Wm.setH {w0 w : World} {h k : List Int} (H : Wm w0 w h k) (j : Nat) (x : Int) : Wm w0 (w.setCell ⟨w0.heap.size + 1 + 1, j, none⟩ (.int .u32 x)) (h.set j x) k :=
  ⟨blk_far H.a (p := ⟨w0.heap.size + 1 + 1, j, none⟩) (by first | (show _ ≠ _; simp; done) | (show _ ≠ _; simp; omega)) _, blk_far H.b (p := ⟨w0.heap.size + 1 + 1, j, none⟩) (by first | (show _ ≠ _; simp; done) | (show _ ≠ _; simp; omega)) _, by rw [← cw_set]; exact blk_set H.h j _, blk_far H.k (p := ⟨w0.heap.size + 1 + 1, j, none⟩) (by first | (show _ ≠ _; simp; done) | (show _ ≠ _; simp; omega)) _, H.l.setCell (p := ⟨w0.heap.size + 1 + 1, j, none⟩) (by show w0.heap.size ≤ w0.heap.size + 1 + 1; omega) _⟩
theorem Wm.start (w : World) : Wm w ((((w.alloc (.cells (cw (List.replicate 8 0)) 67)).alloc (.cells (cw (List.replicate 64 0)) 68)).alloc (.cells (cw (List.replicate 8 0)) 67)).alloc (.cells (cw (List.replicate 64 0)) 68)) (List.replicate 8 0) (List.replicate 64 0) :=
  ⟨by rw [Below.heap_alloc _ _ _ (by first | (simp; done) | (simp; omega)), Below.heap_alloc _ _ _ (by first | (simp; done) | (simp; omega)), Below.heap_alloc _ _ _ (by simp)]; exact Sha.heap_new _ _, by rw [Below.heap_alloc _ _ _ (by first | (simp; done) | (simp; omega)), Below.heap_alloc _ _ _ (by simp)]; exact Sha.heap_new' _ _ _ (by simp), by rw [Below.heap_alloc _ _ _ (by simp)]; exact Sha.heap_new' _ _ _ (by simp), Sha.heap_new' _ _ _ (by simp), ((((Below.refl w.heap.size w).alloc (Nat.le_refl _) _).alloc (by simp) _).alloc (by first | (simp; done) | (simp; omega)) _).alloc (by first | (simp; done) | (simp; omega)) _⟩
theorem Wm.frK {w0 w : World} {h k : List Int} (H : Wm w0 w h k) (j : Nat) : w.frozen? ⟨w0.heap.size + 1 + 1 + 1, j, none⟩ = false := by simp [World.frozen?, H.k]
theorem Wm.frH {w0 w : World} {h k : List Int} (H : Wm w0 w h k) (j : Nat) : w.frozen? ⟨w0.heap.size + 1 + 1, j, none⟩ = false := by simp [World.frozen?, H.h]
section
variable {P : Program}
theorem results_cell2 {fn : Func} {p q : Tmp} {ty uy : TypeId} (h : fn.results = #[.cell p ty, .cell q uy]) (tmps : Array Value) (w : World) (g1 g2 : Nat) (t u : TypeId) (cs ds : Array Value) (d1 d2 : TypeDesc)
    (hp : tmps.getD p undef = .pointer (some ⟨g1, 0, none⟩)) (hg : w.heap[g1]? = some (.cells cs t (0, 0))) (hu : P.underlying ty = some d1) (hd : (match d1 with | .struct _ | .array _ _ => true | _ => false) = true) (hi : (P.info? ty).map (·.size) = some cs.size)
    (hq : tmps.getD q undef = .pointer (some ⟨g2, 0, none⟩)) (hg2 : w.heap[g2]? = some (.cells ds u (0, 0))) (hu2 : P.underlying uy = some d2) (hd2 : (match d2 with | .struct _ | .array _ _ => true | _ => false) = true) (hi2 : (P.info? uy).map (·.size) = some ds.size) :
    (results fn tmps).run P w = .ok (.tuple #[.agg cs, .agg ds]) w := by
  have hp' : tmps[p]?.getD undef = .pointer (some ⟨g1, 0, none⟩) := by simpa using hp
  have hq' : tmps[q]?.getD undef = .pointer (some ⟨g2, 0, none⟩) := by simpa using hq
  simp [results, h, hp', hq', asAddr, run_loadVar_row w g1 t ty cs (0, 0) d1 hg hu hd hi, run_loadVar_row w g2 u uy ds (0, 0) d2 hg2 hu2 hd2 hi2]
end
def wrd_T10 : Bool × List (List Nat × List Nat) := (true, [([], []), ([], []), ([0, 0], [0]), ([1, 2, 0, 1, 2], [1])])
def wrd_B10 : List Nat := [0, 0, 1, 7]
theorem wrd_tab10 : rtab .any (opsOf Tryd.f26 10) = wrd_T10 := by kernel_rfl
theorem wrd_bits10 : waitsOk wrd_T10.2 wrd_B10 = true := by kernel_rfl
set_option maxHeartbeats 1600000 in
set_option maxRecDepth 100000 in
theorem words_calls (w : World) : Calls Tryd.prog 26 #[] w fun e w' => e = .returned (.tuple #[.agg (cw fTab), .agg (cw kTab)]) ∧ Below w.heap.size w w' := by
  go_enter Tryd.func26, Tryd.ntmps26
  go_upto_region 3 with (fail)
  obtain ⟨w1, hw1, HM⟩ : ∃ w1, (((w.alloc (.cells #[.int .u32 0, .int .u32 0, .int .u32 0, .int .u32 0, .int .u32 0, .int .u32 0, .int .u32 0, .int .u32 0] 67)).alloc (.cells #[.int .u32 0, .int .u32 0, .int .u32 0, .int .u32 0, .int .u32 0, .int .u32 0, .int .u32 0, .int .u32 0, .int .u32 0, .int .u32 0, .int .u32 0, .int .u32 0, .int .u32 0, .int .u32 0, .int .u32 0, .int .u32 0, .int .u32 0, .int .u32 0, .int .u32 0, .int .u32 0, .int .u32 0, .int .u32 0, .int .u32 0, .int .u32 0, .int .u32 0, .int .u32 0, .int .u32 0, .int .u32 0, .int .u32 0, .int .u32 0, .int .u32 0, .int .u32 0, .int .u32 0, .int .u32 0, .int .u32 0, .int .u32 0, .int .u32 0, .int .u32 0, .int .u32 0, .int .u32 0, .int .u32 0, .int .u32 0, .int .u32 0, .int .u32 0, .int .u32 0, .int .u32 0, .int .u32 0, .int .u32 0, .int .u32 0, .int .u32 0, .int .u32 0, .int .u32 0, .int .u32 0, .int .u32 0, .int .u32 0, .int .u32 0, .int .u32 0, .int .u32 0, .int .u32 0, .int .u32 0, .int .u32 0, .int .u32 0, .int .u32 0, .int .u32 0] 68)).alloc (.cells #[.int .u32 0, .int .u32 0, .int .u32 0, .int .u32 0, .int .u32 0, .int .u32 0, .int .u32 0, .int .u32 0] 67)).alloc (.cells #[.int .u32 0, .int .u32 0, .int .u32 0, .int .u32 0, .int .u32 0, .int .u32 0, .int .u32 0, .int .u32 0, .int .u32 0, .int .u32 0, .int .u32 0, .int .u32 0, .int .u32 0, .int .u32 0, .int .u32 0, .int .u32 0, .int .u32 0, .int .u32 0, .int .u32 0, .int .u32 0, .int .u32 0, .int .u32 0, .int .u32 0, .int .u32 0, .int .u32 0, .int .u32 0, .int .u32 0, .int .u32 0, .int .u32 0, .int .u32 0, .int .u32 0, .int .u32 0, .int .u32 0, .int .u32 0, .int .u32 0, .int .u32 0, .int .u32 0, .int .u32 0, .int .u32 0, .int .u32 0, .int .u32 0, .int .u32 0, .int .u32 0, .int .u32 0, .int .u32 0, .int .u32 0, .int .u32 0, .int .u32 0, .int .u32 0, .int .u32 0, .int .u32 0, .int .u32 0, .int .u32 0, .int .u32 0, .int .u32 0, .int .u32 0, .int .u32 0, .int .u32 0, .int .u32 0, .int .u32 0, .int .u32 0, .int .u32 0, .int .u32 0, .int .u32 0] 68) = w1 ∧ Aside0 (Wm w w1 (List.replicate 8 0) (List.replicate 64 0)) := ⟨_, rfl, ⟨Wm.start w⟩⟩
  rw [hw1]
  clear hw1
  have HB1S := Aside0.mk (show w.heap.size + 1 + 1 + 1 < w1.heap.size from (Array.getElem?_eq_some_iff.1 HM.out.k).1)
  go_wp2_with fail
  refine (primes_calls _).mono ?_
  rintro e w2 ⟨v, rfl, ho, hb⟩
  replace HM := Aside0.mk (HM.out.below hb)
  obtain ⟨A, c, rfl, hc, hr⟩ := Kd.R_reads ho
  obtain ⟨ad, rfl, _⟩ := Kd.at_int hr 0 (by omega) (by rw [P64_len]; omega)
  have HR64 := Aside0.mk (show Kd.R KI 3 w2 w1.heap.size (fun k => w1.heap.size ≤ k) (.slice (some ad) 64 c) P64 from Kd.R_mono (Kd.R_bound ho) (fun k hk => hk.2.1))
  have hB1 := Aside0.mk (show w.heap.size + 1 + 1 + 1 < w1.heap.size from HB1S.out)
  clear ho hb hr
  rw [P64_len] at hc ⊢
  generalize w1.heap.size = B1 at *
  go_wp2
  go_loopw [5] (fun v wr => ∃ n : Nat, n ≤ 64 ∧ v = .int .i64 (n : Int) ∧ Aside0 (Wm w wr (hsN n) (ksN n)) ∧ Aside0 (Kd.R KI 3 wr B1 (fun k => B1 ≤ k) (.slice (some ad) 64 c) P64)) (fun v _ => 64 - (intOf v).toNat)
  case atStart => exact ⟨0, by omega, rfl, HM, HR64⟩
  case round =>
    clear HM HR64
    obtain ⟨n, hn, rfl, HM, HR⟩ := hrel
    by_cases hlt : n < 64
    · have hn64 : (n : Int) < 64 := by omega
      obtain ⟨hpn, hp6⟩ := pN_ok n hlt
      obtain ⟨ad', e', hx⟩ := Kd.at_int (Kd.R_reads' HR.out).2.2 (n : Int) (by omega) (by rw [P64_len]; omega)
      cases e'
      rw [Int.toNat_natCast, hpn] at hx
      have HK := Aside0.mk (show ksN (n + 1) = (ksN n).set n (rK n) from rfl)
      have HKV := Aside0.mk (show rK n = ((rootF (pN n) 3 38 0 137438953472 % 4294967296 : Nat) : Int) from rfl)
      go_wp2_with fail
      refine (root_calls (pN n) 3 _ hp6 (by omega) (by omega)).mono ?_
      rintro e w3 ⟨rfl, hb⟩
      rw [← HKV.out]
      replace HM := Aside0.mk (HM.out.below hb)
      replace HR := Aside0.mk (Kd.R_below HR.out hb)
      have hck := (cell_of HM.out.k).2 (cw_get (xs := ksN n) (j := n) (by rw [ksN_len]; exact hlt))
      have hfk := HM.out.frK n
      generalize rd (ksN n) (n : Int) = kd at hck
      generalize rK n = kv at *
      have HM2 := Aside0.mk (HM.out.setK n kv)
      rw [← HK.out] at HM2
      have HR2 := Aside0.mk (Kd.R_far HR.out (p := ⟨w.heap.size + 1 + 1 + 1, n, none⟩) (fun k hk => by show k ≠ w.heap.size + 1 + 1 + 1; have := hB1.out; omega) (.int .u32 kv))
      clear hx hb
      by_cases h8 : n < 8
      · have hn8 : (n : Int) < 8 := by omega
        have HHN := Aside0.mk (show hsN (n + 1) = (hsN n).set n (rH n) by show (if n < 8 then _ else _) = _; rw [if_pos h8])
        have HHV := Aside0.mk (show rH n = ((rootF (pN n) 2 38 0 137438953472 % 4294967296 : Nat) : Int) from rfl)
        obtain ⟨w4, hw4⟩ : ∃ w4, w4 = w3.setCell ⟨w.heap.size + 1 + 1 + 1, n, none⟩ (.int .u32 kv) := ⟨_, rfl⟩
        rw [← hw4] at HM2 HR2
        obtain ⟨ad', e', hx⟩ := Kd.at_int (Kd.R_reads' HR2.out).2.2 (n : Int) (by omega) (by rw [P64_len]; omega)
        cases e'
        rw [Int.toNat_natCast, hpn] at hx
        have hw4' := hw4.symm
        clear hw4
        go_wp2_with fail
        refine (root_calls (pN n) 2 _ hp6 (by omega) (by omega)).mono ?_
        rintro e w5 ⟨rfl, hb⟩
        rw [← HHV.out]
        replace HM2 := Aside0.mk (HM2.out.below hb)
        replace HR2 := Aside0.mk (Kd.R_below HR2.out hb)
        have hch := (cell_of HM2.out.h).2 (cw_get (xs := hsN n) (j := n) (by rw [hsN_len]; exact h8))
        have hfh := HM2.out.frH n
        generalize rd (hsN n) (n : Int) = hd at hch
        generalize rH n = hv at *
        have HM3 := Aside0.mk (HM2.out.setH n hv)
        rw [← HHN.out] at HM3
        have HR3 := Aside0.mk (Kd.R_far HR2.out (p := ⟨w.heap.size + 1 + 1, n, none⟩) (fun k hk => by show k ≠ w.heap.size + 1 + 1; have := hB1.out; omega) (.int .u32 hv))
        clear hx hb hck hfk hw4'
        go_wp2
        go_roundw
        case rel => exact ⟨n + 1, by omega, by go_num, HM3, HR3⟩
        case measure => simp [intOf]; omega
      · have hn8 : ¬ ((n : Int) < 8) := by omega
        have HHN := Aside0.mk (show hsN (n + 1) = hsN n by show (if n < 8 then _ else _) = _; rw [if_neg h8])
        rw [← HHN.out] at HM2
        go_wp2
        go_roundw
        case rel => exact ⟨n + 1, by omega, by go_num, HM2, HR2⟩
        case measure => simp [intOf]; omega
    · obtain rfl : n = 64 := by omega
      rw [hsN_all, ksN_all] at HM
      clear hlt hn HR
      have HG1 := Aside0.mk (show (wr.drew.setRow w.heap.size (cw fTab)).heap[w.heap.size + 1]? = some (.cells (cw (List.replicate 64 0)) 68 (0, 0)) from (setRow_other _ _ _ _ (by omega)).trans HM.out.b)
      have hS0 : wr.drew.heap[w.heap.size + 1 + 1]? = some (.cells (cw fTab) 67 (0, 0)) ∧ wr.drew.heap[w.heap.size + 1 + 1 + 1]? = some (.cells (cw kTab) 68 (0, 0)) := ⟨HM.out.h, HM.out.k⟩
      go_upto_region 10 with (fail)
      refine start_ (n := 4) (S := fun w' => w'.heap[w.heap.size + 1 + 1]? = some (.cells (cw fTab) 67 (0, 0)) ∧ w'.heap[w.heap.size + 1 + 1 + 1]? = some (.cells (cw kTab) 68 (0, 0))) (ds := [3]) #[false, false, false, false] (by kernel_rfl) rfl rfl (by exact hS0) (fun hHeld => ?_)
      refine with_tabW wrd_tab10 wrd_bits10 (fun HT_ HW_ => ?_)
      refine take_ (i := 0) (N := some 27) (v := ?_) (a' := ?_) #[true, false, false, false] rfl rfl (take_ofW HT_.out HW_.out (by kernel_rfl)) (fun _ _ _ h => h) (Or.inl ⟨by rfl, ?_⟩) hHeld ?_ ?_
      rotate_left
      · intro w' hSt
        refine (exec_load (p := .pointer (some ⟨w.heap.size + 1 + 1, 0, none⟩)) rfl rfl (loadRow_take _ _ _ _ _ hSt.1 Tryd.underlying67 rfl (infoH _ rfl))).trans ?_
        with_reducible rfl
      rotate_left
      · simp only [Act.put, List.setIfInBounds_toArray, List.set_cons_zero, List.set_cons_succ, i64_w, i32_w]
        rfl
      refine take_ (i := 1) (N := some 28) (v := ?_) (a' := ?_) #[true, true, false, false] rfl rfl (take_ofW HT_.out HW_.out (by kernel_rfl)) (fun _ _ _ h => h) (Or.inl ⟨by rfl, ?_⟩) hHeld ?_ ?_
      rotate_left
      · intro w' hSt
        refine (exec_load (p := .pointer (some ⟨w.heap.size + 1 + 1 + 1, 0, none⟩)) rfl rfl (loadRow_take _ _ _ _ _ hSt.2 Tryd.underlying68 rfl (infoK _ rfl))).trans ?_
        with_reducible rfl
      rotate_left
      · simp only [Act.put, List.setIfInBounds_toArray, List.set_cons_zero, List.set_cons_succ, i64_w, i32_w]
        rfl
      refine one_ (i := 2) (N := none) #[true, true, true, false] rfl rfl (one_of HT_.out (by kernel_rfl)) (by decide) (fun K hK => ?_)
      refine storeRow_step (by rfl) 67 (.tmp 0) (.tmp 27) rfl w.heap.size (cw fTab) rfl rfl 67 _ HM.out.a (infoH _ rfl) (by rw [cw_size, cw_size]; rfl) (cw_one _) ?_
      have hS1 := show (wr.drew.setRow w.heap.size (cw fTab)).heap[w.heap.size + 1 + 1]? = some (.cells (cw fTab) 67 (0, 0)) ∧ (wr.drew.setRow w.heap.size (cw fTab)).heap[w.heap.size + 1 + 1 + 1]? = some (.cells (cw kTab) 68 (0, 0)) from ⟨(setRow_other _ _ _ _ (by omega)).trans HM.out.h, (setRow_other _ _ _ _ (by omega)).trans HM.out.k⟩
      refine hK.out _ _ (by exact hS1) (fun hHeld => ?_)
      clear hK K
      refine norm_ (a' := ?_) ?_ ?_
      rotate_left
      · first
        | (show Act.put _ none _ = _; simp only [Act.put, List.setIfInBounds_toArray, List.set_cons_zero, List.set_cons_succ, i64_w, i32_w]; rfl)
        | rfl
      refine last_ (i := 3) (N := none) #[true, true, true, true] rfl rfl (one_of HT_.out (by kernel_rfl)) (by decide) (fun K hK => ?_)
      refine storeRow_step (by rfl) 68 (.tmp 1) (.tmp 28) rfl (w.heap.size + 1) (cw kTab) rfl rfl 68 _ HG1.out (infoK _ rfl) (by rw [cw_size, cw_size]; rfl) (cw_one _) ?_
      refine hK.out _ _ ?_
      clear hK K
      refine norm_ (a' := ?_) ?_ ?_
      rotate_left
      · first
        | (show Act.put _ none _ = _; simp only [Act.put, List.setIfInBounds_toArray, List.set_cons_zero, List.set_cons_succ, i64_w, i32_w]; rfl)
        | rfl
      refine done_ (done_of HT_.out (by kernel_rfl)) ?_
      clear hS0 hHeld HT_ HW_
      have HF0 := Aside0.mk (show ((wr.drew.setRow w.heap.size (cw fTab)).setRow (w.heap.size + 1) (cw kTab)).heap[w.heap.size]? = some (.cells (cw fTab) 67 (0, 0)) from (setRow_other _ _ _ _ (by omega)).trans (setRow_heap _ _ _ _ _ _ HM.out.a))
      have HF1 := Aside0.mk (show ((wr.drew.setRow w.heap.size (cw fTab)).setRow (w.heap.size + 1) (cw kTab)).heap[w.heap.size + 1]? = some (.cells (cw kTab) 68 (0, 0)) from setRow_heap _ _ _ _ _ _ HG1.out)
      have HB := Aside0.mk (below_setRow (below_setRow (below_drew1 HM.out.l) (Nat.le_refl _) (cw fTab)) (show w.heap.size ≤ w.heap.size + 1 by omega) (cw kTab))
      go_wp2
      (try simp only [Exit.inBlock, Exit.then])
      refine bodyPost_ret (results_cell2 rfl _ _ w.heap.size (w.heap.size + 1) 67 68 (cw fTab) (cw kTab) _ _ rfl HF0.out Tryd.underlying67 rfl (infoH _ rfl) rfl HF1.out Tryd.underlying68 rfl (infoK _ rfl)) rfl ?_
      exact ⟨rfl, HB.out⟩
end Go.Proofs.YtoiblfmlahedlaaDoor.Ref
namespace Go.Proofs.YtoiblfmlahedlaaDoor.Ref
open Go.RowKit Go.Proofs.YtoiblfmlahedlaaDoorW.PrintWords Go.Proofs.YtoiblfmlahedlaaDoorW.PrintLast Go.Proofs.YtoiblfmlahedlaaDoorW.PrintMore
set_option linter.unusedVariables false
set_option linter.unusedSimpArgs false
open Go.Proofs.YtoiblfmlahedlaaDoor.Sha
set_option maxHeartbeats 800000 in
theorem turn_calls (x : Int) (n : Nat) (h0 : 0 < n) (h1 : n < 32) (w : World) : Calls Tryd.prog 95 #[.int .u32 x, .int .u64 (n : Int)] w fun e w' => e = .returned (.int .u32 (turnI x n)) ∧ w' = w := by
  obtain ⟨m, hm⟩ : ∃ m, m = 32 - n := ⟨_, rfl⟩
  have hmi : 32 - (n : Int) = (m : Int) := by omega
  have hm1 : m ≤ 32 := by omega
  have HM := Aside0.mk hm
  clear hm
  go_enter Tryd.func95, Tryd.ntmps95
  go_wp2
  go_ret
  exact ⟨by unfold turnI; rw [← HM.out]; rfl, rfl⟩
def padL (l : List Int) : List Int := l ++ [128] ++ List.replicate (zerosN l.length) 0 ++ be8 (l.length * 8)
theorem padL_bytes {l : List Int} (h : Sha.bytes l) : Sha.bytes (padL l) := by
  unfold padL
  refine bytes_app (bytes_app (bytes_app h ?_) (bytes_rep _)) (be8_bytes _)
  intro x hx
  simp only [List.mem_cons, List.not_mem_nil, or_false] at hx
  omega
theorem padL_len (l : List Int) : (padL l).length = l.length + 1 + zerosN l.length + 8 := by simp [padL, be8]; omega
theorem padL_mod (l : List Int) : (padL l).length % 64 = 0 := by rw [padL_len]; unfold zerosN; omega
set_option maxHeartbeats 1600000 in
set_option maxRecDepth 100000 in
theorem padded_calls (A : Option Addr) (c : Nat) (l : List Int) (w : World) (hr : B.C w A l.length l) (hc : l.length ≤ c) (hl : l.length < 100000000) :
    Calls Tryd.prog 77 #[.slice A l.length c] w fun e w' => ∃ v, e = .returned v ∧ Kd.R B 5 w' w.heap.size (fun _ => True) v (padL l) ∧ Below w.heap.size w w' := by
  have HR := Aside0.mk hr
  clear hr
  go_enter Tryd.func77, Tryd.ntmps77
  go_wp2_with (first | ((with_reducible refine gate_dst (N := 6) rfl ?_); refine Kd.R_lit B (w0 := w) w.heap.size 5 ?hg (N := 6) ?hd (xs := ([] : List Int)) (inner := []) (ok := fun _ => True) (okp := fun _ => True) ?hr ?hp (fun _ hk => hk) trivial (Below.refl _ _) (Nat.le_refl _) (by simp) ?_; (case hd => rfl); (case hg => rfl); (case hr => first | (go_simp; done) | (go_simp; rfl)); (case hp => exact Reps.none _ _); intro v1 w2 ho hb1 hg hnew; have HO := Aside0.mk ho; have HB := Aside0.mk hb1; clear ho hb1 hg hnew) | ((with_reducible refine gate_builtin (b := .append) (xs := #[.tmp 6, .tmp 7]) rfl ?_); at_builtin; refine Kd.R_append_rows B (w0 := w) w.heap.size rfl (.tmp 6) (.tmp 7) 22 5 (.int .u8 0) 1 rfl Tryd.underlying22 info5 rfl (by decide) (by omega) _ ([]) (l) _ _ _ (fun _ => True) (fun _ => False) rfl rfl HO.out (Kd.C_below HR.out HB.out) (fun _ _ h => h) (fun _ h => h.elim) (fun _ _ => trivial) HB.out HB.out.size ?aL ?_; (case aL => simp; omega); intro v2 w3 ho hb2 hg hat; rw [List.nil_append] at ho; obtain ⟨A2, c2, rfl, hc2, hr2⟩ := Kd.R_reads ho; have HO2 := Aside0.mk ho; have HB2 := Aside0.mk hb2; clear ho hb2 hg hat hr2) | ((with_reducible refine gate_builtin (b := .append) (xs := #[.tmp 9, .tmp 10]) rfl ?_); at_builtin; refine Kd.R_append_rows B (w0 := w) w.heap.size rfl (.tmp 9) (.tmp 10) 22 5 (.int .u8 0) 1 rfl Tryd.underlying22 info5 rfl (by decide) (by omega) _ (l) ([128]) _ _ _ (fun _ => True) (fun _ => False) rfl rfl (by (with_reducible repeat (first | apply Kd.R_alloc | apply Kd.R_drewN | apply Kd.R_drew)); exact HO2.out) (C_one w3 128 _) (fun _ _ h => h) (fun _ h => h.elim) (fun _ _ => trivial) (HB2.out.alloc HB2.out.size _) (HB2.out.alloc HB2.out.size _).size ?aL ?_; (case aL => simp; omega); intro v3 w4 ho hb2 hg hat; have HO3 := Aside0.mk ho; have HB3 := Aside0.mk hb2; clear ho hb2 hg hat))
  clear HO HO2 HB HB2
  obtain ⟨A5, c5, rfl, hc5, hr5⟩ := Kd.R_reads HO3.out
  clear hr5
  have HZ := Aside0.mk (show ∀ j, j < zerosN l.length → (l.length + 1 + j) % 64 ≠ 56 by intro j hj; unfold zerosN at hj; omega)
  have HZE := Aside0.mk (show (l.length + 1 + zerosN l.length) % 64 = 56 ∧ zerosN l.length < 64 by unfold zerosN; omega)
  have HP := Aside0.mk (show padL l = l ++ [128] ++ List.replicate (zerosN l.length) 0 ++ be8 (l.length * 8) from rfl)
  generalize zerosN l.length = Z at HZ HZE HP
  have ht0 := Aside0.mk (show (l ++ [128]).length = l.length + 1 by simp)
  generalize l ++ [128] = t0 at *
  go_loopw [3] (fun v wz => ∃ (j : Nat) (t : List Int) (A5 : Option Addr) (c5 : Nat), j ≤ Z ∧ Aside0 (t.length = l.length + 1 + j) ∧ Aside0 (t = t0 ++ List.replicate j 0) ∧ v = .slice A5 t.length c5 ∧ Aside0 (Kd.R B 5 wz w.heap.size (fun _ => True) (.slice A5 t.length c5) t) ∧ Aside0 (Below w.heap.size w wz)) (fun v _ => l.length + 200 - slLen v)
  case atStart => exact ⟨0, t0, A5, c5, Nat.zero_le _, ⟨ht0.out⟩, ⟨by simp⟩, rfl, HO3, HB3⟩
  case round =>
    clear HO3 HB3 ht0
    obtain ⟨j, t, A5, c5, hj, htl, HTE, rfl, HO, HB⟩ := hrel
    have hn63 : t.length ≤ l.length + 100 := by have := htl.out; have := HZE.out.2; omega
    have hl8 : l.length < 100000000 := hl
    by_cases hlt : j < Z
    · have hm := HZ.out j hlt
      rw [← htl.out] at hm
      have e1 : (((t.length : Nat) : Int) % 64 == 56) = false := by simp; omega
      have HT2 := Aside0.mk (show t ++ [0] = t0 ++ List.replicate (j + 1) 0 by rw [HTE.out, List.append_assoc, List.replicate_succ'])
      have htl2 := Aside0.mk (show (t ++ [0]).length = l.length + 1 + (j + 1) by have := htl.out; simp; omega)
      have hts : (t ++ [0]).length = t.length + 1 := by simp
      clear hm
      go_wp2_with (first | ((with_reducible refine gate_builtin (b := .append) (xs := #[.tmp 16, .tmp 17]) rfl ?_); at_builtin; refine Kd.R_append_rows B (w0 := w) w.heap.size rfl (.tmp 16) (.tmp 17) 22 5 (.int .u8 0) 1 rfl Tryd.underlying22 info5 rfl (by decide) (by omega) _ (t) ([0]) _ _ _ (fun _ => True) (fun _ => False) rfl rfl (by (with_reducible repeat (first | apply Kd.R_alloc | apply Kd.R_drewN | apply Kd.R_drew)); exact HO.out) (C_one wr 0 _) (fun _ _ h => h) (fun _ h => h.elim) (fun _ _ => trivial) (HB.out.alloc HB.out.size _) (HB.out.alloc HB.out.size _).size ?aL ?_; (case aL => simp; omega); intro v2 w6 ho hb2 hg hat; have HO2 := Aside0.mk ho; have HB2 := Aside0.mk hb2; clear ho hb2 hg hat))
      generalize t ++ [0] = t2 at *
      obtain ⟨A6, c6, rfl, hc6, hr6⟩ := Kd.R_reads HO2.out
      clear hr6
      go_roundw
      case rel => exact ⟨j + 1, t2, A6, c6, by omega, htl2, HT2, rfl, HO2, HB2⟩
      case measure => simp [slLen]; omega
    · obtain rfl : j = Z := by omega
      have e1 : (((t.length : Nat) : Int) % 64 == 56) = true := by rw [htl.out]; have := HZE.out.1; simp; omega
      have e2 : (((t.length : Nat) : Int) % 64 != 56) = false := by simp only [bne, e1, Bool.not_true]
      replace HP := Aside0.mk (show padL l = t ++ be8 (l.length * 8) by rw [HP.out, HTE.out])
      clear HZ HZE HTE htl hlt hj
      go_wp2
      clear e2
      go_loopw [3, 5] (fun v i wz => ∃ (q : Nat) (t2 : List Int) (A5 : Option Addr) (c5 : Nat), q ≤ 8 ∧ Aside0 (t2.length = t.length + q) ∧ Aside0 (t2 = t ++ (be8 (l.length * 8)).take q) ∧ v = .slice A5 t2.length c5 ∧ i = .int .i64 (7 - (q : Int)) ∧ Aside0 (Kd.R B 5 wz w.heap.size (fun _ => True) (.slice A5 t2.length c5) t2) ∧ Aside0 (Below w.heap.size w wz)) (fun v _ _ => l.length + 200 - slLen v)
      case atStart => exact ⟨0, t, A5, c5, Nat.zero_le _, ⟨rfl⟩, ⟨by simp⟩, rfl, rfl, HO, HB⟩
      case round =>
        clear HO HB e1
        obtain ⟨q, t2, A5, c5, hq, htl, HTE, rfl, rfl, HO, HB⟩ := hrel
        have hn64 : t2.length ≤ l.length + 108 := by have := htl.out; omega
        by_cases hlt : q < 8
        · obtain rfl | rfl | rfl | rfl | rfl | rfl | rfl | rfl : q = 0 ∨ q = 1 ∨ q = 2 ∨ q = 3 ∨ q = 4 ∨ q = 5 ∨ q = 6 ∨ q = 7 := by omega
          · rw [show (7 - ((0 : Nat) : Int)) = 7 from rfl]
            clear hlt hq
            go_wp2_with (first | ((with_reducible refine gate_builtin (b := .append) (xs := #[.tmp 27, .tmp 34]) rfl ?_); at_builtin; refine Kd.R_append_rows B (w0 := w) w.heap.size rfl (.tmp 27) (.tmp 34) 22 5 (.int .u8 0) 1 rfl Tryd.underlying22 info5 rfl (by decide) (by omega) _ (t2) ([_]) _ _ _ (fun _ => True) (fun _ => False) rfl rfl (by (with_reducible repeat (first | apply Kd.R_alloc | apply Kd.R_drewN | apply Kd.R_drew)); exact HO.out) (C_one wr _ _) (fun _ _ h => h) (fun _ h => h.elim) (fun _ _ => trivial) (HB.out.alloc HB.out.size _) (HB.out.alloc HB.out.size _).size ?aL ?_; (case aL => simp; omega); intro v2 w6 ho hb2 hg hat; have HO2 := Aside0.mk ho; have HB2 := Aside0.mk hb2; clear ho hb2 hg hat))
            have HT2 := Aside0.mk (be8_step HTE.out (show _ = some ((l.length : Int) * 8 / 72057594037927936 : Int) from congrArg some (show ((l.length * 8 / 72057594037927936 % 256 : Nat) : Int) = (l.length : Int) * 8 / 72057594037927936 by omega)))
            have htl2 := Aside0.mk (show (t2 ++ [((l.length : Int) * 8 / 72057594037927936 : Int)]).length = t.length + 1 by have := htl.out; simp; omega)
            have hts : (t2 ++ [((l.length : Int) * 8 / 72057594037927936 : Int)]).length = t2.length + 1 := by simp
            generalize t2 ++ [((l.length : Int) * 8 / 72057594037927936 : Int)] = t3 at *
            obtain ⟨A6, c6, rfl, hc6, hr6⟩ := Kd.R_reads HO2.out
            clear hr6
            go_roundw
            case rel => exact ⟨1, t3, A6, c6, by omega, htl2, HT2, rfl, rfl, HO2, HB2⟩
            case measure => simp [slLen]; omega
          · rw [show (7 - ((1 : Nat) : Int)) = 6 from rfl]
            clear hlt hq
            go_wp2_with (first | ((with_reducible refine gate_builtin (b := .append) (xs := #[.tmp 27, .tmp 34]) rfl ?_); at_builtin; refine Kd.R_append_rows B (w0 := w) w.heap.size rfl (.tmp 27) (.tmp 34) 22 5 (.int .u8 0) 1 rfl Tryd.underlying22 info5 rfl (by decide) (by omega) _ (t2) ([_]) _ _ _ (fun _ => True) (fun _ => False) rfl rfl (by (with_reducible repeat (first | apply Kd.R_alloc | apply Kd.R_drewN | apply Kd.R_drew)); exact HO.out) (C_one wr _ _) (fun _ _ h => h) (fun _ h => h.elim) (fun _ _ => trivial) (HB.out.alloc HB.out.size _) (HB.out.alloc HB.out.size _).size ?aL ?_; (case aL => simp; omega); intro v2 w6 ho hb2 hg hat; have HO2 := Aside0.mk ho; have HB2 := Aside0.mk hb2; clear ho hb2 hg hat))
            have HT2 := Aside0.mk (be8_step HTE.out (show _ = some ((l.length : Int) * 8 / 281474976710656 : Int) from congrArg some (show ((l.length * 8 / 281474976710656 % 256 : Nat) : Int) = (l.length : Int) * 8 / 281474976710656 by omega)))
            have htl2 := Aside0.mk (show (t2 ++ [((l.length : Int) * 8 / 281474976710656 : Int)]).length = t.length + 2 by have := htl.out; simp; omega)
            have hts : (t2 ++ [((l.length : Int) * 8 / 281474976710656 : Int)]).length = t2.length + 1 := by simp
            generalize t2 ++ [((l.length : Int) * 8 / 281474976710656 : Int)] = t3 at *
            obtain ⟨A6, c6, rfl, hc6, hr6⟩ := Kd.R_reads HO2.out
            clear hr6
            go_roundw
            case rel => exact ⟨2, t3, A6, c6, by omega, htl2, HT2, rfl, rfl, HO2, HB2⟩
            case measure => simp [slLen]; omega
          · rw [show (7 - ((2 : Nat) : Int)) = 5 from rfl]
            clear hlt hq
            go_wp2_with (first | ((with_reducible refine gate_builtin (b := .append) (xs := #[.tmp 27, .tmp 34]) rfl ?_); at_builtin; refine Kd.R_append_rows B (w0 := w) w.heap.size rfl (.tmp 27) (.tmp 34) 22 5 (.int .u8 0) 1 rfl Tryd.underlying22 info5 rfl (by decide) (by omega) _ (t2) ([_]) _ _ _ (fun _ => True) (fun _ => False) rfl rfl (by (with_reducible repeat (first | apply Kd.R_alloc | apply Kd.R_drewN | apply Kd.R_drew)); exact HO.out) (C_one wr _ _) (fun _ _ h => h) (fun _ h => h.elim) (fun _ _ => trivial) (HB.out.alloc HB.out.size _) (HB.out.alloc HB.out.size _).size ?aL ?_; (case aL => simp; omega); intro v2 w6 ho hb2 hg hat; have HO2 := Aside0.mk ho; have HB2 := Aside0.mk hb2; clear ho hb2 hg hat))
            have HT2 := Aside0.mk (be8_step HTE.out (show _ = some ((l.length : Int) * 8 / 1099511627776 : Int) from congrArg some (show ((l.length * 8 / 1099511627776 % 256 : Nat) : Int) = (l.length : Int) * 8 / 1099511627776 by omega)))
            have htl2 := Aside0.mk (show (t2 ++ [((l.length : Int) * 8 / 1099511627776 : Int)]).length = t.length + 3 by have := htl.out; simp; omega)
            have hts : (t2 ++ [((l.length : Int) * 8 / 1099511627776 : Int)]).length = t2.length + 1 := by simp
            generalize t2 ++ [((l.length : Int) * 8 / 1099511627776 : Int)] = t3 at *
            obtain ⟨A6, c6, rfl, hc6, hr6⟩ := Kd.R_reads HO2.out
            clear hr6
            go_roundw
            case rel => exact ⟨3, t3, A6, c6, by omega, htl2, HT2, rfl, rfl, HO2, HB2⟩
            case measure => simp [slLen]; omega
          · rw [show (7 - ((3 : Nat) : Int)) = 4 from rfl]
            clear hlt hq
            go_wp2_with (first | ((with_reducible refine gate_builtin (b := .append) (xs := #[.tmp 27, .tmp 34]) rfl ?_); at_builtin; refine Kd.R_append_rows B (w0 := w) w.heap.size rfl (.tmp 27) (.tmp 34) 22 5 (.int .u8 0) 1 rfl Tryd.underlying22 info5 rfl (by decide) (by omega) _ (t2) ([_]) _ _ _ (fun _ => True) (fun _ => False) rfl rfl (by (with_reducible repeat (first | apply Kd.R_alloc | apply Kd.R_drewN | apply Kd.R_drew)); exact HO.out) (C_one wr _ _) (fun _ _ h => h) (fun _ h => h.elim) (fun _ _ => trivial) (HB.out.alloc HB.out.size _) (HB.out.alloc HB.out.size _).size ?aL ?_; (case aL => simp; omega); intro v2 w6 ho hb2 hg hat; have HO2 := Aside0.mk ho; have HB2 := Aside0.mk hb2; clear ho hb2 hg hat))
            have HT2 := Aside0.mk (be8_step HTE.out (show _ = some ((l.length : Int) * 8 / 4294967296 : Int) from congrArg some (show ((l.length * 8 / 4294967296 % 256 : Nat) : Int) = (l.length : Int) * 8 / 4294967296 by omega)))
            have htl2 := Aside0.mk (show (t2 ++ [((l.length : Int) * 8 / 4294967296 : Int)]).length = t.length + 4 by have := htl.out; simp; omega)
            have hts : (t2 ++ [((l.length : Int) * 8 / 4294967296 : Int)]).length = t2.length + 1 := by simp
            generalize t2 ++ [((l.length : Int) * 8 / 4294967296 : Int)] = t3 at *
            obtain ⟨A6, c6, rfl, hc6, hr6⟩ := Kd.R_reads HO2.out
            clear hr6
            go_roundw
            case rel => exact ⟨4, t3, A6, c6, by omega, htl2, HT2, rfl, rfl, HO2, HB2⟩
            case measure => simp [slLen]; omega
          · rw [show (7 - ((4 : Nat) : Int)) = 3 from rfl]
            clear hlt hq
            go_wp2_with (first | ((with_reducible refine gate_builtin (b := .append) (xs := #[.tmp 27, .tmp 34]) rfl ?_); at_builtin; refine Kd.R_append_rows B (w0 := w) w.heap.size rfl (.tmp 27) (.tmp 34) 22 5 (.int .u8 0) 1 rfl Tryd.underlying22 info5 rfl (by decide) (by omega) _ (t2) ([_]) _ _ _ (fun _ => True) (fun _ => False) rfl rfl (by (with_reducible repeat (first | apply Kd.R_alloc | apply Kd.R_drewN | apply Kd.R_drew)); exact HO.out) (C_one wr _ _) (fun _ _ h => h) (fun _ h => h.elim) (fun _ _ => trivial) (HB.out.alloc HB.out.size _) (HB.out.alloc HB.out.size _).size ?aL ?_; (case aL => simp; omega); intro v2 w6 ho hb2 hg hat; have HO2 := Aside0.mk ho; have HB2 := Aside0.mk hb2; clear ho hb2 hg hat))
            have HT2 := Aside0.mk (be8_step HTE.out (show _ = some ((l.length : Int) * 8 / 16777216 : Int) from congrArg some (show ((l.length * 8 / 16777216 % 256 : Nat) : Int) = (l.length : Int) * 8 / 16777216 by omega)))
            have htl2 := Aside0.mk (show (t2 ++ [((l.length : Int) * 8 / 16777216 : Int)]).length = t.length + 5 by have := htl.out; simp; omega)
            have hts : (t2 ++ [((l.length : Int) * 8 / 16777216 : Int)]).length = t2.length + 1 := by simp
            generalize t2 ++ [((l.length : Int) * 8 / 16777216 : Int)] = t3 at *
            obtain ⟨A6, c6, rfl, hc6, hr6⟩ := Kd.R_reads HO2.out
            clear hr6
            go_roundw
            case rel => exact ⟨5, t3, A6, c6, by omega, htl2, HT2, rfl, rfl, HO2, HB2⟩
            case measure => simp [slLen]; omega
          · rw [show (7 - ((5 : Nat) : Int)) = 2 from rfl]
            clear hlt hq
            go_wp2_with (first | ((with_reducible refine gate_builtin (b := .append) (xs := #[.tmp 27, .tmp 34]) rfl ?_); at_builtin; refine Kd.R_append_rows B (w0 := w) w.heap.size rfl (.tmp 27) (.tmp 34) 22 5 (.int .u8 0) 1 rfl Tryd.underlying22 info5 rfl (by decide) (by omega) _ (t2) ([_]) _ _ _ (fun _ => True) (fun _ => False) rfl rfl (by (with_reducible repeat (first | apply Kd.R_alloc | apply Kd.R_drewN | apply Kd.R_drew)); exact HO.out) (C_one wr _ _) (fun _ _ h => h) (fun _ h => h.elim) (fun _ _ => trivial) (HB.out.alloc HB.out.size _) (HB.out.alloc HB.out.size _).size ?aL ?_; (case aL => simp; omega); intro v2 w6 ho hb2 hg hat; have HO2 := Aside0.mk ho; have HB2 := Aside0.mk hb2; clear ho hb2 hg hat))
            have HT2 := Aside0.mk (be8_step HTE.out (show _ = some ((l.length : Int) * 8 / 65536 % 256 : Int) from congrArg some (show ((l.length * 8 / 65536 % 256 : Nat) : Int) = (l.length : Int) * 8 / 65536 % 256 by omega)))
            have htl2 := Aside0.mk (show (t2 ++ [((l.length : Int) * 8 / 65536 % 256 : Int)]).length = t.length + 6 by have := htl.out; simp; omega)
            have hts : (t2 ++ [((l.length : Int) * 8 / 65536 % 256 : Int)]).length = t2.length + 1 := by simp
            generalize t2 ++ [((l.length : Int) * 8 / 65536 % 256 : Int)] = t3 at *
            obtain ⟨A6, c6, rfl, hc6, hr6⟩ := Kd.R_reads HO2.out
            clear hr6
            go_roundw
            case rel => exact ⟨6, t3, A6, c6, by omega, htl2, HT2, rfl, rfl, HO2, HB2⟩
            case measure => simp [slLen]; omega
          · rw [show (7 - ((6 : Nat) : Int)) = 1 from rfl]
            clear hlt hq
            go_wp2_with (first | ((with_reducible refine gate_builtin (b := .append) (xs := #[.tmp 27, .tmp 34]) rfl ?_); at_builtin; refine Kd.R_append_rows B (w0 := w) w.heap.size rfl (.tmp 27) (.tmp 34) 22 5 (.int .u8 0) 1 rfl Tryd.underlying22 info5 rfl (by decide) (by omega) _ (t2) ([_]) _ _ _ (fun _ => True) (fun _ => False) rfl rfl (by (with_reducible repeat (first | apply Kd.R_alloc | apply Kd.R_drewN | apply Kd.R_drew)); exact HO.out) (C_one wr _ _) (fun _ _ h => h) (fun _ h => h.elim) (fun _ _ => trivial) (HB.out.alloc HB.out.size _) (HB.out.alloc HB.out.size _).size ?aL ?_; (case aL => simp; omega); intro v2 w6 ho hb2 hg hat; have HO2 := Aside0.mk ho; have HB2 := Aside0.mk hb2; clear ho hb2 hg hat))
            have HT2 := Aside0.mk (be8_step HTE.out (show _ = some ((l.length : Int) * 8 / 256 % 256 : Int) from congrArg some (show ((l.length * 8 / 256 % 256 : Nat) : Int) = (l.length : Int) * 8 / 256 % 256 by omega)))
            have htl2 := Aside0.mk (show (t2 ++ [((l.length : Int) * 8 / 256 % 256 : Int)]).length = t.length + 7 by have := htl.out; simp; omega)
            have hts : (t2 ++ [((l.length : Int) * 8 / 256 % 256 : Int)]).length = t2.length + 1 := by simp
            generalize t2 ++ [((l.length : Int) * 8 / 256 % 256 : Int)] = t3 at *
            obtain ⟨A6, c6, rfl, hc6, hr6⟩ := Kd.R_reads HO2.out
            clear hr6
            go_roundw
            case rel => exact ⟨7, t3, A6, c6, by omega, htl2, HT2, rfl, rfl, HO2, HB2⟩
            case measure => simp [slLen]; omega
          · rw [show (7 - ((7 : Nat) : Int)) = 0 from rfl]
            clear hlt hq
            go_wp2_with (first | ((with_reducible refine gate_builtin (b := .append) (xs := #[.tmp 27, .tmp 34]) rfl ?_); at_builtin; refine Kd.R_append_rows B (w0 := w) w.heap.size rfl (.tmp 27) (.tmp 34) 22 5 (.int .u8 0) 1 rfl Tryd.underlying22 info5 rfl (by decide) (by omega) _ (t2) ([_]) _ _ _ (fun _ => True) (fun _ => False) rfl rfl (by (with_reducible repeat (first | apply Kd.R_alloc | apply Kd.R_drewN | apply Kd.R_drew)); exact HO.out) (C_one wr _ _) (fun _ _ h => h) (fun _ h => h.elim) (fun _ _ => trivial) (HB.out.alloc HB.out.size _) (HB.out.alloc HB.out.size _).size ?aL ?_; (case aL => simp; omega); intro v2 w6 ho hb2 hg hat; have HO2 := Aside0.mk ho; have HB2 := Aside0.mk hb2; clear ho hb2 hg hat))
            have HT2 := Aside0.mk (be8_step HTE.out (show _ = some ((l.length : Int) * 8 % 256 : Int) from congrArg some (show ((l.length * 8 % 256 : Nat) : Int) = (l.length : Int) * 8 % 256 by omega)))
            have htl2 := Aside0.mk (show (t2 ++ [((l.length : Int) * 8 % 256 : Int)]).length = t.length + 8 by have := htl.out; simp; omega)
            have hts : (t2 ++ [((l.length : Int) * 8 % 256 : Int)]).length = t2.length + 1 := by simp
            generalize t2 ++ [((l.length : Int) * 8 % 256 : Int)] = t3 at *
            obtain ⟨A6, c6, rfl, hc6, hr6⟩ := Kd.R_reads HO2.out
            clear hr6
            go_roundw
            case rel => exact ⟨8, t3, A6, c6, by omega, htl2, HT2, rfl, rfl, HO2, HB2⟩
            case measure => simp [slLen]; omega
        · obtain rfl : q = 8 := by omega
          rw [show (7 - ((8 : Nat) : Int)) = -1 from rfl]
          have HT := Aside0.mk (show t2 = padL l by rw [HTE.out, HP.out]; rfl)
          go_wp2
          go_ret
          exact ⟨_, rfl, by rw [← HT.out]; exact HO.out, HB.out⟩
end Go.Proofs.YtoiblfmlahedlaaDoor.Ref
namespace Go.Proofs.YtoiblfmlahedlaaDoor.Ref
open Go.RowKit Go.Proofs.YtoiblfmlahedlaaDoorW.PrintWords Go.Proofs.YtoiblfmlahedlaaDoorW.PrintLast Go.Proofs.YtoiblfmlahedlaaDoorW.PrintMore
set_option linter.unusedVariables false
set_option linter.unusedSimpArgs false
open Go.Proofs.YtoiblfmlahedlaaDoor.Sha
def part (l : List Int) (t : Nat) : Nat → Int
  | 0 => 0
  | j + 1 => part l t j * 256 + rd l ((4 * t + j : Nat) : Int)
def ldR (l : List Int) (t j : Nat) : List Int := (ld l t).set t (part l t j)
theorem ld_zero (l : List Int) (t j : Nat) (h : t ≤ j) (hj : j < 64) : rd (ld l t) (j : Int) = 0 := by
  induction t with
  | zero =>
    unfold rd ld
    rw [Int.toNat_natCast, List.getD_eq_getElem?_getD, List.getElem?_replicate, if_pos hj]
    rfl
  | succ t ih =>
    have := ih (by omega)
    unfold rd at this ⊢
    rw [Int.toNat_natCast, List.getD_eq_getElem?_getD] at this ⊢
    unfold ld
    rw [List.getElem?_set_ne (by omega)]
    exact this
theorem ldR_zero (l : List Int) (t : Nat) (h : t < 64) : ldR l t 0 = ld l t := by
  have h0 := ld_zero l t t (Nat.le_refl _) h
  unfold ldR part
  apply List.ext_getElem (by simp)
  intro i h1 h2
  rw [List.getElem_set]
  split
  · rename_i he
    subst he
    unfold rd at h0
    rw [Int.toNat_natCast, List.getD_eq_getElem?_getD, List.getElem?_eq_getElem h2] at h0
    exact h0.symm
  · rfl
theorem ldR_four (l : List Int) (t : Nat) : ldR l t 4 = ld l (t + 1) := by
  unfold ldR
  show _ = (ld l t).set t _
  congr 1
  simp [part, wordI]
theorem ldR_set (l : List Int) (t j : Nat) (x : Int) : (ldR l t j).set t x = (ld l t).set t x := by unfold ldR; rw [List.set_set]
theorem ldR_len (l : List Int) (t j : Nat) : (ldR l t j).length = 64 := by unfold ldR; rw [List.length_set, ld_len]
theorem ldR_at (l : List Int) (t j : Nat) (h : t < 64) : rd (ldR l t j) (t : Int) = part l t j := by
  unfold rd ldR
  rw [Int.toNat_natCast, List.getD_eq_getElem?_getD, List.getElem?_set_self (by rw [ld_len]; exact h)]
  rfl
theorem part_rng {l : List Int} (hb : Sha.bytes l) (t : Nat) (h : 4 * t + 4 ≤ l.length) : ∀ j, j ≤ 4 → 0 ≤ part l t j ∧ part l t j < 256 ^ j
  | 0, _ => by simp [part]
  | j + 1, hj => by
    have ih := part_rng hb t h j (by omega)
    have hy := bytes_rd hb (4 * t + j) (by omega)
    unfold part
    rw [Int.pow_succ]
    omega
def rng (x : Int) : Prop := 0 ≤ x ∧ x < 4294967296
theorem wrap_rng (x : Int) : rng (IntKind.u32.wrap x) := by unfold rng; rw [IntKind.wrap_u32]; omega
theorem not_eq {e : Int} (h : rng e) : IntKind.u32.wrap (4294967295 - e) = bits .xor .u32 4294967295 e := by
  obtain ⟨h0, h1⟩ := h
  obtain ⟨n, rfl⟩ := Int.eq_ofNat_of_zero_le h0
  show _ = IntKind.u32.wrap ((BitVec.ofInt 32 4294967295 ^^^ BitVec.ofInt 32 (n : Int)).toNat : Int)
  have h2 : BitVec.ofInt 32 4294967295 = BitVec.allOnes 32 := by decide
  rw [h2, BitVec.allOnes_xor, BitVec.toNat_not, ofInt_u32 n (by omega)]
  congr 1
  omega
def rng8 (s : S8) : Prop := rng s.1 ∧ rng s.2.1 ∧ rng s.2.2.1 ∧ rng s.2.2.2.1 ∧ rng s.2.2.2.2.1 ∧ rng s.2.2.2.2.2.1 ∧ rng s.2.2.2.2.2.2.1 ∧ rng s.2.2.2.2.2.2.2
theorem rnd_rng (k w : Int) {s : S8} (h : rng8 s) : rng8 (rnd k w s) := by
  obtain ⟨h0, h1, h2, h3, h4, h5, h6, h7⟩ := h
  exact ⟨wrap_rng _, h0, h1, h2, wrap_rng _, h4, h5, h6⟩
theorem rnds_rng (ks ws : List Int) {s : S8} (h : rng8 s) (n : Nat) : rng8 (rnds ks ws s n) := by
  induction n with
  | zero => exact h
  | succ n ih => exact rnd_rng _ _ ih
theorem mix_rng (s r : S8) : rng8 (mix s r 8) := ⟨wrap_rng _, wrap_rng _, wrap_rng _, wrap_rng _, wrap_rng _, wrap_rng _, wrap_rng _, wrap_rng _⟩
def setW (s : S8) (k : Nat) (v : Int) : S8 :=
  match k with
  | 0 => (v, s.2) | 1 => (s.1, v, s.2.2) | 2 => (s.1, s.2.1, v, s.2.2.2) | 3 => (s.1, s.2.1, s.2.2.1, v, s.2.2.2.2) | 4 => (s.1, s.2.1, s.2.2.1, s.2.2.2.1, v, s.2.2.2.2.2)
  | 5 => (s.1, s.2.1, s.2.2.1, s.2.2.2.1, s.2.2.2.2.1, v, s.2.2.2.2.2.2) | 6 => (s.1, s.2.1, s.2.2.1, s.2.2.2.1, s.2.2.2.2.1, s.2.2.2.2.2.1, v, s.2.2.2.2.2.2.2) | _ => (s.1, s.2.1, s.2.2.1, s.2.2.2.1, s.2.2.2.2.1, s.2.2.2.2.2.1, s.2.2.2.2.2.2.1, v)
theorem c8_set (s : S8) (k : Nat) (hk : k < 8) (v : Int) : (c8 s).setIfInBounds k (.int .u32 v) = c8 (setW s k v) := by
  obtain rfl | rfl | rfl | rfl | rfl | rfl | rfl | rfl : k = 0 ∨ k = 1 ∨ k = 2 ∨ k = 3 ∨ k = 4 ∨ k = 5 ∨ k = 6 ∨ k = 7 := by omega
  all_goals rfl
def mixW (s r : S8) : Nat → S8
  | 0 => r
  | k + 1 => setW (mixW s r k) k (IntKind.u32.wrap (wd (mixW s r k) k + wd s k))
theorem mixW_all (s r : S8) : mixW s r 8 = mix s r 8 := by
  obtain ⟨a, b, c, d, e, f, g, h⟩ := s
  obtain ⟨a', b', c', d', e', f', g', h'⟩ := r
  simp only [mixW, setW, wd, mix, add32, Int.add_comm]
structure Rb (w0 w : World) (s : S8) (xs : List Int) : Prop where
  s : w.heap[w0.heap.size]? = some (.cells (c8 s) 67 (0, 0))
  k : w.heap[w0.heap.size + 1]? = some (.cells (cw kTab) 68 (0, 0))
  z : w.heap[w0.heap.size + 1 + 1]? = some (.cells (c8 (0, 0, 0, 0, 0, 0, 0, 0)) 67 (0, 0))
  x : w.heap[w0.heap.size + 1 + 1 + 1]? = some (.cells (cw xs) 68 (0, 0))
  b : Below w0.heap.size w0 w
theorem Rb.drew {w0 w : World} {s : S8} {xs : List Int} (h : Rb w0 w s xs) : Rb w0 w.drew s xs := ⟨h.s, h.k, h.z, h.x, below_drew1 h.b⟩
theorem Rb.set {w0 w : World} {s : S8} {xs : List Int} (h : Rb w0 w s xs) (j : Nat) (x : Int) : Rb w0 (w.setCell ⟨w0.heap.size + 1 + 1 + 1, j, none⟩ (.int .u32 x)) s (xs.set j x) :=
  ⟨blk_far h.s (p := ⟨w0.heap.size + 1 + 1 + 1, j, none⟩) (by first | (show _ ≠ _; simp; done) | (show _ ≠ _; simp; omega)) _, blk_far h.k (p := ⟨w0.heap.size + 1 + 1 + 1, j, none⟩) (by first | (show _ ≠ _; simp; done) | (show _ ≠ _; simp; omega)) _, blk_far h.z (p := ⟨w0.heap.size + 1 + 1 + 1, j, none⟩) (by first | (show _ ≠ _; simp; done) | (show _ ≠ _; simp; omega)) _, by rw [← cw_set]; exact blk_set h.x j _, h.b.setCell (p := ⟨w0.heap.size + 1 + 1 + 1, j, none⟩) (by show w0.heap.size ≤ w0.heap.size + 1 + 1 + 1; omega) _⟩
theorem Rb.far {w0 w : World} {s : S8} {xs : List Int} (h : Rb w0 w s xs) (g j : Nat) (hg : w0.heap.size + 1 + 1 + 1 < g) (v : Value) : Rb w0 (w.setCell ⟨g, j, none⟩ v) s xs :=
  ⟨blk_far h.s (p := ⟨g, j, none⟩) (by show _ ≠ g; omega) _, blk_far h.k (p := ⟨g, j, none⟩) (by show _ ≠ g; omega) _, blk_far h.z (p := ⟨g, j, none⟩) (by show _ ≠ g; omega) _, blk_far h.x (p := ⟨g, j, none⟩) (by show _ ≠ g; omega) _, h.b.setCell (p := ⟨g, j, none⟩) (by show w0.heap.size ≤ g; omega) _⟩
theorem Rb.row {w0 w : World} {s : S8} {xs : List Int} (h : Rb w0 w s xs) (g : Nat) (hg : w0.heap.size + 1 + 1 + 1 < g) (cs : Array Value) : Rb w0 (w.setRow g cs) s xs :=
  ⟨(setRow_other _ _ _ _ (by omega)).trans h.s, (setRow_other _ _ _ _ (by omega)).trans h.k, (setRow_other _ _ _ _ (by omega)).trans h.z, (setRow_other _ _ _ _ (by omega)).trans h.x, below_setRow h.b (by omega) _⟩
theorem Rb.below {w0 w w' : World} {s : S8} {xs : List Int} (h : Rb w0 w s xs) (hb : Below w.heap.size w w') : Rb w0 w' s xs := ⟨heap_keep h.s hb, heap_keep h.k hb, heap_keep h.z hb, heap_keep h.x hb, below_step h.b hb⟩
theorem Rb.frozen {w0 w : World} {s : S8} {xs : List Int} (h : Rb w0 w s xs) (j : Nat) : w.frozen? ⟨w0.heap.size + 1 + 1 + 1, j, none⟩ = false := by simp [World.frozen?, h.x]
theorem Rb.start (w : World) (s : S8) : Rb w ((((w.alloc (.cells (c8 s) 67)).alloc (.cells (cw kTab) 68)).alloc (.cells (c8 (0, 0, 0, 0, 0, 0, 0, 0)) 67)).alloc (.cells (cw (List.replicate 64 0)) 68)) s (List.replicate 64 0) :=
  ⟨by rw [Below.heap_alloc _ _ _ (by first | (simp; done) | (simp; omega)), Below.heap_alloc _ _ _ (by first | (simp; done) | (simp; omega)), Below.heap_alloc _ _ _ (by first | (simp; done) | (simp; omega))]; exact Sha.heap_new _ _, by rw [Below.heap_alloc _ _ _ (by first | (simp; done) | (simp; omega)), Below.heap_alloc _ _ _ (by first | (simp; done) | (simp; omega))]; exact Sha.heap_new' _ _ _ (by simp), by rw [Below.heap_alloc _ _ _ (by first | (simp; done) | (simp; omega))]; exact Sha.heap_new' _ _ _ (by simp), Sha.heap_new' _ _ _ (by simp), ((((Below.refl w.heap.size w).alloc (Nat.le_refl _) _).alloc (by first | (simp; done) | (simp; omega)) _).alloc (by first | (simp; done) | (simp; omega)) _).alloc (by first | (simp; done) | (simp; omega)) _⟩
end Go.Proofs.YtoiblfmlahedlaaDoor.Ref
end
