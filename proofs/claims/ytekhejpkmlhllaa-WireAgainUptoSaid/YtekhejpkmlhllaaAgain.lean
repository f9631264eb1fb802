/- What calls of Go functions of this seat come to, as the rows need it: under the conditions that each theorem names. -/
import Derived.Test.YtekhejpkmlhllaaMWireAgainx1
import Derived.Test.YtekhejpkmlhllaaWirePure
import Derived.OpenShut
namespace Go.Proofs.Ytekhejpkmlhllaa.Again
open Go.RowKit Go.Proofs.YtekhejpkmlhllaaW.PrintWords Go.Proofs.YtekhejpkmlhllaaW.PrintLast Go.Proofs.YtekhejpkmlhllaaW.PrintMore
set_option linter.unusedVariables false
set_option linter.unusedSimpArgs false
open Go.Proofs.Ytekhejpkmlhllaa.MWireAgain Go.Proofs.Ytekhejpkmlhllaa.Hand
/-! Rounds: what each function comes to, with rounds enough. -/
theorem ev_uint (l : List Int) (n : Nat) (h : n < 18446744073709551616) (hl : l.length < 140737488355300) : Ev (fun k => wire_AppendUint.f k l (n : Int)) (l ++ formL n) :=
  Ev.step (f := fun _ => some (l ++ formL n)) (fun k => by show wire_AppendUint.g l (n : Int) = _; unfold wire_AppendUint.g; rw [if_pos hl, if_pos (by omega), Int.toNat_natCast]) (Ev.now _)
theorem ev_abytes (l x : List Int) (hl : l.length + x.length < 140737488355300) : Ev (fun k => wire_AppendBytes.f k l x) (l ++ rowL x) :=
  Ev.step (f := fun _ => some (l ++ rowL x)) (fun k => by show wire_AppendBytes.g l x = _; unfold wire_AppendBytes.g; rw [if_pos hl]) (Ev.now _)
theorem ev_alist (l : List Int) (x : List (List Int)) (hl : (l ++ listL x).length < 140737488355300) (h2 : x.length ≤ 100000) : Ev (fun k => wire_AppendList.f k l x) (l ++ listL x) :=
  Ev.step (f := fun _ => some (l ++ listL x)) (fun k => by show wire_AppendList.g l x = _; unfold wire_AppendList.g; rw [if_pos ⟨hl, h2⟩]) (Ev.now _)
theorem all_bytes {l : List Int} (h : Hand.bytes l) : (l.all fun x => decide (0 ≤ x ∧ x < 256)) = true := List.all_eq_true.2 fun x hx => decide_eq_true (h x hx)
theorem ev_ruint (l : List Int) (a : Int) (h : Hand.bytes l) : Ev (fun k => wire_Uint.f k l a) (uintL l a) :=
  Ev.step (f := fun _ => some (uintL l a)) (fun k => by show wire_Uint.g l a = _; unfold wire_Uint.g; rw [if_pos (all_bytes h)]) (Ev.now _)
theorem ev_rbytes (l : List Int) (a m : Int) (h : Hand.bytes l) (hl : l.length < 140737488355300) (hm : m ≤ 9223372036854775807) : Ev (fun k => wire_Bytes.f k l a m) (bytesL l a m) :=
  Ev.step (f := fun _ => some (bytesL l a m)) (fun k => by show wire_Bytes.g l a m = _; unfold wire_Bytes.g; rw [if_pos ⟨⟨all_bytes h, hl⟩, hm⟩]) (Ev.now _)
theorem ev_same (a b : List (List Int)) : Ev (fun k => murmurationref03_Same.f k a b) (sameL a b) :=
  Ev.step (f := fun _ => some (sameL a b)) (fun k => rfl) (Ev.now _)
def sizeL (l : List (List Int)) : Nat := l.length + (l.map List.length).sum
theorem ev_size (l : List (List Int)) (hl : sizeL l < 9223372036854775807) : Ev (fun k => murmurationlaw03_size.f k l) (sizeL l : Int) := by
  have key : ∀ (d i : Nat), i + d = l.length → ∀ s : Nat, s = l.length + ((l.take i).map List.length).sum → Ev (fun k => murmurationlaw03_size.l0 k l (s : Int) (l.length : Int) (i : Int)) (sizeL l : Int) := by
    intro d
    induction d with
    | zero =>
      intro i hi s hs
      obtain rfl : i = l.length := by omega
      rw [List.take_length] at hs
      subst hs
      refine Ev.step (f := fun _ => some _) (fun k => ?_) (Ev.now _)
      simp only [murmurationlaw03_size.l0]
      rw [if_neg (by omega)]
      rfl
    | succ d ih =>
      intro i hi s hs
      have hlt : i < l.length := by omega
      have hsum : ((l.take (i + 1)).map List.length).sum = ((l.take i).map List.length).sum + (rd_L1 l i).length := by
        rw [List.take_succ_eq_append_getElem hlt, List.map_append, List.sum_append]
        unfold rd_L1
        rw [Int.toNat_natCast, List.getD_eq_getElem?_getD, List.getElem?_eq_getElem hlt]
        simp only [List.map_cons, List.map_nil, List.sum_cons, List.sum_nil, Option.getD_some, Nat.add_zero]
      have hle : ((l.take (i + 1)).map List.length).sum ≤ (l.map List.length).sum := by
        conv => rhs; rw [← List.take_append_drop (i + 1) l, List.map_append, List.sum_append]
        omega
      refine Ev.step (f := fun k => murmurationlaw03_size.l0 k l ((s + (rd_L1 l i).length : Nat) : Int) (l.length : Int) ((i + 1 : Nat) : Int)) (fun k => ?_) (ih (i + 1) (by omega) _ (by rw [hs, hsum]; omega))
      simp only [murmurationlaw03_size.l0]
      unfold sizeL at hl
      rw [if_pos (by omega), if_pos (by omega), if_pos (by omega)]
      congr 1
      · unfold wrap64; omega
      · unfold wrap64; omega
  have := key l.length 0 (by omega) l.length (by simp)
  exact this
/-- The rows of a list, wherever they stand, are read as they are. -/
theorem ev_list_loop (l : List (List Int)) : ∀ (a b : List Int) (acc : List (List Int)), Hand.bytes (a ++ ((l.map rowL).flatten ++ b)) → (a ++ ((l.map rowL).flatten ++ b)).length < 140737488355300 → (∀ x ∈ l, x.length ≤ 2000) → acc.length + l.length < 5864062014805 →
    Ev (fun k => wire_List.l0 k (a ++ ((l.map rowL).flatten ++ b)) a.length 2000 acc l.length) (acc ++ l, (a.length : Int) + ((l.map rowL).flatten).length, 0) := by
  induction l with
  | nil =>
    intro a b acc hb hl hx hn
    refine Ev.step (f := fun _ => some _) (fun k => ?_) (Ev.now _)
    simp only [wire_List.l0]
    rw [if_neg (by simp)]
    simp
  | cons x l ih =>
    intro a b acc hb hl hx hn
    have hxl := hx x (by simp)
    have e1 : a ++ (((x :: l).map rowL).flatten ++ b) = a ++ (rowL x ++ ((l.map rowL).flatten ++ b)) := by simp
    have e2 : a ++ (rowL x ++ ((l.map rowL).flatten ++ b)) = (a ++ rowL x) ++ ((l.map rowL).flatten ++ b) := by simp
    rw [e1] at hb hl ⊢
    have hB := ev_rbytes (a ++ (rowL x ++ ((l.map rowL).flatten ++ b))) a.length 2000 hb hl (by omega)
    rw [bytesL_row a x _ 2000 (by omega) (by omega)] at hB
    have hI := ih (a ++ rowL x) b (acc ++ [x]) (by rw [← e2]; exact hb) (by rw [← e2]; exact hl) (fun y hy => hx y (by simp [hy])) (by simp at hn ⊢; omega)
    rw [← e2] at hI
    refine Ev.step (f := fun k => (wire_Bytes.f k (a ++ (rowL x ++ ((l.map rowL).flatten ++ b))) a.length 2000).bind fun bt106 => (if bt106.2.2 = 0 then (if acc.length < 5864062014805 then (wire_List.l0 k (a ++ (rowL x ++ ((l.map rowL).flatten ++ b))) bt106.2.1 2000 (acc ++ [bt106.1]) (IntKind.u64.wrap (((x :: l).length : Int) - 1))) else (none)) else (some (([] : List (List Int)), 0, bt106.2.2)))) (fun k => ?_) (hB.bind ?_)
    · simp only [wire_List.l0]
      rw [if_pos (by simp)]
    · simp only [if_true]
      refine Ev.congr (f := fun k => wire_List.l0 k (a ++ (rowL x ++ ((l.map rowL).flatten ++ b))) ((a ++ rowL x).length : Nat) 2000 (acc ++ [x]) (l.length : Nat)) (fun k => ?_) ?_
      · rw [if_pos (by simp at hn; omega)]
        congr 1
        · simp
        · rw [show (((x :: l).length : Nat) : Int) - 1 = (l.length : Nat) by simp]
          exact wrap_u64 _ (by simp at hn; omega)
      · have e3 : (acc ++ (x :: l), (a.length : Int) + ((((x :: l).map rowL).flatten).length : Nat), (0 : Int)) = (acc ++ [x] ++ l, ((a ++ rowL x).length : Int) + (((l.map rowL).flatten).length : Nat), 0) := by
          refine Prod.ext (by simp) (Prod.ext ?_ rfl)
          simp
          omega
        rw [e3]
        exact hI
theorem bytes_list {l : List (List Int)} (h : ∀ x ∈ l, Hand.bytes x) (hl : l.length < 18446744073709551616) (h2 : ∀ x ∈ l, x.length < 18446744073709551616) : Hand.bytes (listL l) := by
  refine bytes_append (bytes_form _ hl) fun y hy => ?_
  obtain ⟨z, hz, hyz⟩ := List.mem_flatten.1 hy
  obtain ⟨x, hx, rfl⟩ := List.mem_map.1 hz
  exact bytes_row (h x hx) (h2 x hx) y hyz
theorem le_sum (l : List Nat) (n : Nat) (h : n ∈ l) : n ≤ l.sum := by
  induction l with
  | nil => cases h
  | cons m l ih =>
    rw [List.sum_cons]
    rcases List.mem_cons.1 h with rfl | h
    · omega
    · have := ih h
      omega
theorem size_mem {l : List (List Int)} {x : List Int} (h : x ∈ l) : x.length ≤ sizeL l := by
  unfold sizeL
  have := le_sum (l.map List.length) x.length (List.mem_map.2 ⟨x, h, rfl⟩)
  omega
theorem listL_len (l : List (List Int)) (h : sizeL l ≤ 2000) : (listL l).length ≤ 22000 := by
  have key : ∀ l : List (List Int), (∀ x ∈ l, x.length < 18446744073709551616) → ((l.map rowL).flatten).length ≤ 9 * l.length + (l.map List.length).sum := by
    intro l
    induction l with
    | nil => intro _; simp
    | cons x l ih =>
      intro hx
      have h1 := ih (fun y hy => hx y (by simp [hy]))
      have h2 := formL_len x.length (hx x (by simp))
      simp only [List.map_cons, List.flatten_cons, List.length_append, List.sum_cons, List.length_cons, rowL]
      omega
  have h1 := key l (fun x hx => by have := size_mem hx; omega)
  unfold sizeL at h
  have h2 := formL_len l.length (by omega)
  simp only [listL, List.length_append]
  omega
theorem wrap3 (a b c d : Nat) (h : a + b + c + d < 9223372036854775807) : wrap64 ((wrap64 ((wrap64 ((a : Int) + b)) + c)) + d) = ((a + b + c + d : Nat) : Int) := by
  unfold wrap64
  omega
/-- The pure law of WireAgain. -/
theorem again (l0 : List Int) (n : Nat) (l2 : List Int) (l3 : List (List Int)) (l4 : List Int) (hn : n < 18446744073709551616) (b0 : Hand.bytes l0) (b2 : Hand.bytes l2) (b3 : ∀ x ∈ l3, Hand.bytes x) (b4 : Hand.bytes l4)
    (h0 : l0.length ≤ 140737488355232) (h2 : l2.length ≤ 140737488355232) (h4 : l4.length ≤ 140737488355232) (h3 : sizeL l3 ≤ 140737488355232) : Ev (fun k => murmurationlaw03_WireAgain.f k l0 (n : Int) l2 l3 l4) true := by
  unfold murmurationlaw03_WireAgain.f
  refine (ev_size l3 (by omega)).bind ?_
  by_cases hbig : l0.length + l2.length + l4.length + sizeL l3 > 2000
  · refine Ev.congr (f := fun _ => some true) (fun k => ?_) (Ev.now _)
    rw [wrap3 _ _ _ _ (by omega), if_pos (by omega)]
    rfl
  · have hL := listL_len l3 (by omega)
    have hf := formL_len n hn
    have hx : ∀ x ∈ l3, x.length ≤ 2000 := fun x hx => by have := size_mem hx; omega
    have hl3 : l3.length ≤ 2000 := by unfold sizeL at hbig; omega
    have hr2 := formL_len l2.length (by omega)
    have hr3 := formL_len l3.length (by omega)
    have hrl : (rowL l2).length = (formL l2.length).length + l2.length := by simp [rowL]
    have bn := bytes_form n hn
    have br := bytes_row b2 (by omega)
    have bl := bytes_list b3 (by omega) (fun x hx => by have := size_mem hx; omega)
    have hbb : Hand.bytes (l0 ++ formL n ++ rowL l2 ++ listL l3 ++ l4) := bytes_append (bytes_append (bytes_append (bytes_append b0 bn) br) bl) b4
    have hlen : (l0 ++ formL n ++ rowL l2 ++ listL l3 ++ l4).length < 140737488355300 := by simp only [List.length_append]; omega
    refine Ev.congr (fun k => by rw [wrap3 _ _ _ _ (by omega), if_neg (by omega)]) ?_
    refine (ev_uint l0 n hn (by omega)).bind ?_
    refine (ev_abytes (l0 ++ formL n) l2 (by simp only [List.length_append]; omega)).bind ?_
    refine (ev_alist (l0 ++ formL n ++ rowL l2) l3 (by simp only [List.length_append]; omega) (by omega)).bind ?_
    refine Ev.congr (f := fun k => (wire_Uint.f k (l0 ++ formL n ++ rowL l2 ++ listL l3 ++ l4) (l0.length : Int)).bind fun bt134 => (if bt134.2.2 = 0 then (murmurationlaw03_WireAgain.j0 k l2 l3 (l0 ++ formL n ++ rowL l2 ++ listL l3) (l0 ++ formL n ++ rowL l2 ++ listL l3 ++ l4) bt134.2.1 (bt134.1 != (n : Int))) else (murmurationlaw03_WireAgain.j0 k l2 l3 (l0 ++ formL n ++ rowL l2 ++ listL l3) (l0 ++ formL n ++ rowL l2 ++ listL l3 ++ l4) bt134.2.1 true))) (fun k => ?_) ?_
    · simp only [Option.bind_some, List.nil_append]
      rw [if_pos (by simp only [List.length_nil, List.length_append]; omega), if_pos (by simp only [List.length_append]; omega)]
    have hU := ev_ruint (l0 ++ formL n ++ rowL l2 ++ listL l3 ++ l4) (l0.length : Int) hbb
    have e0 : l0 ++ formL n ++ rowL l2 ++ listL l3 ++ l4 = l0 ++ (formL n ++ (rowL l2 ++ listL l3 ++ l4)) := by simp only [List.append_assoc]
    have u0 : uintL (l0 ++ formL n ++ rowL l2 ++ listL l3 ++ l4) (l0.length : Int) = ((n : Int), (l0.length : Int) + (formL n).length, 0) := by rw [e0]; exact uintL_form l0 _ n hn
    rw [u0] at hU
    refine hU.bind ?_
    simp only [if_true, bne_self_eq_false]
    have e1 : l0 ++ formL n ++ rowL l2 ++ listL l3 ++ l4 = (l0 ++ formL n) ++ (rowL l2 ++ (listL l3 ++ l4)) := by simp only [List.append_assoc]
    have e2 : l0 ++ formL n ++ rowL l2 ++ listL l3 ++ l4 = ((l0 ++ formL n) ++ rowL l2) ++ (formL l3.length ++ ((l3.map rowL).flatten ++ l4)) := by simp only [List.append_assoc, listL]
    have e3 : l0 ++ formL n ++ rowL l2 ++ listL l3 ++ l4 = (((l0 ++ formL n) ++ rowL l2) ++ formL l3.length) ++ ((l3.map rowL).flatten ++ l4) := by simp only [List.append_assoc, listL]
    have hB := ev_rbytes (l0 ++ formL n ++ rowL l2 ++ listL l3 ++ l4) ((l0.length : Int) + (formL n).length) (l2.length : Int) hbb hlen (by omega)
    have u1 : bytesL (l0 ++ formL n ++ rowL l2 ++ listL l3 ++ l4) ((l0.length : Int) + (formL n).length) (l2.length : Int) = (l2, (l0.length : Int) + (formL n).length + (rowL l2).length, 0) := by
      rw [e1, show ((l0.length : Int) + (formL n).length) = ((l0 ++ formL n).length : Int) by simp]
      exact bytesL_row (l0 ++ formL n) l2 _ _ (by omega) (by omega)
    rw [u1] at hB
    refine Ev.step (fun k => by simp only [murmurationlaw03_WireAgain.j0]; rw [if_neg (by simp)]) (hB.bind ?_)
    simp only [if_true, bne_self_eq_false]
    have hU2 := ev_ruint (l0 ++ formL n ++ rowL l2 ++ listL l3 ++ l4) ((l0.length : Int) + (formL n).length + (rowL l2).length) hbb
    have u2 : uintL (l0 ++ formL n ++ rowL l2 ++ listL l3 ++ l4) ((l0.length : Int) + (formL n).length + (rowL l2).length) = ((l3.length : Int), (l0.length : Int) + (formL n).length + (rowL l2).length + (formL l3.length).length, 0) := by
      rw [e2, show ((l0.length : Int) + (formL n).length + (rowL l2).length) = (((l0 ++ formL n) ++ rowL l2).length : Int) by simp; omega]
      exact uintL_form _ _ l3.length (by omega)
    rw [u2] at hU2
    have hLL := ev_list_loop l3 (((l0 ++ formL n) ++ rowL l2) ++ formL l3.length) l4 [] (by rw [← e3]; exact hbb) (by rw [← e3]; exact hlen) hx (by simp; omega)
    rw [← e3] at hLL
    have hLF : Ev (fun k => wire_List.f k (l0 ++ formL n ++ rowL l2 ++ listL l3 ++ l4) ((l0.length : Int) + (formL n).length + (rowL l2).length) (l3.length : Int) 2000) (l3, ((l0 ++ formL n ++ rowL l2 ++ listL l3).length : Int), 0) := by
      unfold wire_List.f
      refine hU2.bind ?_
      refine Ev.congr (f := fun k => wire_List.l0 k (l0 ++ formL n ++ rowL l2 ++ listL l3 ++ l4) ((((l0 ++ formL n) ++ rowL l2) ++ formL l3.length).length : Int) 2000 [] (l3.length : Int)) (fun k => ?_) ?_
      · simp only [if_true]
        rw [if_neg (by omega), wrap_u64 _ (by omega), if_neg (by omega)]
        congr 1
        simp only [List.length_append]
        omega
      · have e4 : (l3, ((l0 ++ formL n ++ rowL l2 ++ listL l3).length : Int), (0 : Int)) = ([] ++ l3, ((((l0 ++ formL n) ++ rowL l2) ++ formL l3.length).length : Int) + (((l3.map rowL).flatten).length : Nat), 0) := by
          refine Prod.ext rfl (Prod.ext ?_ rfl)
          simp only [List.length_append, listL]
          omega
        rw [e4]
        exact hLL
    refine Ev.step (fun k => by simp only [murmurationlaw03_WireAgain.j1]; rw [if_neg (by simp)]) (hLF.bind ?_)
    simp only [if_true]
    have hS := ev_same l3 l3
    rw [sameL_refl] at hS
    refine hS.bind ?_
    simp only [if_true]
    exact Ev.now _
end Go.Proofs.Ytekhejpkmlhllaa.Again
namespace Go.Proofs.Ytekhejpkmlhllaa.Again
open Go.RowKit Go.Proofs.YtekhejpkmlhllaaW.PrintWords Go.Proofs.YtekhejpkmlhllaaW.PrintLast Go.Proofs.YtekhejpkmlhllaaW.PrintMore
set_option linter.unusedVariables false
set_option linter.unusedSimpArgs false
open Go.Proofs.Ytekhejpkmlhllaa.MWireAgain Go.Proofs.Ytekhejpkmlhllaa.Hand
theorem bytes_wf {l : List Int} (h : ∀ x ∈ l, (Lit.int .u8 x).wf = true) : Hand.bytes l := fun x hx => by
  have := bounds_u8 (h x hx)
  omega
theorem sum_one (l : List Int) : (l.map fun _ => 1).sum = l.length := by
  induction l with
  | nil => rfl
  | cons x l ih => simp only [List.map_cons, List.sum_cons, ih, List.length_cons]; omega
def blkB (l : List Int) : Nat := (l.map fun _ => 1).sum + 1
theorem size_le (l : List (List Int)) : sizeL l ≤ (l.map blkB).sum := by
  unfold sizeL
  induction l with
  | nil => simp
  | cons x l ih =>
    have : blkB x = x.length + 1 := by unfold blkB; rw [sum_one]
    simp only [List.map_cons, List.sum_cons, List.length_cons]
    omega
theorem wireAgain_walk (a0 : Option Addr) (c0 : Nat) (x0 : List Int) (a1 : Int) (a2 : Option Addr) (c2 : Nat) (x2 : List Int) (a3 : Option Addr) (c3 : Nat) (x3 : List (List Int)) (a4 : Option Addr) (c4 : Nat) (x4 : List Int) (w : World)
    (C0 : B.C w a0 x0.length x0) (l0 : x0.length ≤ c0) (k0 : ∀ x ∈ x0, (Lit.int .u8 x).wf = true) (k1 : (Lit.int .u64 a1).wf = true) (C2 : B.C w a2 x2.length x2) (l2 : x2.length ≤ c2) (k2 : ∀ x ∈ x2, (Lit.int .u8 x).wf = true)
    (C3 : Kd.C (Kd.slice 5 B) w a3 x3.length x3) (l3 : x3.length ≤ c3) (k3 : ∀ l ∈ x3, ∀ x ∈ l, (Lit.int .u8 x).wf = true) (C4 : B.C w a4 x4.length x4) (l4 : x4.length ≤ c4) (k4 : ∀ x ∈ x4, (Lit.int .u8 x).wf = true)
    (hb : ((x0.map fun _ => 1).sum + 1) + ((x2.map fun _ => 1).sum + 1) + ((x3.map fun xs => (xs.map fun _ => 1).sum + 1).sum + 1) + ((x4.map fun _ => 1).sum + 1) ≤ 1048576) :
    Calls Try.prog 6 #[.slice a0 x0.length c0, .int .u64 a1, .slice a2 x2.length c2, .slice a3 x3.length c3, .slice a4 x4.length c4] w fun e w' => e = .returned (.bool true) ∧ Below w.heap.size w w' := by
  have b1 := bounds_u64 k1
  obtain ⟨n, rfl⟩ := Int.eq_ofNat_of_zero_le b1.1
  have e3 : sizeL x3 ≤ (x3.map fun xs => (xs.map fun _ => 1).sum + 1).sum := size_le x3
  rw [sum_one, sum_one, sum_one] at hb
  obtain ⟨k, h⟩ := (again x0 n x2 x3 x4 (by omega) (bytes_wf k0) (bytes_wf k2) (fun x hx => bytes_wf (k3 x hx)) (bytes_wf k4) (by omega) (by omega) (by omega) (by omega)).rounds
  refine (murmurationlaw03_WireAgain.calls k a0 c0 x0 (n : Int) a2 c2 x2 a3 c3 x3 a4 c4 x4 true w C0 l0 C2 l2 C3 l3 C4 l4 h).mono ?_
  rintro e w' ⟨rfl, hd⟩
  exact ⟨rfl, hd⟩
end Go.Proofs.Ytekhejpkmlhllaa.Again
