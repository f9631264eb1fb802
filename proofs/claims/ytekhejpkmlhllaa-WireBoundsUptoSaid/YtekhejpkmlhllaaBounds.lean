/- What calls of Go functions of this seat come to, as the rows need it: under the conditions that each theorem names. -/
import Derived.Test.YtekhejpkmlhllaaMWireBoundsx2
import Derived.Test.YtekhejpkmlhllaaWirePure
import Derived.OpenShut
namespace Go.Proofs.Ytekhejpkmlhllaa.Bounds
open Go.RowKit Go.Proofs.YtekhejpkmlhllaaW.PrintWords Go.Proofs.YtekhejpkmlhllaaW.PrintLast Go.Proofs.YtekhejpkmlhllaaW.PrintMore
set_option linter.unusedVariables false
set_option linter.unusedSimpArgs false
open Go.Proofs.Ytekhejpkmlhllaa.MWireBounds Go.Proofs.Ytekhejpkmlhllaa.Hand
/-! Rounds: what each function comes to, with rounds enough. -/
theorem ev_uint (l : List Int) (n : Nat) (h : n < 18446744073709551616) (hl : l.length < 140737488355300) : Ev (fun k => wire_AppendUint.f k l (n : Int)) (l ++ formL n) :=
  Ev.step (f := fun _ => some (l ++ formL n)) (fun k => by show wire_AppendUint.g l (n : Int) = _; unfold wire_AppendUint.g; rw [if_pos hl, if_pos (by omega), Int.toNat_natCast]) (Ev.now _)
theorem ev_abytes (l x : List Int) (hl : l.length + x.length < 140737488355300) : Ev (fun k => wire_AppendBytes.f k l x) (l ++ rowL x) :=
  Ev.step (f := fun _ => some (l ++ rowL x)) (fun k => by show wire_AppendBytes.g l x = _; unfold wire_AppendBytes.g; rw [if_pos hl]) (Ev.now _)
theorem ev_alist (l : List Int) (x : List (List Int)) (hl : (l ++ listL x).length < 140737488355300) (h2 : x.length ≤ 100000) : Ev (fun k => wire_AppendList.f k l x) (l ++ listL x) :=
  Ev.step (f := fun _ => some (l ++ listL x)) (fun k => by show wire_AppendList.g l x = _; unfold wire_AppendList.g; rw [if_pos ⟨hl, h2⟩]) (Ev.now _)
theorem all_bytes {l : List Int} (h : Hand.bytes l) : (l.all fun x => decide (0 ≤ x ∧ x < 256)) = true := List.all_eq_true.2 fun x hx => decide_eq_true (h x hx)
theorem ev_ruint (l : List Int) (a : Int) (h : Hand.bytes l) : Ev (fun k => wire_Uint.f k l a) (uintL l a) :=
  Ev.step (f := fun _ => some (uintL l a)) (fun k => by show wire_Uint.g l a = _; unfold wire_Uint.g; rw [if_pos (all_bytes h)]) (Ev.now _)
theorem ev_rbytes (l : List Int) (a m : Int) (h : Hand.bytes l) (hl : l.length < 140737488355300) (hm : m ≤ 9223372036854775807) : Ev (fun k => wire_Bytes.f k l a m) (bytesL l a m) :=
  Ev.step (f := fun _ => some (bytesL l a m)) (fun k => by show wire_Bytes.g l a m = _; unfold wire_Bytes.g; rw [if_pos ⟨⟨all_bytes h, hl⟩, hm⟩]) (Ev.now _)
def sizeL (l : List (List Int)) : Nat := l.length + (l.map List.length).sum
theorem ev_size (l : List (List Int)) (hl : sizeL l < 9223372036854775807) : Ev (fun k => murmurationlaw03_size.f k l) (sizeL l : Int) := by
  have key : ∀ (d i : Nat), i + d = l.length → ∀ s : Nat, s = l.length + ((l.take i).map List.length).sum → Ev (fun k => murmurationlaw03_size.l0 k l (s : Int) (l.length : Int) (i : Int)) (sizeL l : Int) := by
    intro d
    induction d with
    | zero =>
      intro i hi s hs
      obtain rfl : i = l.length := by omega
      rw [List.take_length] at hs
      subst hs
      refine Ev.step (f := fun _ => some _) (fun k => ?_) (Ev.now _)
      simp only [murmurationlaw03_size.l0]
      rw [if_neg (by omega)]
      rfl
    | succ d ih =>
      intro i hi s hs
      have hlt : i < l.length := by omega
      have hsum : ((l.take (i + 1)).map List.length).sum = ((l.take i).map List.length).sum + (rd_L1 l i).length := by
        rw [List.take_succ_eq_append_getElem hlt, List.map_append, List.sum_append]
        unfold rd_L1
        rw [Int.toNat_natCast, List.getD_eq_getElem?_getD, List.getElem?_eq_getElem hlt]
        simp only [List.map_cons, List.map_nil, List.sum_cons, List.sum_nil, Option.getD_some, Nat.add_zero]
      have hle : ((l.take (i + 1)).map List.length).sum ≤ (l.map List.length).sum := by
        conv => rhs; rw [← List.take_append_drop (i + 1) l, List.map_append, List.sum_append]
        omega
      refine Ev.step (f := fun k => murmurationlaw03_size.l0 k l ((s + (rd_L1 l i).length : Nat) : Int) (l.length : Int) ((i + 1 : Nat) : Int)) (fun k => ?_) (ih (i + 1) (by omega) _ (by rw [hs, hsum]; omega))
      simp only [murmurationlaw03_size.l0]
      unfold sizeL at hl
      rw [if_pos (by omega), if_pos (by omega), if_pos (by omega)]
      congr 1
      · unfold wrap64; omega
      · unfold wrap64; omega
  have := key l.length 0 (by omega) l.length (by simp)
  exact this
/-- The rows of a list, wherever they stand, are read as they are. -/
theorem ev_list_loop (most : Int) (hmost : most ≤ 9223372036854775807) (l : List (List Int)) : ∀ (a b : List Int) (acc : List (List Int)), Hand.bytes (a ++ ((l.map rowL).flatten ++ b)) → (a ++ ((l.map rowL).flatten ++ b)).length < 140737488355300 → (∀ x ∈ l, (x.length : Int) ≤ most) → (∀ x ∈ l, x.length < 18446744073709551616) → acc.length + l.length < 5864062014805 →
    Ev (fun k => wire_List.l0 k (a ++ ((l.map rowL).flatten ++ b)) a.length most acc l.length) (acc ++ l, (a.length : Int) + ((l.map rowL).flatten).length, 0) := by
  induction l with
  | nil =>
    intro a b acc hb hl hx hs hn
    refine Ev.step (f := fun _ => some _) (fun k => ?_) (Ev.now _)
    simp only [wire_List.l0]
    rw [if_neg (by simp)]
    simp
  | cons x l ih =>
    intro a b acc hb hl hx hs hn
    have hxl := hx x (by simp)
    have hsl := hs x (by simp)
    have e1 : a ++ (((x :: l).map rowL).flatten ++ b) = a ++ (rowL x ++ ((l.map rowL).flatten ++ b)) := by simp
    have e2 : a ++ (rowL x ++ ((l.map rowL).flatten ++ b)) = (a ++ rowL x) ++ ((l.map rowL).flatten ++ b) := by simp
    rw [e1] at hb hl ⊢
    have hB := ev_rbytes (a ++ (rowL x ++ ((l.map rowL).flatten ++ b))) a.length most hb hl hmost
    rw [bytesL_row a x _ most hsl hxl] at hB
    have hI := ih (a ++ rowL x) b (acc ++ [x]) (by rw [← e2]; exact hb) (by rw [← e2]; exact hl) (fun y hy => hx y (by simp [hy])) (fun y hy => hs y (by simp [hy])) (by simp at hn ⊢; omega)
    rw [← e2] at hI
    refine Ev.step (f := fun k => (wire_Bytes.f k (a ++ (rowL x ++ ((l.map rowL).flatten ++ b))) a.length most).bind fun bt106 => (if bt106.2.2 = 0 then (if acc.length < 5864062014805 then (wire_List.l0 k (a ++ (rowL x ++ ((l.map rowL).flatten ++ b))) bt106.2.1 most (acc ++ [bt106.1]) (IntKind.u64.wrap (((x :: l).length : Int) - 1))) else (none)) else (some (([] : List (List Int)), 0, bt106.2.2)))) (fun k => ?_) (hB.bind ?_)
    · simp only [wire_List.l0]
      rw [if_pos (by simp)]
    · simp only [if_true]
      refine Ev.congr (f := fun k => wire_List.l0 k (a ++ (rowL x ++ ((l.map rowL).flatten ++ b))) ((a ++ rowL x).length : Nat) most (acc ++ [x]) (l.length : Nat)) (fun k => ?_) ?_
      · rw [if_pos (by simp at hn; omega)]
        congr 1
        · simp
        · rw [show (((x :: l).length : Nat) : Int) - 1 = (l.length : Nat) by simp]
          exact wrap_u64 _ (by simp at hn; omega)
      · have e3 : (acc ++ (x :: l), (a.length : Int) + ((((x :: l).map rowL).flatten).length : Nat), (0 : Int)) = (acc ++ [x] ++ l, ((a ++ rowL x).length : Int) + (((l.map rowL).flatten).length : Nat), 0) := by
          refine Prod.ext (by simp) (Prod.ext ?_ rfl)
          simp
          omega
        rw [e3]
        exact hI

theorem bytesL_long (a x b : List Int) (most : Int) (h : x.length < 18446744073709551616) (hm : most < (x.length : Int)) : bytesL (a ++ (rowL x ++ b)) a.length most = ([], 0, 3) := by
  have hu : uintL (a ++ (rowL x ++ b)) a.length = ((x.length : Int), (a.length : Int) + (formL x.length).length, 0) := by
    unfold rowL
    rw [List.append_assoc]
    exact uintL_form a (x ++ b) x.length h
  rw [bytesL_eq, hu]
  simp only
  rw [if_neg (by simp), if_pos (by omega)]
/-- A row that is too long: refused. -/
theorem ev_list_long (most : Int) (hmost : most ≤ 9223372036854775807) (l : List (List Int)) : ∀ (a b : List Int) (acc : List (List Int)), Hand.bytes (a ++ ((l.map rowL).flatten ++ b)) → (a ++ ((l.map rowL).flatten ++ b)).length < 140737488355300 → (∃ x ∈ l, most < (x.length : Int)) → (∀ x ∈ l, x.length < 18446744073709551616) → acc.length + l.length < 5864062014805 →
    Ev (fun k => wire_List.l0 k (a ++ ((l.map rowL).flatten ++ b)) a.length most acc l.length) ([], 0, 3) := by
  induction l with
  | nil =>
    intro a b acc hb hl hx hs hn
    obtain ⟨x, h, _⟩ := hx
    cases h
  | cons x l ih =>
    intro a b acc hb hl hx hs hn
    have hsl := hs x (by simp)
    have e1 : a ++ (((x :: l).map rowL).flatten ++ b) = a ++ (rowL x ++ ((l.map rowL).flatten ++ b)) := by simp
    have e2 : a ++ (rowL x ++ ((l.map rowL).flatten ++ b)) = (a ++ rowL x) ++ ((l.map rowL).flatten ++ b) := by simp
    rw [e1] at hb hl ⊢
    have hB := ev_rbytes (a ++ (rowL x ++ ((l.map rowL).flatten ++ b))) a.length most hb hl hmost
    have step : ∀ k, wire_List.l0 (k + 1) (a ++ (rowL x ++ ((l.map rowL).flatten ++ b))) a.length most acc (x :: l).length = (wire_Bytes.f k (a ++ (rowL x ++ ((l.map rowL).flatten ++ b))) a.length most).bind fun bt106 => (if bt106.2.2 = 0 then (if acc.length < 5864062014805 then (wire_List.l0 k (a ++ (rowL x ++ ((l.map rowL).flatten ++ b))) bt106.2.1 most (acc ++ [bt106.1]) (IntKind.u64.wrap (((x :: l).length : Int) - 1))) else (none)) else (some (([] : List (List Int)), 0, bt106.2.2))) := fun k => by
      simp only [wire_List.l0]
      rw [if_pos (by simp)]
    by_cases hxl : (x.length : Int) ≤ most
    · rw [bytesL_row a x _ most hsl hxl] at hB
      have hx' : ∃ y ∈ l, most < (y.length : Int) := by
        obtain ⟨y, hy, hlt⟩ := hx
        rcases List.mem_cons.1 hy with rfl | hy
        · omega
        · exact ⟨y, hy, hlt⟩
      have hI := ih (a ++ rowL x) b (acc ++ [x]) (by rw [← e2]; exact hb) (by rw [← e2]; exact hl) hx' (fun y hy => hs y (by simp [hy])) (by simp at hn ⊢; omega)
      rw [← e2] at hI
      refine Ev.step step (hB.bind ?_)
      simp only [if_true]
      refine Ev.congr (f := fun k => wire_List.l0 k (a ++ (rowL x ++ ((l.map rowL).flatten ++ b))) ((a ++ rowL x).length : Nat) most (acc ++ [x]) (l.length : Nat)) (fun k => ?_) hI
      rw [if_pos (by simp at hn; omega)]
      congr 1
      · simp
      · rw [show (((x :: l).length : Nat) : Int) - 1 = (l.length : Nat) by simp]
        exact wrap_u64 _ (by simp at hn; omega)
    · rw [bytesL_long a x _ most hsl (by omega)] at hB
      refine Ev.step step (hB.bind ?_)
      exact Ev.now _
/-- What List tells of a list's form: it, or what is refused. -/
theorem ev_list (l : List (List Int)) (many most : Int) (hmany : many ≤ 9223372036854775807) (hmost : most ≤ 9223372036854775807) (hb : Hand.bytes (listL l)) (hl : (listL l).length < 140737488355300) (hn : l.length < 1000000) (hs : ∀ x ∈ l, x.length < 18446744073709551616) :
    ∃ r, Ev (fun k => wire_List.f k (listL l) 0 many most) r ∧ r.2.2 = if (l.length : Int) ≤ many ∧ ∀ x ∈ l, (x.length : Int) ≤ most then 0 else 3 := by
  have u0 : uintL (listL l) 0 = ((l.length : Int), ((formL l.length).length : Int), 0) := by
    have := uintL_form [] ((l.map rowL).flatten) l.length (by omega)
    simpa [listL] using this
  have hU := ev_ruint (listL l) 0 hb
  rw [u0] at hU
  have eL : listL l = formL l.length ++ ((l.map rowL).flatten ++ []) := by simp [listL]
  by_cases h1 : (l.length : Int) ≤ many
  · have main : ∀ r, Ev (fun k => wire_List.l0 k (listL l) ((formL l.length).length : Int) most [] (l.length : Int)) r → Ev (fun k => wire_List.f k (listL l) 0 many most) r := fun r h => by
      unfold wire_List.f
      refine hU.bind ?_
      refine Ev.congr (fun k => ?_) h
      simp only [if_true]
      rw [if_neg (by omega), wrap_of _ (by omega) (by omega), if_neg (by omega)]
    by_cases h2 : ∀ x ∈ l, (x.length : Int) ≤ most
    · have := ev_list_loop most hmost l (formL l.length) [] [] (by rw [← eL]; exact hb) (by rw [← eL]; exact hl) h2 hs (by simp; omega)
      rw [← eL] at this
      exact ⟨_, main _ this, by rw [if_pos ⟨h1, h2⟩]⟩
    · have h3 : ∃ x ∈ l, most < (x.length : Int) := by
        apply Classical.byContradiction
        intro hc
        exact h2 fun x hx => by
          rcases Int.lt_or_le most x.length with h | h
          · exact absurd ⟨x, hx, h⟩ hc
          · exact h
      have := ev_list_long most hmost l (formL l.length) [] [] (by rw [← eL]; exact hb) (by rw [← eL]; exact hl) h3 hs (by simp; omega)
      rw [← eL] at this
      exact ⟨_, main _ this, by rw [if_neg (fun h => h2 h.2)]⟩
  · refine ⟨([], 0, 3), ?_, by rw [if_neg (fun h => h1 h.1)]⟩
    unfold wire_List.f
    refine hU.bind ?_
    refine Ev.congr (f := fun _ => some ([], 0, 3)) (fun k => ?_) (Ev.now _)
    simp only [if_true]
    by_cases h0 : many < 0
    · rw [if_pos h0]
    · rw [if_neg h0, wrap_of _ (by omega) (by omega), if_pos (by omega)]
def longest (l : List (List Int)) (i : Nat) : Int := (l.take i).foldl (fun m x => mx m (x.length : Int)) 0
theorem longest_succ (l : List (List Int)) (i : Nat) (h : i < l.length) : longest l (i + 1) = mx (longest l i) ((rd_L1 l (i : Int)).length : Int) := by
  unfold longest rd_L1
  rw [List.take_succ_eq_append_getElem h, List.foldl_append, Int.toNat_natCast, List.getD_eq_getElem?_getD, List.getElem?_eq_getElem h]
  rfl
theorem mx_le (a b c : Int) : mx a b ≤ c ↔ a ≤ c ∧ b ≤ c := by
  unfold mx
  split <;> omega
theorem longest_le (l : List (List Int)) (m : Int) (hm : 0 ≤ m) : longest l l.length ≤ m ↔ ∀ x ∈ l, (x.length : Int) ≤ m := by
  unfold longest
  rw [List.take_length]
  have key : ∀ (l : List (List Int)) (s : Int), l.foldl (fun m x => mx m (x.length : Int)) s ≤ m ↔ s ≤ m ∧ ∀ x ∈ l, (x.length : Int) ≤ m := by
    intro l
    induction l with
    | nil => intro s; simp
    | cons x l ih =>
      intro s
      rw [List.foldl_cons, ih, mx_le]
      simp [and_assoc]
  rw [key]
  exact ⟨fun h => h.2, fun h => ⟨hm, h⟩⟩
theorem bytes_list {l : List (List Int)} (h : ∀ x ∈ l, Hand.bytes x) (hl : l.length < 18446744073709551616) (h2 : ∀ x ∈ l, x.length < 18446744073709551616) : Hand.bytes (listL l) := by
  refine bytes_append (bytes_form _ hl) fun y hy => ?_
  obtain ⟨z, hz, hyz⟩ := List.mem_flatten.1 hy
  obtain ⟨x, hx, rfl⟩ := List.mem_map.1 hz
  exact bytes_row (h x hx) (h2 x hx) y hyz
theorem le_sum (l : List Nat) (n : Nat) (h : n ∈ l) : n ≤ l.sum := by
  induction l with
  | nil => cases h
  | cons m l ih =>
    rw [List.sum_cons]
    rcases List.mem_cons.1 h with rfl | h
    · omega
    · have := ih h
      omega
theorem size_mem {l : List (List Int)} {x : List Int} (h : x ∈ l) : x.length ≤ sizeL l := by
  unfold sizeL
  have := le_sum (l.map List.length) x.length (List.mem_map.2 ⟨x, h, rfl⟩)
  omega
theorem listL_len (l : List (List Int)) (h : sizeL l ≤ 2000) : (listL l).length ≤ 22000 := by
  have key : ∀ l : List (List Int), (∀ x ∈ l, x.length < 18446744073709551616) → ((l.map rowL).flatten).length ≤ 9 * l.length + (l.map List.length).sum := by
    intro l
    induction l with
    | nil => intro _; simp
    | cons x l ih =>
      intro hx
      have h1 := ih (fun y hy => hx y (by simp [hy]))
      have h2 := formL_len x.length (hx x (by simp))
      simp only [List.map_cons, List.flatten_cons, List.length_append, List.sum_cons, List.length_cons, rowL]
      omega
  have h1 := key l (fun x hx => by have := size_mem hx; omega)
  unfold sizeL at h
  have h2 := formL_len l.length (by omega)
  simp only [listL, List.length_append]
  omega

theorem ev_tail (l : List (List Int)) (most : Int) (hmost : most ≤ 9223372036854775807) (hb : ∀ x ∈ l, Hand.bytes x) (hs : ∀ x ∈ l, x.length ≤ 1000000) (hl : l.length ≤ 1000000) : Ev (fun k => murmurationlaw03_WireBounds.l1 k l most (l.length : Int) 0) true := by
  have key : ∀ (d i : Nat), i + d = l.length → Ev (fun k => murmurationlaw03_WireBounds.l1 k l most (l.length : Int) (i : Int)) true := by
    intro d
    induction d with
    | zero =>
      intro i hi
      refine Ev.step (f := fun _ => some true) (fun k => ?_) (Ev.now _)
      simp only [murmurationlaw03_WireBounds.l1]
      rw [if_neg (by omega)]
      rfl
    | succ d ih =>
      intro i hi
      have hlt : i < l.length := by omega
      have hx : rd_L1 l (i : Int) ∈ l := by
        unfold rd_L1
        rw [Int.toNat_natCast, List.getD_eq_getElem?_getD, List.getElem?_eq_getElem hlt]
        exact List.getElem_mem hlt
      have h1 := hs _ hx
      have h2 := hb _ hx
      refine Ev.step (fun k => by simp only [murmurationlaw03_WireBounds.l1]; rw [if_pos (by omega), if_pos (by omega), if_pos (by omega)]) ?_
      refine (ev_abytes [] (rd_L1 l (i : Int)) (by simp; omega)).bind ?_
      simp only [List.nil_append]
      have hbb := bytes_row h2 (by omega)
      have hlen : (rowL (rd_L1 l (i : Int))).length < 140737488355300 := by
        have := formL_len (rd_L1 l (i : Int)).length (by omega)
        simp only [rowL, List.length_append]
        omega
      refine (ev_rbytes (rowL (rd_L1 l (i : Int))) 0 most hbb hlen hmost).bind ?_
      have e0 : rowL (rd_L1 l (i : Int)) = [] ++ (rowL (rd_L1 l (i : Int)) ++ []) := by simp
      have he : (((bytesL (rowL (rd_L1 l (i : Int))) 0 most).2.2 == 0) != (decide (((rd_L1 l (i : Int)).length : Int) ≤ most))) = false := by
        by_cases hm : ((rd_L1 l (i : Int)).length : Int) ≤ most
        · have := bytesL_row [] (rd_L1 l (i : Int)) [] most (by omega) hm
          rw [← e0] at this
          have h3 : bytesL (rowL (rd_L1 l (i : Int))) 0 most = _ := this
          rw [h3]
          simp [hm]
        · have := bytesL_long [] (rd_L1 l (i : Int)) [] most (by omega) (by omega)
          rw [← e0] at this
          have h3 : bytesL (rowL (rd_L1 l (i : Int))) 0 most = _ := this
          rw [h3]
          simp [hm]
      refine Ev.congr (fun k => by rw [he]) ?_
      refine Ev.congr (f := fun k => murmurationlaw03_WireBounds.l1 k l most (l.length : Int) ((i + 1 : Nat) : Int)) (fun k => ?_) (ih (i + 1) (by omega))
      rw [if_neg (by simp)]
      congr 1
      unfold wrap64
      omega
  exact key l.length 0 (by omega)
/-- The pure law of WireBounds. -/
theorem bounds (l : List (List Int)) (many most : Int) (hmany : many ≤ 9223372036854775807) (hmost : most ≤ 9223372036854775807) (hb : ∀ x ∈ l, Hand.bytes x) (h3 : sizeL l ≤ 140737488355232) : Ev (fun k => murmurationlaw03_WireBounds.f k l many most) true := by
  unfold murmurationlaw03_WireBounds.f
  refine (ev_size l (by omega)).bind ?_
  by_cases hbig : sizeL l > 1000
  · refine Ev.congr (f := fun _ => some true) (fun k => ?_) (Ev.now _)
    rw [if_pos (by omega)]
    rfl
  have hL := listL_len l (by omega)
  have hs : ∀ x ∈ l, x.length ≤ 1000 := fun x hx => by have := size_mem hx; omega
  have hl : l.length ≤ 1000 := by unfold sizeL at hbig; omega
  have hbl : Hand.bytes (listL l) := bytes_list hb (by omega) (fun x hx => by have := hs x hx; omega)
  refine Ev.congr (fun k => by rw [if_neg (by omega)]) ?_
  have key : ∀ (d i : Nat), i + d = l.length → Ev (fun k => murmurationlaw03_WireBounds.l0 k l many most (longest l i) (l.length : Int) (i : Int)) true := by
    intro d
    induction d with
    | succ d ih =>
      intro i hi
      refine Ev.step (f := fun k => murmurationlaw03_WireBounds.l0 k l many most (longest l (i + 1)) (l.length : Int) ((i + 1 : Nat) : Int)) (fun k => ?_) (ih (i + 1) (by omega))
      simp only [murmurationlaw03_WireBounds.l0]
      rw [if_pos (by omega), if_pos (by omega), if_pos (by omega), longest_succ l i (by omega)]
      congr 1
      unfold wrap64
      omega
    | zero =>
      intro i hi
      obtain rfl : i = l.length := by omega
      refine Ev.step (fun k => by simp only [murmurationlaw03_WireBounds.l0]; rw [if_neg (by omega)]) ?_
      refine (ev_alist [] l (by simp; omega) (by omega)).bind ?_
      simp only [List.nil_append]
      obtain ⟨r, hr, he⟩ := ev_list l many most hmany hmost hbl (by omega) (by omega) (fun x hx => by have := hs x hx; omega)
      refine hr.bind ?_
      have fin : ∀ b : Bool, b = decide ((l.length : Int) ≤ many ∧ ∀ x ∈ l, (x.length : Int) ≤ most) → Ev (fun k => murmurationlaw03_WireBounds.j1 k l most r.2.2 b) true := by
        intro b hbv
        have hz : ((r.2.2 == 0) != b) = false := by
          rw [hbv, he]
          by_cases hc : (l.length : Int) ≤ many ∧ ∀ x ∈ l, (x.length : Int) ≤ most
          · rw [if_pos hc, decide_eq_true hc]; rfl
          · rw [if_neg hc, decide_eq_false hc]; rfl
        have h3 : r.2.2 = 0 ∨ r.2.2 = 3 := by rw [he]; split <;> simp
        have hj2 : Ev (fun k => murmurationlaw03_WireBounds.j2 k l most false) true := by
          refine Ev.step (fun k => by simp only [murmurationlaw03_WireBounds.j2]; rw [if_neg (by simp)]) ?_
          exact ev_tail l most hmost hb (fun x hx => by have := hs x hx; omega) (by omega)
        refine Ev.step (f := fun k => murmurationlaw03_WireBounds.j2 k l most false) (fun k => ?_) hj2
        simp only [murmurationlaw03_WireBounds.j1]
        rw [hz, if_neg (by simp)]
        rcases h3 with h3 | h3
        · rw [if_pos h3]
        · rw [if_neg (by omega), h3]
          rfl
      by_cases h1 : (l.length : Int) ≤ many
      · refine Ev.congr (fun k => by rw [if_pos h1]) ?_
        by_cases h2 : (l.length : Int) = 0
        · refine Ev.congr (fun k => by rw [if_pos h2]) (fin true ?_)
          have : l = [] := List.length_eq_zero_iff.1 (by omega)
          subst this
          simp at h1 ⊢
          omega
        · refine Ev.congr (fun k => by rw [if_neg h2]) (fin _ ?_)
          have hne : ∃ x, x ∈ l := by
            cases l with
            | nil => simp at h2
            | cons x l => exact ⟨x, by simp⟩
          rw [decide_eq_decide]
          constructor
          · intro h
            refine ⟨h1, ?_⟩
            have h0 : 0 ≤ longest l l.length := by
              unfold longest
              rw [List.take_length]
              have key : ∀ (l : List (List Int)) (s : Int), s ≤ l.foldl (fun m x => mx m (x.length : Int)) s := by
                intro l
                induction l with
                | nil => intro s; simp
                | cons x l ih => intro s; exact Int.le_trans (show s ≤ mx s (x.length : Int) by unfold mx; split <;> omega) (ih _)
              exact key l 0
            exact (longest_le l most (by omega)).1 h
          · rintro ⟨_, h⟩
            obtain ⟨x, hx⟩ := hne
            have := h x hx
            exact (longest_le l most (by omega)).2 h
      · refine Ev.congr (fun k => by rw [if_neg h1]) (fin false ?_)
        rw [decide_eq_false (fun h => h1 h.1)]
  exact key l.length 0 (by omega)
theorem bytes_wf {l : List Int} (h : ∀ x ∈ l, (Lit.int .u8 x).wf = true) : Hand.bytes l := fun x hx => by
  have := bounds_u8 (h x hx)
  omega
theorem sum_one (l : List Int) : (l.map fun _ => 1).sum = l.length := by
  induction l with
  | nil => rfl
  | cons x l ih => simp only [List.map_cons, List.sum_cons, ih, List.length_cons]; omega
def blkB (l : List Int) : Nat := (l.map fun _ => 1).sum + 1
theorem size_le (l : List (List Int)) : sizeL l ≤ (l.map blkB).sum := by
  unfold sizeL
  induction l with
  | nil => simp
  | cons x l ih =>
    have : blkB x = x.length + 1 := by unfold blkB; rw [sum_one]
    simp only [List.map_cons, List.sum_cons, List.length_cons]
    omega

theorem wireBounds_walk (a0 : Option Addr) (c0 : Nat) (x0 : List (List Int)) (a1 a2 : Int) (w : World)
    (C0 : Kd.C (Kd.slice 5 B) w a0 x0.length x0) (l0 : x0.length ≤ c0) (k0 : ∀ l ∈ x0, ∀ x ∈ l, (Lit.int .u8 x).wf = true) (k1 : (Lit.int .i64 a1).wf = true) (k2 : (Lit.int .i64 a2).wf = true)
    (hb : ((x0.map fun xs => (xs.map fun _ => 1).sum + 1).sum + 1) + 1 + 1 ≤ 1048576) :
    Calls Try.prog 7 #[.slice a0 x0.length c0, .int .i64 a1, .int .i64 a2] w fun e w' => e = .returned (.bool true) ∧ Below w.heap.size w w' := by
  have b1 := bounds_i64 k1
  have b2 := bounds_i64 k2
  have e3 : sizeL x0 ≤ (x0.map fun xs => (xs.map fun _ => 1).sum + 1).sum := size_le x0
  obtain ⟨k, h⟩ := (bounds x0 a1 a2 (by omega) (by omega) (fun x hx => bytes_wf (k0 x hx)) (by omega)).rounds
  refine (murmurationlaw03_WireBounds.calls k a0 c0 x0 a1 a2 true w C0 l0 h).mono ?_
  rintro e w' ⟨rfl, hd⟩
  exact ⟨rfl, hd⟩
end Go.Proofs.Ytekhejpkmlhllaa.Bounds
