/- What calls of Go functions of this seat come to, as the rows need it: under the conditions that each theorem names. -/
import Derived.Test.YtekhejpkmlhllaaReadsPure
namespace Go.Proofs.Ytekhejpkmlhllaa.Reads
open Go.RowKit Go.Proofs.YtekhejpkmlhllaaW.PrintWords Go.Proofs.YtekhejpkmlhllaaW.PrintLast Go.Proofs.YtekhejpkmlhllaaW.PrintMore
set_option linter.unusedVariables false
set_option linter.unusedSimpArgs false
open Go.Proofs.Ytekhejpkmlhllaa.MWireReads Go.Proofs.Ytekhejpkmlhllaa.Hand
/-- A block of bytes, whatever bytes. -/
def Blk (w : World) (g n : Nat) : Prop := ∃ cur : Array Value, w.heap[g]? = some (.cells cur 5 (0, 0)) ∧ ∀ j, j < n → ∃ y : Int, cur[j]? = some (.int .u8 y)
/-- A slice of bytes in a block of its own behind base. -/
def PB (w : World) (A : Option Addr) (n base : Nat) : Prop := n ≤ 9223372036854775807 ∧ (0 < n → ∃ b, A = some ⟨b, 0, none⟩ ∧ base ≤ b ∧ Blk w b n)
/-- A block of rows of bytes, each in a block of its own kind behind base. -/
def Rws (w : World) (g n base : Nat) : Prop := ∃ cur : Array Value, w.heap[g]? = some (.cells cur 23 (0, 0)) ∧ ∀ k, k < n → ∃ A len c, cur[k]? = some (.slice A len c) ∧ PB w A len base
def PR (w : World) (A : Option Addr) (n base : Nat) : Prop := n ≤ 9223372036854775807 ∧ (0 < n → ∃ g, A = some ⟨g, 0, none⟩ ∧ Rws w g n base)
theorem Blk.set {w : World} {g n b m : Nat} (h : Blk w g n) (hb : Blk w b m) (j : Nat) (y : Int) : Blk (w.setCell ⟨b, j, none⟩ (.int .u8 y)) g n := by
  obtain ⟨cur, h1, h2⟩ := h
  by_cases e : g = b
  · subst e
    refine ⟨_, blk_set h1 j _, fun i hi => ?_⟩
    obtain ⟨z, hz⟩ := h2 i hi
    by_cases hij : j = i
    · subst hij
      exact ⟨y, by rw [Array.getElem?_setIfInBounds_self_of_lt (Array.getElem?_eq_some_iff.1 hz).1]⟩
    · exact ⟨z, by rw [Array.getElem?_setIfInBounds_ne hij]; exact hz⟩
  · exact ⟨cur, blk_far h1 (p := ⟨b, j, none⟩) e _, h2⟩
theorem PB.set {w : World} {A : Option Addr} {n base b m : Nat} (h : PB w A n base) (hb : Blk w b m) (j : Nat) (y : Int) : PB (w.setCell ⟨b, j, none⟩ (.int .u8 y)) A n base :=
  ⟨h.1, fun hp => by obtain ⟨g, e1, e2, e3⟩ := h.2 hp; exact ⟨g, e1, e2, e3.set hb j y⟩⟩
theorem Rws.set {w : World} {g n base b m : Nat} (h : Rws w g n base) (hb : Blk w b m) (j : Nat) (y : Int) : Rws (w.setCell ⟨b, j, none⟩ (.int .u8 y)) g n base := by
  obtain ⟨cur, h1, h2⟩ := h
  have hne : g ≠ b := by
    rintro rfl
    obtain ⟨cur', h3, _⟩ := hb
    rw [h1] at h3
    simp at h3
  refine ⟨cur, blk_far h1 (p := ⟨b, j, none⟩) hne _, fun k hk => ?_⟩
  obtain ⟨A, len, c, e1, e2⟩ := h2 k hk
  exact ⟨A, len, c, e1, e2.set hb j y⟩
theorem PR.set {w : World} {A : Option Addr} {n base b m : Nat} (h : PR w A n base) (hb : Blk w b m) (j : Nat) (y : Int) : PR (w.setCell ⟨b, j, none⟩ (.int .u8 y)) A n base :=
  ⟨h.1, fun hp => by obtain ⟨g, e1, e2⟩ := h.2 hp; exact ⟨g, e1, e2.set hb j y⟩⟩
theorem cell_of {w : World} {g : Nat} {cur : Array Value} {t : TypeId} (h : w.heap[g]? = some (.cells cur t (0, 0))) {j : Nat} {u : Value} : w.cell? ⟨g, j, none⟩ = some u ↔ cur[j]? = some u := by
  simp [World.cell?, h]
theorem Blk.cell {w : World} {g n : Nat} (h : Blk w g n) (j : Nat) (hj : j < n) : ∃ y : Int, w.cell? ⟨g, j, none⟩ = some (.int .u8 y) ∧ w.frozen? ⟨g, j, none⟩ = false := by
  obtain ⟨cur, h1, h2⟩ := h
  obtain ⟨y, hy⟩ := h2 j hj
  exact ⟨y, (cell_of h1).2 hy, by simp [World.frozen?, h1]⟩
theorem Blk.of {w : World} {base : Nat} {ok : Nat → Prop} {v : Value} {xs : List Int} (h : Kd.R B 5 w base ok v xs) (hp : 0 < xs.length) : ∃ g cap, v = .slice (some ⟨g, 0, none⟩) xs.length cap ∧ base ≤ g ∧ Blk w g xs.length := by
  obtain ⟨g, cap, rfl, hb, _, cells, hc⟩ := Kd.R_form h hp
  refine ⟨g, cap, rfl, hb, cells, hc, fun j hj => ?_⟩
  obtain ⟨ad, e, hx⟩ := getB (Kd.R_reads' h).2.2 j hj
  injection e with e
  subst e
  rw [show (Addr.mk g 0 none).add j = ⟨g, j, none⟩ by simp [Addr.add_lit]] at hx
  exact ⟨_, (cell_of hc).1 hx⟩
theorem Rws.of {w : World} {base : Nat} {ok : Nat → Prop} {v : Value} {xs : List (List Int)} (h : Kd.S (Kd.slice 5 B) 23 w base ok v xs) (hp : 0 < xs.length) : ∃ g cap, v = .slice (some ⟨g, 0, none⟩) xs.length cap ∧ base ≤ g ∧ Rws w g xs.length base := by
  obtain ⟨g, cap, rfl, hb, _, cells, hc⟩ := Kd.S_form h hp
  refine ⟨g, cap, rfl, hb, cells, hc, fun k hk => ?_⟩
  obtain ⟨c, _, hM, hcc⟩ := Kd.R_getA (Kd.S_R h) ([] : List Int) (k : Int) (by omega) (by omega)
  obtain ⟨v, rfl, hv⟩ := hM
  have hx := hcc 0 v rfl
  rw [show (Addr.mk g 0 none).add ((k : Int).toNat * (Kd.slice 5 B).sz + 0) = ⟨g, k, none⟩ by simp [Addr.add_lit, Kd.slice]] at hx
  have hx2 := (cell_of hc).1 hx
  obtain ⟨A, c, rfl, _, hC⟩ := Kd.R_reads hv
  refine ⟨A, _, c, hx2, hC.2.1, fun hp2 => ?_⟩
  obtain ⟨b, cap2, e, hb2, hB⟩ := Blk.of hv hp2
  injection e with e1 e2 e3
  exact ⟨b, e1, hb2, hB⟩
theorem PB.of {w : World} {base : Nat} {ok : Nat → Prop} {A : Option Addr} {n c : Nat} {xs : List Int} (h : Kd.R B 5 w base ok (.slice A n c) xs) : PB w A n base := by
  obtain ⟨rfl, _, hC⟩ := Kd.R_reads' h
  refine ⟨hC.2.1, fun hp => ?_⟩
  obtain ⟨b, cap, e, hb, hB⟩ := Blk.of h hp
  injection e with e1 e2 e3
  exact ⟨b, e1, hb, hB⟩
theorem PR.of {w : World} {base : Nat} {ok : Nat → Prop} {A : Option Addr} {n c : Nat} {xs : List (List Int)} (h : Kd.S (Kd.slice 5 B) 23 w base ok (.slice A n c) xs) : PR w A n base := by
  obtain ⟨rfl, _, hC⟩ := Kd.S_reads' h
  refine ⟨hC.2.1, fun hp => ?_⟩
  obtain ⟨b, cap, e, _, hB⟩ := Rws.of h hp
  injection e with e1 e2 e3
  exact ⟨b, e1, hB⟩
theorem drawn_below {w w' : World} (h : Drawn0 w w') : Below w.heap.size w w' := by
  obtain ⟨n, rfl⟩ := h
  exact pw_below_drewN (Below.refl _ _) n
set_option maxHeartbeats 3200000 in
set_option maxRecDepth 100000 in
theorem wireReads_calls (A0 : Option Addr) (c0 : Nat) (l0 : List Int) (at_ many most : Int) (w : World) (hr0 : B.C w A0 l0.length l0) (hc0 : l0.length ≤ c0) (hb : Hand.bytes l0) (hy : many ≤ 9223372036854775807) (hm : most ≤ 9223372036854775807) :
    Calls Try.prog 5 #[.slice A0 l0.length c0, .int .i64 at_, .int .i64 many, .int .i64 most] w fun e w' => e = .returned (.bool true) ∧ Below w.heap.size w w' := by
  have HR := Aside0.mk hr0
  have hlen : l0.length ≤ 9223372036854775807 := hr0.2.1
  clear hr0
  by_cases hbig : 2000 < l0.length
  · have hb1 : decide ((l0.length : Int) > 2000) = true := decide_eq_true (by omega)
    go_enter Try.func5, Try.ntmps5
    go_wp2_with fail
    refine (known_calls _).mono ?_
    rintro e w' ⟨rfl, hb⟩
    go_wp2
    go_ret
    exact ⟨rfl, hb⟩
  have hb1 : decide ((l0.length : Int) > 2000) = false := decide_eq_false (by omega)
  have hl2 : l0.length ≤ 2000 := by omega
  obtain ⟨K1, G1⟩ := (ev_ruint l0 at_ hb).rounds
  obtain ⟨K2, G2⟩ := (ev_refuint l0 at_ hb hl2).rounds
  obtain ⟨K3, G3⟩ := (ev_rbytes l0 at_ most hb (by omega) hm).rounds
  obtain ⟨K4, G4⟩ := (ev_refbytes l0 at_ most hb hl2 hm).rounds
  obtain ⟨r, E5, E6⟩ := ev_lists l0 at_ many most hb hl2 hy hm
  obtain ⟨K5, G5⟩ := E5.rounds
  obtain ⟨K6, G6⟩ := E6.rounds
  generalize uintL l0 at_ = u at G1 G2
  generalize bytesL l0 at_ most = b at G3 G4
  obtain ⟨u1, u2, u3⟩ := u
  obtain ⟨b1, b2, b3⟩ := b
  obtain ⟨r1, r2, r3⟩ := r
  have hB1 : B.C w A0 l0.length l0 := HR.out
  go_enter Try.func5, Try.ntmps5
  clear hB1
  go_wp2_with (first | ((with_reducible refine gate_dst (N := 36) rfl ?_); refine Kd.R_lit B (w0 := w) w.heap.size 5 ?hg (N := 36) ?hd (xs := ([] : List Int)) (inner := []) (ok := fun _ => True) (okp := fun _ => True) ?hr ?hp (fun _ hk => hk) trivial (Below.refl _ _) (Nat.le_refl _) (by simp) ?_; (case hd => rfl); (case hg => rfl); (case hr => first | (go_simp; done) | (go_simp; rfl)); (case hp => exact Reps.none _ _); intro v1 w1 ho hb1 hg hnew; have HO := Aside0.mk ho; have HB1 := Aside0.mk hb1; clear ho hb1 hg hnew) | ((with_reducible refine gate_builtin (b := .append) (xs := #[.tmp 36, .tmp 37]) rfl ?_); at_builtin; refine Kd.R_append_rows B (w0 := w) w.heap.size rfl (.tmp 36) (.tmp 37) 23 5 (.int .u8 0) 1 rfl Try.underlying23 Hand.info5 rfl (by decide) (by omega) _ [] l0 _ _ _ (fun _ => True) (fun _ => False) rfl rfl HO.out (Kd.C_below HR.out HB1.out) (fun _ _ h => h) (fun _ h => h.elim) (fun _ _ => trivial) HB1.out (HB1.out.size) ?aL ?_; (case aL => simp; omega); intro v2 w2 ho hb2 hg hat; rw [List.nil_append] at ho; have HO2 := Aside0.mk ho; have HB := Aside0.mk hb2; obtain ⟨A9, c9, hv9, hc9, hr9⟩ := Kd.R_reads ho; subst hv9; have HR9 := Aside0.mk hr9; clear ho hb2 hg hat HO HB1 hr9))
  refine (wire_Uint.calls K1 _ _ l0 at_ u1 u2 u3 _ HR9.out hc9 G1).mono ?_
  rintro e w3 ⟨rfl, hd⟩
  have HB3 := Aside0.mk (below_step HB.out (drawn_below hd))
  have HN3 := Aside0.mk (drawn_below hd)
  clear hd
  go_wp2_with fail
  refine (murmurationref03_Uint.calls K2 _ _ l0 at_ u1 u2 u3 _ (Kd.C_below HR.out HB3.out) hc0 G2).mono ?_
  rintro e w4 ⟨rfl, hd⟩
  have HB4 := Aside0.mk (below_step HB3.out (drawn_below hd))
  have HN4 := Aside0.mk (below_step HN3.out (drawn_below hd))
  clear hd HB3 HN3
  go_wp2_with fail
  refine (wire_Bytes.calls K3 _ _ l0 at_ most b1 b2 b3 _ (Kd.C_below HR9.out HN4.out) hc9 G3).mono ?_
  rintro e w5 ⟨v16, rfl, ho, hb⟩
  have HB5 := Aside0.mk (below_step HB4.out hb)
  have HN5 := Aside0.mk (below_step HN4.out hb)
  have HV16 := Aside0.mk (Kd.R_lower ho HN4.out.size)
  clear hb ho HB4 HN4
  go_wp2_with fail
  refine (murmurationref03_Bytes.calls K4 _ _ l0 at_ most b1 b2 b3 _ (Kd.C_below HR.out HB5.out) hc0 G4).mono ?_
  rintro e w6 ⟨v19, rfl, ho, hb⟩
  have HB6 := Aside0.mk (below_step HB5.out hb)
  have HN6 := Aside0.mk (below_step HN5.out hb)
  have HV19 := Aside0.mk ho
  replace HV16 := Aside0.mk (Kd.R_below HV16.out hb)
  clear hb ho HB5 HN5
  go_wp2_with fail
  refine (wire_List.calls K5 _ _ l0 at_ many most r1 r2 r3 _ (Kd.C_below HR9.out HN6.out) hc9 G5).mono ?_
  rintro e w7 ⟨v22, rfl, ho, hb⟩
  have HB7 := Aside0.mk (below_step HB6.out hb)
  have HN7 := Aside0.mk (below_step HN6.out hb)
  have HV22 := Aside0.mk (Kd.S_lower ho HN6.out.size)
  replace HV16 := Aside0.mk (Kd.R_below HV16.out hb)
  replace HV19 := Aside0.mk (Kd.R_below HV19.out hb)
  clear hb ho HB6 HN6
  go_wp2_with fail
  refine (murmurationref03_List.calls K6 _ _ l0 at_ many most r1 r2 r3 _ (Kd.C_below HR.out HB7.out) hc0 G6).mono ?_
  rintro e w8 ⟨v25, rfl, ho, hb⟩
  have HB8 := Aside0.mk (below_step HB7.out hb)
  have HN8 := Aside0.mk (below_step HN7.out hb)
  have HV25 := Aside0.mk ho
  replace HV16 := Aside0.mk (Kd.R_below HV16.out hb)
  replace HV19 := Aside0.mk (Kd.R_below HV19.out hb)
  replace HV22 := Aside0.mk (Kd.S_below HV22.out hb)
  clear hb ho HB7 HN7
  clear G1 G2 G3 G4 G5 G6 E5 E6
  obtain ⟨A16, c16, hv16, hc16, hr16⟩ := Kd.R_reads HV16.out
  obtain ⟨A19, c19, hv19, hc19, hr19⟩ := Kd.R_reads HV19.out
  obtain ⟨A22, c22, hv22, hc22, hr22⟩ := Kd.S_reads HV22.out
  obtain ⟨A25, c25, hv25, hc25, hr25⟩ := Kd.S_reads HV25.out
  subst hv16 hv19 hv22 hv25
  have HR22 := Aside0.mk hr22
  have HR25 := Aside0.mk hr25
  have hs16 : (convert 23 9 (.slice A16 b1.length c16)).run Try.prog w8 = .ok (.string (strOfNums b1)) w8 := Kd.C_string Try.underlying23 Try.underlying5 Try.underlying9 hr16
  have hs19 : (convert 23 9 (.slice A19 b1.length c19)).run Try.prog w8 = .ok (.string (strOfNums b1)) w8 := Kd.C_string Try.underlying23 Try.underlying5 Try.underlying9 hr19
  have hn16 : b1.length ≤ 9223372036854775807 := hr16.2.1
  have hn22 : r1.length ≤ 9223372036854775807 := hr22.2.1
  clear hr16 hr19 hr22 hr25
  go_wp2_with fail
  refine (same_calls _ _ r1 _ _ r1 _ HR22.out hc22 HR25.out hc25).mono ?_
  rintro e w9 ⟨rfl, hd⟩
  rw [sameL_refl]
  have HB9 := Aside0.mk (below_step HB8.out (drawn_below hd))
  have HN9 := Aside0.mk (below_step HN8.out (drawn_below hd))
  replace HV16 := Aside0.mk (Kd.R_below HV16.out (drawn_below hd))
  replace HV22 := Aside0.mk (Kd.S_below HV22.out (drawn_below hd))
  clear hd HB8 HN8 HR22 HR25 HV19 HV25 hs16 hs19
  have HP := Aside0.mk (PB.of HV16.out)
  have HQ := Aside0.mk (PR.of HV22.out)
  clear HV16 HV22
  go_wp2
  go_loopw [135] (fun i wr => ∃ k : Nat, k ≤ b1.length ∧ i = .int .i64 k ∧ Aside0 (Below w.heap.size w wr) ∧ Aside0 (Below w2.heap.size w2 wr) ∧ Aside0 (PB wr A16 b1.length w2.heap.size) ∧ Aside0 (PR wr A22 r1.length w2.heap.size)) (fun i _ => b1.length - (intOf i).toNat)
  case atStart => exact ⟨0, Nat.zero_le _, rfl, HB9, HN9, HP, HQ⟩
  case round =>
    clear HB9 HN9 HP HQ
    obtain ⟨k, hk, rfl, HB1, HN1, HP, HQ⟩ := hrel
    by_cases hlt : k < b1.length
    · obtain ⟨g, rfl, hg, hblk⟩ := HP.out.2 (by omega)
      obtain ⟨y, hx, hf⟩ := hblk.cell k hlt
      have HK := Aside0.mk hblk
      have hgw : w.heap.size ≤ g := Nat.le_trans HB.out.size hg
      clear hblk
      go_wp2
      go_roundw
      case rel => exact ⟨k + 1, by omega, by go_num, ⟨HB1.out.setCell hgw _⟩, ⟨HN1.out.setCell hg _⟩, ⟨HP.out.set HK.out k _⟩, ⟨HQ.out.set HK.out k _⟩⟩
      case measure => simp [intOf]; omega
    · obtain rfl : k = b1.length := by omega
      clear hlt hk HP
      go_wp2
      go_loopw [147] (fun i wr => ∃ k : Nat, k ≤ r1.length ∧ i = .int .i64 k ∧ Aside0 (Below w.heap.size w wr) ∧ Aside0 (Below w2.heap.size w2 wr) ∧ Aside0 (PR wr A22 r1.length w2.heap.size)) (fun i _ => r1.length - (intOf i).toNat)
      case atStart => exact ⟨0, Nat.zero_le _, rfl, HB1, HN1, HQ⟩
      case round =>
        clear HB1 HN1 HQ
        obtain ⟨k, hk, rfl, HB1, HN1, HQ⟩ := hrel
        by_cases hlt : k < r1.length
        · obtain ⟨g, rfl, hR⟩ := HQ.out.2 (by omega)
          obtain ⟨cur, hc, hrow⟩ := hR
          obtain ⟨A, len, c, hx0, hpb⟩ := hrow k hlt
          have hx := (cell_of hc).2 hx0
          have hlen2 : len ≤ 9223372036854775807 := hpb.1
          have HP := Aside0.mk hpb
          clear hpb hx0 hrow hc
          go_wp2
          go_loopw [153] (fun i wr => ∃ j : Nat, j ≤ len ∧ i = .int .i64 j ∧ Aside0 (Below w.heap.size w wr) ∧ Aside0 (Below w2.heap.size w2 wr) ∧ Aside0 (PB wr A len w2.heap.size) ∧ Aside0 (PR wr (some ⟨g, 0, none⟩) r1.length w2.heap.size)) (fun i _ => len - (intOf i).toNat)
          case atStart => exact ⟨0, Nat.zero_le _, rfl, HB1, HN1, HP, HQ⟩
          case round =>
            clear HB1 HN1 HP HQ hx
            obtain ⟨j, hj, rfl, HB1, HN1, HP, HQ⟩ := hrel
            by_cases hlt2 : j < len
            · obtain ⟨b, rfl, hg, hblk⟩ := HP.out.2 (by omega)
              obtain ⟨y, hx, hf⟩ := hblk.cell j hlt2
              have HK := Aside0.mk hblk
              have hgw : w.heap.size ≤ b := Nat.le_trans HB.out.size hg
              clear hblk
              go_wp2
              go_roundw
              case rel => exact ⟨j + 1, by omega, by go_num, ⟨HB1.out.setCell hgw _⟩, ⟨HN1.out.setCell hg _⟩, ⟨HP.out.set HK.out j _⟩, ⟨HQ.out.set HK.out j _⟩⟩
              case measure => simp [intOf]; omega
            · obtain rfl : j = len := by omega
              clear hlt2 hj
              go_wp2
              go_roundw
              case rel => exact ⟨k + 1, by omega, by go_num, HB1, HN1, HQ⟩
              case measure => simp [intOf]; omega
        · obtain rfl : k = r1.length := by omega
          clear hlt hk HQ
          have h9 : (convert 23 9 (.slice A9 l0.length c9)).run Try.prog wr = .ok (.string (strOfNums l0)) wr := Kd.C_string Try.underlying23 Try.underlying5 Try.underlying9 (Kd.C_below HR9.out HN1.out)
          have h0 : (convert 23 9 (.slice A0 l0.length c0)).run Try.prog wr = .ok (.string (strOfNums l0)) wr := Kd.C_string Try.underlying23 Try.underlying5 Try.underlying9 (Kd.C_below HR.out HB1.out)
          go_wp2_with fail
          refine (known_calls _).mono ?_
          rintro e w10 ⟨rfl, hbk⟩
          go_wp2
          go_ret
          exact ⟨rfl, below_step HB1.out hbk⟩
theorem reads_wf {l : List Int} (h : ∀ x ∈ l, (Lit.int .u8 x).wf = true) : Hand.bytes l := fun x hx => by
  have := bounds_u8 (h x hx)
  omega
theorem wireReads_walk (a0 : Option Addr) (c0 : Nat) (x0 : List Int) (a1 a2 a3 : Int) (w : World)
    (C0 : B.C w a0 x0.length x0) (l0 : x0.length ≤ c0) (k0 : ∀ x ∈ x0, (Lit.int .u8 x).wf = true) (k1 : (Lit.int .i64 a1).wf = true) (k2 : (Lit.int .i64 a2).wf = true) (k3 : (Lit.int .i64 a3).wf = true) :
    Calls Try.prog 5 #[.slice a0 x0.length c0, .int .i64 a1, .int .i64 a2, .int .i64 a3] w fun e w' => e = .returned (.bool true) ∧ Below w.heap.size w w' := by
  have b2 := bounds_i64 k2
  have b3 := bounds_i64 k3
  exact wireReads_calls a0 c0 x0 a1 a2 a3 w C0 l0 (reads_wf k0) (by omega) (by omega)
end Go.Proofs.Ytekhejpkmlhllaa.Reads
