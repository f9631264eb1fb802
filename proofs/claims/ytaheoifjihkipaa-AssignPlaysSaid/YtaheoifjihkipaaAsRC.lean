/- What calls of Go functions of this seat come to, as the rows need it: under the conditions that each theorem names. -/
import Derived.Test.YtaheoifjihkipaaAsRB
namespace Go.Proofs.Ytaheoifjihkipaa.As
open Go.RowKit Go.Proofs.YtaheoifjihkipaaW.PrintWords Go.Proofs.YtaheoifjihkipaaW.PrintLast Go.Proofs.YtaheoifjihkipaaW.PrintMore
set_option linter.unusedVariables false
set_option linter.unusedSimpArgs false
theorem cmp3_fst {x y : U} (h : x.1 ≠ y.1) : (cmp3 x y < 0) ↔ x.1 < y.1 := by
  unfold cmp3 cmpI
  by_cases h1 : x.1 < y.1
  · simp [h1]
  · have h2 : y.1 < x.1 := by omega
    simp [h1, h2]
theorem cmp3_snd {x y : U} (h : x.1 = y.1) (h2 : x.2.1 ≠ y.2.1) : (cmp3 x y < 0) ↔ x.2.1 < y.2.1 := by
  unfold cmp3 cmpI
  rw [h]
  by_cases h1 : x.2.1 < y.2.1
  · simp [h1]
  · have h3 : y.2.1 < x.2.1 := by omega
    simp [h1, h3]
theorem cmp3_trd {x y : U} (h : x.1 = y.1) (h2 : x.2.1 = y.2.1) : (cmp3 x y < 0) ↔ x.2.2 < y.2.2 := by
  unfold cmp3 cmpI
  rw [h, h2]
  by_cases h1 : x.2.2 < y.2.2
  · simp [h1]
  · by_cases h3 : y.2.2 < x.2.2
    · simp [h1, h3]
    · simp [h1, h3]
def betB (S : Nat → U) (D : Nat → Int) (T : Nat → Nat → Int) (n i k b : Nat) : Bool := decide (cmp3 (ownF S D T n i k) (ownF S D T n i b) < 0)
theorem RPl.drewN {w : World} {r : Nat} {L : Nat → Nat} {n m c0 c1 c2 c4 : Nat} {win tm : Int} {S : Nat → U} {D : Nat → Int} {T : Nat → Nat → Int} (h : RPl w r L n m c0 c1 c2 c4 win tm S D T) (q : Nat) : RPl (w.drewN q) r L n m c0 c1 c2 c4 win tm S D T := h.keep rfl (fun _ _ _ => rfl)
theorem rload_at {r : Nat} {L : Nat → Nat} {n m c0 c1 c2 c4 : Nat} {win tm : Int} {S : Nat → U} {D : Nat → Int} {T : Nat → Nat → Int} {x : Nat} (k : Int) (w : World) (h : RPl w r L n m c0 c1 c2 c4 win tm S D T) (hx : loadF S k n = x) :
    Calls Try.prog 35 #[.pointer (some ⟨r, 0, none⟩), .int .i64 k] w fun e w' => e = .returned (.int .i64 (x : Nat)) ∧ w' = w := by
  subst hx
  exact rload_calls k w h
set_option maxHeartbeats 6400000 in
set_option maxRecDepth 100000 in
theorem rbetter_calls {r : Nat} {L : Nat → Nat} {n m c0 c1 c2 c4 : Nat} {win tm : Int} {S : Nat → U} {D : Nat → Int} {T : Nat → Nat → Int} (i k b : Nat) (hi : i < n) (hkm : k < m) (hb : b < k) (w : World) (h : RPl w r L n m c0 c1 c2 c4 win tm S D T) :
    Calls Try.prog 36 #[.pointer (some ⟨r, 0, none⟩), .int .i64 (i : Int), .int .i64 (k : Int), .int .i64 (b : Int)] w fun e w' => e = .returned (.bool (betB S D T n i k b)) ∧ ∃ q, w' = w.drewN q := by
  have HP := Aside0.mk h
  have hn := h.n1
  have hm := h.m1
  have hk0 := h.k0.2.2.2
  have hkc := h.kc.2.2.2
  have hc4 := h.f4
  rw [slN_pos (by omega)] at hc4
  have hc3 := h.f3
  have hti := h.tc i hi
  have y1 := (h.tr i hi).cu k hkm
  have y2 := (h.tr i hi).cu b (by omega)
  have z1 := h.ba.cu k hkm
  have z2 := h.ba.cu b (by omega)
  have hb2 : b < m := by omega
  have HOX := Aside0.mk (show ownF S D T n i k = (T i k, (loadF S (k : Int) n : Int), D k) from rfl)
  have HOY := Aside0.mk (show ownF S D T n i b = (T i b, (loadF S (b : Int) n : Int), D b) from rfl)
  have hlx := loadF_le S (k : Int) n
  have hly := loadF_le S (b : Int) n
  obtain ⟨x, hx⟩ : ∃ x, loadF S (k : Int) n = x := ⟨_, rfl⟩
  obtain ⟨y, hy⟩ : ∃ y, loadF S (b : Int) n = y := ⟨_, rfl⟩
  rw [hx] at hlx HOX
  rw [hy] at hly HOY
  have HX := Aside0.mk hx
  have HY := Aside0.mk hy
  have HB := Aside0.mk (show betB S D T n i k b = decide (cmp3 (T i k, (x : Int), D k) (T i b, (y : Int), D b) < 0) by unfold betB; rw [HOX.out, HOY.out])
  clear hx hy HOX HOY h
  generalize betB S D T n i k b = bb at HB ⊢
  go_enter Try.func36, Try.ntmps36
  go_wp2
  by_cases h1 : T i k = T i b
  case neg =>
    have e1 : (T i k != T i b) = true := by rw [bne_iff_ne]; exact h1
    have HR := Aside0.mk (show bb = decide (T i k < T i b) by rw [HB.out]; exact decide_eq_decide.2 (cmp3_fst h1))
    clear h1
    go_quiet (fail)
    go_wp2
    go_quiet (fail)
    go_wp2
    go_ret
    exact ⟨by rw [HR.out]; rfl, by (try simp only [World.drewN_drewN]); exact ⟨_, rfl⟩⟩
  have HE1 := Aside0.mk h1
  have e1 : (T i k != T i b) = false := by rw [h1]; simp
  clear h1
  go_quiet (fail)
  by_cases h2 : x = y
  case neg =>
    have e2 : (x != y) = true := by rw [bne_iff_ne]; exact h2
    have e3 : ((x : Int) != (y : Int)) = true := by rw [bne_iff_ne]; omega
    have HR := Aside0.mk (show bb = decide ((x : Int) < (y : Int)) by rw [HB.out]; exact decide_eq_decide.2 (cmp3_snd HE1.out (by show (x : Int) ≠ y; omega)))
    clear h2
    go_wp2_with fail
    refine (rload_at (k : Int) _ (HP.out.drewN _) HX.out).mono ?_
    rintro e w1 ⟨rfl, hw⟩
    replace hw := hw.symm
    subst hw
    go_wp2_with fail
    refine (rload_at (b : Int) _ (HP.out.drewN _) HY.out).mono ?_
    rintro e w1 ⟨rfl, hw⟩
    replace hw := hw.symm
    subst hw
    go_wp2_with fail
    refine (rload_at (k : Int) _ (HP.out.drewN _) HX.out).mono ?_
    rintro e w1 ⟨rfl, hw⟩
    replace hw := hw.symm
    subst hw
    go_wp2_with fail
    refine (rload_at (b : Int) _ (HP.out.drewN _) HY.out).mono ?_
    rintro e w1 ⟨rfl, hw⟩
    replace hw := hw.symm
    subst hw
    go_wp2
    go_ret
    exact ⟨by rw [HR.out]; simp, _, rfl⟩
  subst h2
  go_wp2_with fail
  refine (rload_at (k : Int) _ (HP.out.drewN _) HX.out).mono ?_
  rintro e w1 ⟨rfl, hw⟩
  replace hw := hw.symm
  subst hw
  go_wp2_with fail
  refine (rload_at (b : Int) _ (HP.out.drewN _) HY.out).mono ?_
  rintro e w1 ⟨rfl, hw⟩
  replace hw := hw.symm
  subst hw
  by_cases h3 : D k = D b
  case neg =>
    have e3 : (D k != D b) = true := by rw [bne_iff_ne]; exact h3
    have HR := Aside0.mk (show bb = decide (D k < D b) by rw [HB.out]; exact decide_eq_decide.2 (cmp3_trd HE1.out rfl))
    clear h3
    go_wp2
    go_quiet (fail)
    go_wp2
    go_quiet (fail)
    go_wp2
    go_ret
    exact ⟨by rw [HR.out]; rfl, by (try simp only [World.drewN_drewN]); exact ⟨_, rfl⟩⟩
  have e3 : (D k != D b) = false := by rw [h3]; simp
  have HR := Aside0.mk (show bb = false by rw [HB.out]; exact decide_eq_false (fun h => by have := (cmp3_trd (x := (T i k, (x : Int), D k)) (y := (T i b, (x : Int), D b)) HE1.out rfl).1 h; simp only [] at this; omega))
  have e4 : decide ((k : Int) < (b : Int)) = false := decide_eq_false (by omega)
  have e5 : decide (k < b) = false := decide_eq_false (by omega)
  clear h3
  go_wp2
  go_quiet (fail)
  go_wp2
  go_ret
  exact ⟨by rw [HR.out]; simp, by (try simp only [World.drewN_drewN]); exact ⟨_, rfl⟩⟩
end Go.Proofs.Ytaheoifjihkipaa.As
