/- What calls of Go functions of this seat come to, as the rows need it: under the conditions that each theorem names. -/
import Derived.Test.YtllcofllnjgkcaaDoorPair
namespace Go.Proofs.YtllcofllnjgkcaaDoor.Ref
open Go.RowKit Go.Proofs.YtllcofllnjgkcaaDoorW.PrintWords Go.Proofs.YtllcofllnjgkcaaDoorW.PrintLast Go.Proofs.YtllcofllnjgkcaaDoorW.PrintMore
set_option linter.unusedVariables false
set_option linter.unusedSimpArgs false
open Go.Proofs.YtllcofllnjgkcaaDoor.Sha
theorem checkB_true {R : List Int} {n : Nat} {i : Int} {c : List Int} {p : List (List Int)} (h : checkB R n i c p = true) : ∃ j : Nat, i = (j : Int) ∧ j < countN n ∧ c.length = sizeN n j ∧ checkR R n j c p = true := by
  unfold checkB at h
  split at h
  · rename_i hh
    obtain ⟨h1, h2, h3, h4⟩ := hh
    obtain ⟨j, rfl⟩ := Int.eq_ofNat_of_zero_le h2
    rw [Int.toNat_natCast] at h3 h4 h
    rw [Int.toNat_natCast] at h4 h
    exact ⟨j, rfl, by omega, h4, h⟩
  · cases h
set_option maxHeartbeats 1600000 in
set_option maxRecDepth 100000 in
theorem binds_calls (A A2 A3 : Option Addr) (c c2 c3 : Nat) (l ch : List Int) (p : List (List Int)) (i : Int) (w : World) (hr : B.C w A l.length l) (hc : l.length ≤ c) (hb : Sha.bytes l)
    (hr2 : B.C w A2 ch.length ch) (hc2 : ch.length ≤ c2) (hb2 : Sha.bytes ch) (hp : KD.C w A3 p.length p) (hc3 : p.length ≤ c3) (hpr : isRow p) (hT : Tab w) :
    Calls Tryd.prog 8 #[.slice A l.length c, .int .i64 i, .slice A2 ch.length c2, .slice A3 p.length c3] w fun e w' => e = .returned (.bool true) ∧ Below w.heap.size w w' := by
  have HR := Aside0.mk hr
  have HR2 := Aside0.mk hr2
  have HP := Aside0.mk hp
  have HY := Aside0.mk hb
  have HY2 := Aside0.mk hb2
  have HPR := Aside0.mk hpr
  have HTAB := Aside0.mk hT
  have hl63 : l.length ≤ 9223372036854775807 := hr.2.1
  have hl263 : ch.length ≤ 9223372036854775807 := hr2.2.1
  have hp63 : p.length ≤ 9223372036854775807 := hp.2.1
  clear hr hb hr2 hb2 hp hpr hT
  by_cases hbig : 1200 < l.length
  · have e1 : decide ((l.length : Int) > 1200) = true := decide_eq_true (by omega)
    clear hbig
    go_enter Tryd.func8, Tryd.ntmps8
    go_wp2_with fail
    refine (known_calls _ HTAB.out).mono ?_
    rintro e w1 ⟨rfl, hb⟩
    go_wp2
    go_ret
    exact ⟨rfl, hb⟩
  have e1 : decide ((l.length : Int) > 1200) = false := decide_eq_false (by omega)
  by_cases hbig2 : 200 < ch.length
  · have e2 : decide ((ch.length : Int) > 200) = true := decide_eq_true (by omega)
    clear hbig hbig2
    go_enter Tryd.func8, Tryd.ntmps8
    go_wp2_with fail
    refine (known_calls _ HTAB.out).mono ?_
    rintro e w1 ⟨rfl, hb⟩
    go_wp2
    go_ret
    exact ⟨rfl, hb⟩
  have e2 : decide ((ch.length : Int) > 200) = false := decide_eq_false (by omega)
  by_cases hbig3 : 100 < p.length
  · have e3 : decide ((p.length : Int) > 100) = true := decide_eq_true (by omega)
    clear hbig hbig2 hbig3
    go_enter Tryd.func8, Tryd.ntmps8
    go_wp2_with fail
    refine (known_calls _ HTAB.out).mono ?_
    rintro e w1 ⟨rfl, hb⟩
    go_wp2
    go_ret
    exact ⟨rfl, hb⟩
  have e3 : decide ((p.length : Int) > 100) = false := decide_eq_false (by omega)
  have HLE := Aside0.mk (show l.length ≤ 1200 ∧ ch.length ≤ 200 ∧ p.length ≤ 100 by omega)
  have HRL := Aside0.mk (show (rootOf l).length = 32 by unfold rootOf rootI; exact shaI_len _)
  have HRT := Aside0.mk (fun (w : World) (h1 : B.C w A l.length l) (h3 : Tab w) => Root_calls A c l w h1 hc HY.out (by have := HLE.out; omega) h3)
  have HPY := Aside0.mk (prove_yes l)
  generalize rootOf l = RT at *
  clear hbig hbig2 hbig3
  cases hck : checkB RT l.length i ch p with
  | false =>
    have HCK := Aside0.mk hck
    clear hck HPY
    go_enter Tryd.func8, Tryd.ntmps8
    go_wp2_with fail
    refine (HRT.out _ HR.out HTAB.out).mono ?_
    rintro e w1 ⟨rfl, hb⟩
    have HB1 := Aside0.mk hb
    clear hb
    go_wp2_with fail
    refine (check_any RT (l.length : Int) i A2 A3 c2 c3 ch p _ HRL.out (by have := HLE.out; omega) (Kd.C_below HR2.out HB1.out) hc2 HY2.out (by have := HLE.out; omega) (Kd.C_below HP.out HB1.out) hc3 HPR.out (by have := HLE.out; omega) (HTAB.out.below HB1.out)).mono ?_
    rintro e w2 ⟨rfl, hb⟩
    rw [HCK.out]
    have HB2 := Aside0.mk (below_step HB1.out hb)
    clear hb
    go_wp2_with fail
    refine (known_calls _ (HTAB.out.below HB2.out)).mono ?_
    rintro e w3 ⟨rfl, hb⟩
    have HB3 := Aside0.mk (below_step HB2.out hb)
    clear hb
    go_wp2
    go_ret
    exact ⟨rfl, HB3.out⟩
  | true =>
    obtain ⟨j, rfl, hjn, hjs, hcr⟩ := checkB_true hck
    have HCK := Aside0.mk hck
    have HJN := Aside0.mk hjn
    have HCL := Aside0.mk (show ch.length ≤ 64 by rw [hjs]; unfold sizeN; omega)
    obtain ⟨j2, hj2, hz1, hz2, hcr2⟩ := checkB_true (HPY.out j hjn)
    obtain rfl : j = j2 := by omega
    have HBD := Aside0.mk (bind_rows l.length j RT (chunkL l j) ch (proofOf l j) p (proof_row l j) HPR.out hcr2 hcr)
    clear hck hjn hjs hcr hcr2 HPY hj2 hz1 hz2
    go_enter Tryd.func8, Tryd.ntmps8
    go_wp2_with fail
    refine (HRT.out _ HR.out HTAB.out).mono ?_
    rintro e w1 ⟨rfl, hb⟩
    have HB1 := Aside0.mk hb
    clear hb
    go_wp2_with fail
    refine (check_any RT (l.length : Int) (j : Int) A2 A3 c2 c3 ch p _ HRL.out (by have := HLE.out; omega) (Kd.C_below HR2.out HB1.out) hc2 HY2.out (by have := HLE.out; omega) (Kd.C_below HP.out HB1.out) hc3 HPR.out (by have := HLE.out; omega) (HTAB.out.below HB1.out)).mono ?_
    rintro e w2 ⟨rfl, hb⟩
    rw [HCK.out]
    have HB2 := Aside0.mk (below_step HB1.out hb)
    clear hb HB1 e1 e2 e3
    go_wp2_with fail
    refine (chunk_yes A c l j _ (Kd.C_below HR.out HB2.out) hc (by have := HLE.out; omega) HJN.out).mono ?_
    rintro e w3 ⟨v, rfl, ho, hb⟩
    have HB3 := Aside0.mk (below_step HB2.out hb)
    obtain ⟨A9, c9, rfl, hc9, hr9⟩ := Kd.R_reads ho
    have HC9 := Aside0.mk hr9
    have HR3 := Aside0.mk (Kd.C_below HR2.out HB3.out)
    clear ho hb hr9 HB2
    have h4 : (convert 22 9 (.slice A9 (chunkL l j).length c9)).run Tryd.prog w3 = .ok (.string (strOfNums (chunkL l j))) w3 := Kd.C_string Tryd.underlying22 Tryd.underlying5 Tryd.underlying9 HC9.out
    have h0 : (convert 22 9 (.slice A2 ch.length c2)).run Tryd.prog w3 = .ok (.string (strOfNums ch)) w3 := Kd.C_string Tryd.underlying22 Tryd.underlying5 Tryd.underlying9 HR3.out
    have HCHB := Aside0.mk (chunk_bytes HY.out j)
    have HPA := Aside0.mk (show ∀ P Q, (pathV l.length j (chunkL l j) (proofOf l j)) = (P, true) → (pathV l.length j ch p) = (Q, true) → True from fun _ _ _ _ => trivial)
    by_cases hse : strOfNums (chunkL l j) = strOfNums ch
    · have HSE := Aside0.mk hse
      rw [hse] at h4
      clear hse HBD HPA
      generalize chunkL l j = cx at *
      go_wp2_with fail
      refine (known_calls _ (HTAB.out.below HB3.out)).mono ?_
      rintro e w4 ⟨rfl, hb⟩
      have HB4 := Aside0.mk (below_step HB3.out hb)
      clear hb h4 h0
      go_wp2
      go_ret
      exact ⟨rfl, HB4.out⟩
    · have hs1 := hse
      have hs2 := str_list_ne hse
      have HSE := Aside0.mk hse
      clear hse HPA
      obtain ⟨cx, hcx⟩ : ∃ cx, chunkL l j = cx := ⟨_, rfl⟩
      have HCX := Aside0.mk hcx
      rw [hcx] at h4 hs1 hs2 HSE HCHB HC9 hc9 HBD ⊢
      clear hcx
      go_wp2_with fail
      clear h4 h0 hs1 hs2
      refine (new_calls _).mono ?_
      rintro e w4 ⟨gh, rfl, hgl, hg, hb⟩
      have HG4 := Aside0.mk hg
      have HB4 := Aside0.mk (below_step HB3.out hb)
      clear hg hgl hb HB3 HR3 HC9 hc9
      obtain ⟨b1, b2, b3, b4, b5, b6, b7⟩ := HBD.out
      obtain ⟨P, hP⟩ : ∃ P, (pathV l.length j cx (proofOf l j)).1 = P := ⟨_, rfl⟩
      obtain ⟨Q, hQ⟩ : ∃ Q, (pathV l.length j ch p).1 = Q := ⟨_, rfl⟩
      have HPE := Aside0.mk (show pathV l.length j (chunkL l j) (proofOf l j) = (P, true) by rw [HCX.out, ← hP, ← b1])
      have HQE := Aside0.mk (show pathV l.length j ch p = (Q, true) by rw [← hQ, ← b2])
      rw [hP, hQ] at b3 b7
      rw [hP] at b4 b5
      rw [hQ] at b6
      have H3 := Aside0.mk b3
      have H4 := Aside0.mk b4
      have H7 := Aside0.mk b7
      have HNE := Aside0.mk (show P.getD 0 [] ≠ Q.getD 0 [] from fun h => HSE.out (by
        rw [b5, b6] at h
        have h2 : cx = ch := by simpa using h
        rw [h2]))
      have HPX := Aside0.mk (pathV_rows l.length j cx (proofOf l j) HCHB.out (by rw [← HCX.out, chunk_len HJN.out]; omega) (proof_row l j))
      have HQX := Aside0.mk (pathV_rows l.length j ch p HY2.out HCL.out HPR.out)
      rw [hP] at HPX
      rw [hQ] at HQX
      clear b1 b2 b3 b4 b5 b6 b7 HBD hP hQ
      go_wp2_with fail
      refine (rpair_calls gh j A A2 A3 c c2 c3 l ch p _ HG4.out (Kd.C_below HR.out HB4.out) hc HY.out (by have := HLE.out; omega) HJN.out (Kd.C_below HR2.out HB4.out) hc2 HY2.out HCL.out (Kd.C_below HP.out HB4.out) hc3 HPR.out (by have := HLE.out; omega) P Q HPE.out HQE.out H3.out H4.out HNE.out).mono ?_
      rintro e w5 ⟨k, A5, A6, c5, c6, hk, hne, hall, rfl, hc5, hc6, hC5, hC6, hb⟩
      have HB5 := Aside0.mk (below_step HB4.out hb)
      have HT5 := Aside0.mk (HTAB.out.below HB5.out)
      have HSH := Aside0.mk (H7.out k hk hall)
      have hbX := HPX.out _ (getD_mem hk)
      have hbY := HQX.out _ (getD_mem (show k < Q.length by rw [← H3.out]; exact hk))
      obtain ⟨X, hX⟩ : ∃ X, P.getD k [] = X := ⟨_, rfl⟩
      obtain ⟨Y, hY⟩ : ∃ Y, Q.getD k [] = Y := ⟨_, rfl⟩
      rw [hX] at hbX
      rw [hY] at hbY
      rw [hX, hY] at hne HSH ⊢
      rw [hX] at hc5 hC5
      rw [hY] at hc6 hC6
      rw [decide_eq_true HSH.out]
      have HC5 := Aside0.mk hC5
      have HC6 := Aside0.mk hC6
      have HX1 := Aside0.mk hbX
      have HY1 := Aside0.mk hbY
      have HNXY := Aside0.mk hne
      clear hall hb hC5 hC6 hX hY hbX hbY hk hne H7 H4 HNE
      have h4 : (convert 22 9 (.slice A5 X.length c5)).run Tryd.prog w5 = .ok (.string (strOfNums X)) w5 := Kd.C_string Tryd.underlying22 Tryd.underlying5 Tryd.underlying9 HC5.out
      have h0 : (convert 22 9 (.slice A6 Y.length c6)).run Tryd.prog w5 = .ok (.string (strOfNums Y)) w5 := Kd.C_string Tryd.underlying22 Tryd.underlying5 Tryd.underlying9 HC6.out
      have hs1 : ¬ strOfNums X = strOfNums Y := fun h => HNXY.out (str_inj HX1.out.1 HY1.out.1 h)
      have hs2 := str_list_ne hs1
      go_wp2_with fail
      refine (Sum_calls A5 c5 X _ HC5.out hc5 HX1.out.1 HT5.out (by have := HX1.out.2; omega)).mono ?_
      rintro e w6 ⟨rfl, hb⟩
      have HB6 := Aside0.mk (below_step HB5.out hb)
      have HX6 := Aside0.mk hb
      clear hb h4 h0 hs1 hs2
      go_wp2_with fail
      refine (Sum_calls A6 c6 Y _ (Kd.C_below HC6.out HX6.out) hc6 HY1.out.1 (HT5.out.below HX6.out) (by have := HY1.out.2; omega)).mono ?_
      rintro e w7 ⟨rfl, hb⟩
      have HB7 := Aside0.mk (below_step HB6.out hb)
      clear hb
      rw [← HSH.out]
      have HDL := Aside0.mk (shaI_len X)
      generalize shaI X = DX at HDL ⊢
      have heq : ∀ w : World, (Op.equalIn 10000 32 (vd DX) (vd DX)).run Tryd.prog w = .ok true w := fun w => by rw [eqD HDL.out HDL.out w]; simp
      go_wp2_with fail
      refine (known_calls _ (HTAB.out.below HB7.out)).mono ?_
      rintro e w8 ⟨rfl, hb⟩
      have HB8 := Aside0.mk (below_step HB7.out hb)
      clear hb
      go_wp2
      go_ret
      exact ⟨rfl, HB8.out⟩
theorem binds_walk (a0 : Option Addr) (c0 : Nat) (x0 : List Int) (a1 : Int) (a2 : Option Addr) (c2 : Nat) (x2 : List Int) (a3 : Option Addr) (c3 : Nat) (x3 : List (List Int)) (w : World) (hT : Tab w) (C0 : B.C w a0 x0.length x0) (l0 : x0.length ≤ c0) (k0 : ∀ x ∈ x0, (Lit.int .u8 x).wf = true) (k1 : (Lit.int .i64 a1).wf = true)
    (C2 : B.C w a2 x2.length x2) (l2 : x2.length ≤ c2) (k2 : ∀ x ∈ x2, (Lit.int .u8 x).wf = true) (C3 : KD.C w a3 x3.length x3) (l3 : x3.length ≤ c3) (k3 : ∀ x ∈ x3, Open.okD x) :
    Calls Tryd.prog 8 #[.slice a0 x0.length c0, .int .i64 a1, .slice a2 x2.length c2, .slice a3 x3.length c3] w fun e w' => e = .returned (.bool true) ∧ Below w.heap.size w w' :=
  binds_calls a0 a2 a3 c0 c2 c3 x0 x2 x3 a1 w C0 l0 (bytes_wf k0) C2 l2 (bytes_wf k2) C3 l3 (fun d hd => (k3 d hd).isD) hT
end Go.Proofs.YtllcofllnjgkcaaDoor.Ref
