/- The walk of the exact law FnExactTightTasks. (Printed by gen_LawC.py.) -/
import Derived.Test.YtfkccdmjlopleaaFnsC6
import Derived.Test.YtfkccdmjlopleaaCameSS
namespace Go.Proofs.Ytfkccdmjlopleaa
open Go.RowKit
set_option maxHeartbeats 800000 in
theorem law_FnExactTightTasks (w : World) (A : Option Addr) (n c : Nat) (h0 : CameSS w A n c) :
    Calls Try.prog 9 #[.slice A n c] w fun e w' => e = .returned (.bool true) ∧ Below w.heap.size w w' := by
  obtain ⟨zss, rfl, hnc, hcm, hs⟩ := h0
  unfold maxLen at hcm
  have HS := Lib.hid hs
  clear hs
  go_enter Try.func9, Try.ntmps9
  go_wp2_with fail
  refine (szIntSS_any A c _ zss w HS.out (by omega)).mono ?_
  rintro e w' ⟨r, rfl, hr, rfl⟩
  rcases hr with rfl | ⟨r0, r1, hsm⟩
  · go_wp2
    go_ret
    exact ⟨rfl, Below.refl _ _⟩
  have hn := hsm.1
  have hpl : (tightP zss).length ≤ 1048576 := tightP_len zss hn
  obtain ⟨ps, hps⟩ : ∃ ps, tightP zss = ps := ⟨_, rfl⟩
  rw [hps] at hpl
  have HP := Lib.hid hps
  clear hps
  have HSM := Lib.hid hsm
  have HSM2 := Lib.hid (show Small 2000000 zss from ⟨by omega, fun k hk => by have := hsm.2 k hk; omega⟩)
  have hd : decide (r < 0) = false := by simp; omega
  clear hsm
  go_wp2_with fail
  refine (toIntSS_any A c zss w HS.out HSM.out).mono ?_
  rintro e w1 ⟨v1, rfl, hr1, hb1⟩
  obtain ⟨A1, c1, rfl, _, _, hs1⟩ := hr1.form
  go_wp2_with fail
  refine (specTT_any A1 c1 zss w1 hs1 HSM2.out).mono ?_
  rintro e w2 ⟨v2, rfl, hrW, hb2⟩
  rw [HP.out] at hrW
  have hb12 := hb1.trans (hb2.mono hb1.size)
  obtain ⟨AW, cW, rfl, _, _, _⟩ := hrW.form
  have HW := Lib.hid (hrW.wider hb1.size (Nat.le_refl _))
  have s02 := hb12.size
  clear hr1 hs1 hb1 hb2 hrW
  go_wp2_with fail
  refine (toIntSS_any A c zss w2 ((HS.out.below hb12 (Nat.le_refl _)).more hb12.size) HSM.out).mono ?_
  rintro e w3 ⟨v3, rfl, hrX, hb3⟩
  have hb13 := hb12.trans (hb3.mono hb12.size)
  obtain ⟨AX, cX, rfl, _, _, hsX⟩ := hrX.form
  have HW3 := Lib.hid (HW.out.below hb3 (Nat.le_refl _))
  have s23 := hb3.size
  clear HW hb12 hb3
  go_wp2_with fail
  refine (implTT_any AX cX zss w3 hsX HSM2.out).mono ?_
  rintro e w4 ⟨v4, rfl, hrG, hb4⟩
  rw [HP.out] at hrG
  have hb14 := hb13.trans (hb4.mono hb13.size)
  obtain ⟨AG, cG, rfl, _, _, hsG⟩ := hrG.form
  have s34 := hb4.size
  have HW4 := Lib.hid (HW3.out.below hb4 (by omega))
  have HX4 := Lib.hid (hrX.below hb4 (Nat.le_refl _))
  have HG4 := Lib.hid hrG
  clear HW3 hrX hrG hb13 hb4 hsX
  go_wp2_with fail
  refine (eqIntS_same AG AW cG cW ps w4 hsG (HW4.out.sl_now.more (by omega)) (by omega)).mono ?_
  rintro e w5 ⟨rfl, hb5⟩
  have s45 := hb5.size
  have hb15 := hb14.trans (hb5.mono hb14.size)
  have HW5 := Lib.hid (HW4.out.below hb5 (by omega))
  have HX5 := Lib.hid (HX4.out.below hb5 (by omega))
  have HG5 := Lib.hid (HG4.out.below hb5 (by omega))
  clear HW4 HX4 HG4 hsG hb14 hb5
  go_wp2_with fail
  refine (toIntSS_any A c zss w5 ((HS.out.below hb15 (Nat.le_refl _)).more hb15.size) HSM.out).mono ?_
  rintro e w6 ⟨v6, rfl, hr6, hb6⟩
  obtain ⟨A6, c6, rfl, _, _, hs6⟩ := hr6.form
  have s56 := hb6.size
  have hb16 := hb15.trans (hb6.mono hb15.size)
  have HW6 := Lib.hid (HW5.out.below hb6 (by omega))
  have HX6 := Lib.hid (HX5.out.below hb6 (by omega))
  have HG6 := Lib.hid (HG5.out.below hb6 (by omega))
  clear HW5 HX5 HG5 hr6 hb15 hb6
  go_wp2_with fail
  refine (eqIntSS_same AX A6 cX c6 zss w6 (HX6.out.ss_now.more (by omega)) hs6 HSM.out).mono ?_
  rintro e w7 ⟨rfl, hb7⟩
  have s67 := hb7.size
  have hb17 := hb16.trans (hb7.mono hb16.size)
  have HW7 := Lib.hid (HW6.out.below hb7 (by omega))
  have HX7 := Lib.hid (HX6.out.below hb7 (by omega))
  have HG7 := Lib.hid (HG6.out.below hb7 (by omega))
  clear HW6 HX6 HG6 hs6 hb16 hb7
  go_wp2_with fail
  refine (markIntSS_any w2.heap.size w3.heap.size AX cX zss w7 HX7.out HSM.out).mono ?_
  rintro e w8 ⟨q8, rfl, q80, hg8⟩
  have s78 := hg8.size
  have hb18 := Span.below hb17 hg8 (by omega) hb17.size
  have HW8 := Lib.hid (HW7.out.span hg8 (by omega))
  have HG8 := Lib.hid (HG7.out.span hg8 (by omega))
  clear HW7 HX7 HG7 hb17 hg8
  have hd8 : decide (q8 < 0) = false := by simp; omega
  go_wp2_with fail
  refine (eqIntS_same AG AW cG cW ps w8 (HG8.out.sl_now.more (by omega)) (HW8.out.sl_now.more (by omega)) (by omega)).mono ?_
  rintro e w9 ⟨rfl, hb9⟩
  have s89 := hb9.size
  have hb19 := hb18.trans (hb9.mono hb18.size)
  have HW9 := Lib.hid (HW8.out.below hb9 (by omega))
  have HG9 := Lib.hid (HG8.out.below hb9 (by omega))
  clear HW8 HG8 hb18 hb9 hd8
  go_wp2_with fail
  refine (markIntS_any w3.heap.size w4.heap.size AG cG _ ps 1 w9 HG9.out (by omega) (by omega) (by omega)).mono ?_
  rintro e w10 ⟨rfl, hrG, hg10⟩
  have hGb := HG9.out.block_lt
  have s910 := hg10.size
  have hb110 := hb19.grown hg10 hb19.size (fun g hg => by have := hGb g hg; omega)
  have HW10 := Lib.hid (HW9.out.grown hg10 (fun g hg => by have := hGb g hg; omega))
  have hsm : Sl w10 w4.heap.size AG (marks 1 ps.length) := by
    obtain ⟨_, h⟩ := hrG.sl_of
    exact h
  have HSMK := Lib.hid hsm
  clear HW9 HG9 hGb hg10 hb19 hrG hsm
  go_wp2_with fail
  refine (heldIntS_same w4.heap.size AG cG ps.length 1 w10 HSMK.out (by omega) (by omega) (by omega)).mono ?_
  rintro e w11 ⟨rfl, rfl⟩
  have hd9 : decide (1 + (ps.length : Int) < 0) = false := by simp; omega
  go_wp2_with fail
  refine (toIntSS_any A c zss w10 ((HS.out.below hb110 (Nat.le_refl _)).more hb110.size) HSM.out).mono ?_
  rintro e w11 ⟨v11, rfl, hr11, hb11⟩
  obtain ⟨A11, c11, rfl, _, _, hs11⟩ := hr11.form
  have s1011 := hb11.size
  have hb111 := hb110.trans (hb11.mono hb110.size)
  have HW11 := Lib.hid (HW10.out.below hb11 (by omega))
  have HSM11 := Lib.hid (HSMK.out.below hb11 (by omega))
  clear HW10 HSMK hb110 hb11 hr11 hd9
  go_wp2_with fail
  refine (implTT_any A11 c11 zss w11 hs11 HSM2.out).mono ?_
  rintro e w12 ⟨v12, rfl, hrH, hb12⟩
  rw [HP.out] at hrH
  obtain ⟨AH, cH, rfl, _, _, hsH⟩ := hrH.form
  have s1112 := hb12.size
  have hb112 := hb111.trans (hb12.mono hb111.size)
  have HW12 := Lib.hid (HW11.out.below hb12 (by omega))
  have HSM12 := Lib.hid (HSM11.out.below hb12 (by omega))
  clear HW11 HSM11 hb111 hb12 hrH hs11
  go_wp2_with fail
  refine (eqIntS_same AH AW cH cW ps w12 hsH (HW12.out.sl_now.more (by omega)) (by omega)).mono ?_
  rintro e w13 ⟨rfl, hb13⟩
  have s1213 := hb13.size
  have hb113 := hb112.trans (hb13.mono hb112.size)
  have HSM13 := Lib.hid (HSM12.out.below hb13 (by omega))
  clear HW12 HSM12 hb112 hb13 hsH
  go_wp2_with fail
  refine (heldIntS_same w4.heap.size AG cG ps.length 1 w13 HSM13.out (by omega) (by omega) (by omega)).mono ?_
  rintro e w14 ⟨rfl, rfl⟩
  have hd9 : decide (1 + (ps.length : Int) < 0) = false := by simp; omega
  go_wp2
  go_ret
  exact ⟨rfl, hb113⟩
end Go.Proofs.Ytfkccdmjlopleaa
