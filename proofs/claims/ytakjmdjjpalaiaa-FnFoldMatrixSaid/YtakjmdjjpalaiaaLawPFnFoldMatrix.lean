/- The walk of the law FnFoldMatrix. (Printed by gen_LawP.py.) -/
import Derived.Test.YtakjmdjjpalaiaaLawE2
import Derived.Test.YtakjmdjjpalaiaaDrawM2
import Derived.Test.YtakjmdjjpalaiaaFnsG1
import Derived.Deep.RegionHeld3
namespace Go.Proofs.Ytakjmdjjpalaiaa
open Go.RowKit
/-- What a folded matrix is. -/
theorem fld_yes {r c : Int} {zs : List Int} {kr kc : Int} {ks : List Int} (h : OkF r c zs kr kc ks) : OkM (fldR r c zs kr kc ks) (fldC r c zs kr kc ks) (fldZ r c zs kr kc ks) ∧ OkM kr kc ks ∧ OkM kr kc (addZ ks ks) ∧
    (fldR r c zs kr kc (addZ ks ks) = fldR r c zs kr kc ks ∧ fldC r c zs kr kc (addZ ks ks) = fldC r c zs kr kc ks ∧ fldZ r c zs kr kc (addZ ks ks) = addZ (fldZ r c zs kr kc ks) (fldZ r c zs kr kc ks)) ∧
    (fldR r c zs 1 1 [1] = r ∧ fldC r c zs 1 1 [1] = c ∧ fldZ r c zs 1 1 [1] = zs) := by
  obtain ⟨hm, hk, hkr, hkc⟩ := id h
  have hR : fldR r c zs kr kc ks = ((r.toNat - kr.toNat + 1 : Nat) : Int) := by unfold fldR; rw [if_pos h]
  have hC : fldC r c zs kr kc ks = ((c.toNat - kc.toNat + 1 : Nat) : Int) := by unfold fldC; rw [if_pos h]
  have hZ : fldZ r c zs kr kc ks = foldZ kr.toNat kc.toNat r.toNat c.toNat zs ks := by unfold fldZ; rw [if_pos h]
  have hka : OkM kr kc (addZ ks ks) := ⟨hk.1, hk.2.1, by rw [addZ_len]; exact hk.2.2.1, fun j _ => addZ_rng ks ks rfl j⟩
  have h2 : OkF r c zs kr kc (addZ ks ks) := ⟨hm, hka, hkr, hkc⟩
  have h1 : OkF r c zs 1 1 [1] := ⟨hm, ⟨by omega, by omega, by simp, fun j hj => by
    obtain rfl : j = 0 := by simp at hj; omega
    simp⟩, hm.1.1, hm.2.1.1⟩
  obtain ⟨rn, rfl⟩ := Int.eq_ofNat_of_zero_le (show 0 ≤ r by have := hm.1; omega)
  obtain ⟨cn, rfl⟩ := Int.eq_ofNat_of_zero_le (show 0 ≤ c by have := hm.2.1; omega)
  obtain ⟨krn, rfl⟩ := Int.eq_ofNat_of_zero_le (show 0 ≤ kr by have := hk.1; omega)
  obtain ⟨kcn, rfl⟩ := Int.eq_ofNat_of_zero_le (show 0 ≤ kc by have := hk.2.1; omega)
  have hl : zs.length = rn * cn := by
    have h1 := hm.2.2.1
    have e : ((rn * cn : Nat) : Int) = (rn : Int) * (cn : Int) := by simp
    omega
  simp only [Int.toNat_natCast] at hR hC hZ
  rw [hR, hC, hZ]
  have b1 := hm.1
  have b2 := hm.2.1
  have b3 := hk.1
  have b4 := hk.2.1
  refine ⟨⟨by omega, by omega, by rw [foldZ, tab_len]; simp, ?_⟩, hk, hka, ⟨?_, ?_, ?_⟩, ?_, ?_, ?_⟩
  · intro j hj
    refine tab_rng (fun a b _ _ => ?_) j hj
    omega
  · unfold fldR; rw [if_pos h2]; simp
  · unfold fldC; rw [if_pos h2]; simp
  · unfold fldZ; rw [if_pos h2]; simp only [Int.toNat_natCast]; rw [addZ_self, fold_twice, addZ_self]
  · unfold fldR; rw [if_pos h1]; simp; omega
  · unfold fldC; rw [if_pos h1]; simp; omega
  · unfold fldZ; rw [if_pos h1]; simp only [Int.toNat_natCast, Int.toNat_one]; exact fold_one rn cn zs (by omega) (by omega) hl hm.2.2.2
theorem one_row (w : World) : Row (w.alloc (.cells #[.int .i64 1] 3)) w.heap.size (w.heap.size + 1) (.slice (some ⟨w.heap.size, 0, none⟩) 1 1) [1] := ⟨World.ownsRow_lit w #[.int .i64 1] 1 (Nat.le_refl _) (by simp [maxLen]) rfl, fun g hg => by simp [Value.ownBlock] at hg; omega⟩
theorem Row.one_now {w : World} {lo hi : Nat} {A : Option Addr} {c : Nat} (h : Row w lo hi (.slice A 1 c) [1]) : Sl w hi A [1] := Row.sl_now (zs := [1]) h
set_option maxRecDepth 20000 in
set_option maxHeartbeats 3200000 in
theorem law_FnFoldMatrix (w : World) (A : Option Addr) (n c : Nat) (h0 : Code8 w A n ∧ n ≤ c ∧ c ≤ maxLen) :
    Calls Try.prog 10 #[.slice A n c] w fun e w' => e = .returned (.bool true) ∧ Below w.heap.size w w' := by
  obtain ⟨hc, hnc, hcm⟩ := h0
  have hcm' := hcm
  unfold maxLen at hcm'
  by_cases hn : 1048576 < n
  · go_enter Try.func10, Try.ntmps10
    go_wp2
    go_ret
    exact ⟨rfl, Below.refl _ _⟩
  have hd1 : decide ((1048576 : Int) < (n : Int)) = false := by simp; omega
  go_enter Try.func10, Try.ntmps10
  go_wp2_with fail
  refine (drawFold A n c w (by omega) hnc hcm hc).mono ?_
  rintro e W0 ⟨r, cc, sm, zs, kr, kc, sk, ks, rfl, hr, hrk, ⟨zl, r0, r1, c0, c1⟩, ⟨kl, kr0, kr1, kc0, kc1⟩, hb⟩
  obtain ⟨Am, cm, rfl, hcp1, hcp2, _⟩ := hr.form
  have HCPm := Lib.hid (And.intro hcp1 hcp2)
  clear hcp1 hcp2
  have Rm_0 := Lib.hid hr
  clear hr
  obtain ⟨Ak, ck, rfl, hcp1, hcp2, _⟩ := hrk.form
  have HCPk := Lib.hid (And.intro hcp1 hcp2)
  clear hcp1 hcp2
  have Rk_0 := Lib.hid hrk
  clear hrk
  have s0 := hb.size
  have HB_0 := Lib.hid hb
  clear hb hc
  obtain ⟨pr, hpr⟩ : ∃ x, fldR r cc zs kr kc ks = x := ⟨_, rfl⟩
  obtain ⟨pc, hpc⟩ : ∃ x, fldC r cc zs kr kc ks = x := ⟨_, rfl⟩
  obtain ⟨ps, hps⟩ : ∃ x, fldZ r cc zs kr kc ks = x := ⟨_, rfl⟩
  have hpl := fldZ_len r cc zs kr kc ks (by omega) (by omega)
  rw [hps] at hpl
  have HP := Lib.hid (And.intro hpr (And.intro hpc hps))
  clear hpr hpc hps
  have kn := Cell3.new W0 (.int .i64 r) (.int .i64 cc) (.slice Am zs.length cm) 26
  obtain ⟨W1, hW1⟩ : ∃ W, W0.alloc (.cells #[.int .i64 r, .int .i64 cc, .slice Am zs.length cm] 26) = W := ⟨_, rfl⟩
  rw [hW1] at kn
  have z1 : W1.heap.size = W0.heap.size + 1 := by rw [← hW1]; simp
  have hal : Below W0.heap.size W0 W1 := hW1 ▸ (Below.refl _ _).alloc (Nat.le_refl _) _
  have s1 := hal.size
  have Rm_1 := Lib.hid (Rm_0.out.below hal (show W0.heap.size ≤ W0.heap.size by omega))
  have Rk_1 := Lib.hid (Rk_0.out.below hal (show W0.heap.size ≤ W0.heap.size by omega))
  have HB_1 := Lib.hid (HB_0.out.trans (hal.mono (show w.heap.size ≤ W0.heap.size by omega)))
  clear Rm_0 Rk_0 HB_0 hal
  have K3_1 := Lib.hid kn
  clear kn
  have kn := Cell3.new W1 (.int .i64 kr) (.int .i64 kc) (.slice Ak ks.length ck) 26
  obtain ⟨W2, hW2⟩ : ∃ W, W1.alloc (.cells #[.int .i64 kr, .int .i64 kc, .slice Ak ks.length ck] 26) = W := ⟨_, rfl⟩
  rw [hW2] at kn
  have z2 : W2.heap.size = W1.heap.size + 1 := by rw [← hW2]; simp
  have hal : Below W1.heap.size W1 W2 := hW2 ▸ (Below.refl _ _).alloc (Nat.le_refl _) _
  have s2 := hal.size
  have K3_2 := Lib.hid (K3_1.out.below hal (show W0.heap.size < W1.heap.size by omega))
  have Rm_2 := Lib.hid (Rm_1.out.below hal (show W0.heap.size ≤ W1.heap.size by omega))
  have Rk_2 := Lib.hid (Rk_1.out.below hal (show W0.heap.size ≤ W1.heap.size by omega))
  have HB_2 := Lib.hid (HB_1.out.trans (hal.mono (show w.heap.size ≤ W1.heap.size by omega)))
  clear K3_1 Rm_1 Rk_1 HB_1 hal
  have K4_2 := Lib.hid kn
  clear kn
  have K4_2 := Lib.hid (show Cell3 W2 (W0.heap.size + 1) _ _ _ by have h := K4_2.out; rw [z1] at h; exact h)
  obtain ⟨x30, x31, x32, _, _, _, x3lt⟩ := K3_2.out
  obtain ⟨x40, x41, x42, _, _, _, x4lt⟩ := K4_2.out
  go_wp2_with fail
  refine (implFold_any r cc Am cm _ W2.heap.size zs kr kc Ak ck _ W2.heap.size ks W2 (Rm_2.out.sl_now.more (show W0.heap.size ≤ W2.heap.size by omega)) (Nat.le_refl _) rfl (by omega) (Rk_2.out.sl_now.more (show W0.heap.size ≤ W2.heap.size by omega)) (Nat.le_refl _) rfl (by omega) HCPm.out.1 HCPm.out.2 HCPk.out.1 HCPk.out.2).mono ?_
  rintro e W3 ⟨sv3, rfl, hr, hb⟩
  rw [HP.out.1, HP.out.2.1]
  rw [HP.out.2.2] at hr
  obtain ⟨Ax, cx, rfl, hcp1, hcp2, _⟩ := hr.form
  have HCPx := Lib.hid (And.intro hcp1 hcp2)
  clear hcp1 hcp2
  clear x30 x31 x32 x3lt x40 x41 x42 x4lt
  have s3 := hb.size
  have K3_3 := Lib.hid (K3_2.out.below hb (show W0.heap.size < W2.heap.size by omega))
  have K4_3 := Lib.hid (K4_2.out.below hb (show W0.heap.size + 1 < W2.heap.size by omega))
  have Rm_3 := Lib.hid (Rm_2.out.below hb (show W0.heap.size ≤ W2.heap.size by omega))
  have Rk_3 := Lib.hid (Rk_2.out.below hb (show W0.heap.size ≤ W2.heap.size by omega))
  have HB_3 := Lib.hid (HB_2.out.trans (hb.mono (show w.heap.size ≤ W2.heap.size by omega)))
  clear K3_2 K4_2 Rm_2 Rk_2 HB_2 hb
  have Rx_3 := Lib.hid hr
  clear hr
  have kn := Cell3.new W3 (.int .i64 pr) (.int .i64 pc) (.slice Ax ps.length cx) 26
  obtain ⟨W4, hW4⟩ : ∃ W, W3.alloc (.cells #[.int .i64 pr, .int .i64 pc, .slice Ax ps.length cx] 26) = W := ⟨_, rfl⟩
  rw [hW4] at kn
  have z4 : W4.heap.size = W3.heap.size + 1 := by rw [← hW4]; simp
  have hal : Below W3.heap.size W3 W4 := hW4 ▸ (Below.refl _ _).alloc (Nat.le_refl _) _
  have s4 := hal.size
  have K3_4 := Lib.hid (K3_3.out.below hal (show W0.heap.size < W3.heap.size by omega))
  have K4_4 := Lib.hid (K4_3.out.below hal (show W0.heap.size + 1 < W3.heap.size by omega))
  have Rm_4 := Lib.hid (Rm_3.out.below hal (show W0.heap.size ≤ W3.heap.size by omega))
  have Rk_4 := Lib.hid (Rk_3.out.below hal (show W0.heap.size ≤ W3.heap.size by omega))
  have Rx_4 := Lib.hid (Rx_3.out.below hal (show W3.heap.size ≤ W3.heap.size by omega))
  have HB_4 := Lib.hid (HB_3.out.trans (hal.mono (show w.heap.size ≤ W3.heap.size by omega)))
  clear K3_3 K4_3 Rm_3 Rk_3 Rx_3 HB_3 hal
  have K5_4 := Lib.hid kn
  clear kn
  obtain ⟨x30, x31, x32, _, _, _, x3lt⟩ := K3_4.out
  obtain ⟨x40, x41, x42, _, _, _, x4lt⟩ := K4_4.out
  obtain ⟨x50, x51, x52, _, _, _, x5lt⟩ := K5_4.out
  have HMK := Lib.hid fun w' (hx : Below W4.heap.size W4 w') => (show (w'.cell? ⟨W0.heap.size, 0, none⟩ = some (.int .i64 (r)) ∧ w'.cell? ⟨W0.heap.size, 1, none⟩ = some (.int .i64 (cc)) ∧ w'.cell? ⟨W0.heap.size, 2, none⟩ = some (.slice Am zs.length cm)) ∧ (w'.cell? ⟨W0.heap.size + 1, 0, none⟩ = some (.int .i64 (kr)) ∧ w'.cell? ⟨W0.heap.size + 1, 1, none⟩ = some (.int .i64 (kc)) ∧ w'.cell? ⟨W0.heap.size + 1, 2, none⟩ = some (.slice Ak ks.length ck)) ∧ (w'.cell? ⟨W3.heap.size, 0, none⟩ = some (.int .i64 (pr)) ∧ w'.cell? ⟨W3.heap.size, 1, none⟩ = some (.int .i64 (pc)) ∧ w'.cell? ⟨W3.heap.size, 2, none⟩ = some (.slice Ax ps.length cx)) from ⟨⟨(K3_4.out.below hx (show _ < W4.heap.size by omega)).c0, (K3_4.out.below hx (show _ < W4.heap.size by omega)).c1, (K3_4.out.below hx (show _ < W4.heap.size by omega)).c2⟩, ⟨(K4_4.out.below hx (show _ < W4.heap.size by omega)).c0, (K4_4.out.below hx (show _ < W4.heap.size by omega)).c1, (K4_4.out.below hx (show _ < W4.heap.size by omega)).c2⟩, ⟨(K5_4.out.below hx (show _ < W4.heap.size by omega)).c0, (K5_4.out.below hx (show _ < W4.heap.size by omega)).c1, (K5_4.out.below hx (show _ < W4.heap.size by omega)).c2⟩⟩)
  have hcur : Below W4.heap.size W4 W4.drew := Below.of_drew _
  go_wp2
  go_region_held3 (fun w' => (w'.cell? ⟨W0.heap.size, 0, none⟩ = some (.int .i64 (r)) ∧ w'.cell? ⟨W0.heap.size, 1, none⟩ = some (.int .i64 (cc)) ∧ w'.cell? ⟨W0.heap.size, 2, none⟩ = some (.slice Am zs.length cm)) ∧ (w'.cell? ⟨W0.heap.size + 1, 0, none⟩ = some (.int .i64 (kr)) ∧ w'.cell? ⟨W0.heap.size + 1, 1, none⟩ = some (.int .i64 (kc)) ∧ w'.cell? ⟨W0.heap.size + 1, 2, none⟩ = some (.slice Ak ks.length ck)) ∧ (w'.cell? ⟨W3.heap.size, 0, none⟩ = some (.int .i64 (pr)) ∧ w'.cell? ⟨W3.heap.size, 1, none⟩ = some (.int .i64 (pc)) ∧ w'.cell? ⟨W3.heap.size, 2, none⟩ = some (.slice Ax ps.length cx)))
    (first | exact HMK.out _ hcur | exact HMK.out _ (hcur.alloc hcur.size _) | fail)
    (first
      | (go_simp; go_at_call 41; (with_reducible refine (specFold_any r cc Am cm _ W4.heap.size zs kr kc Ak ck _ W4.heap.size ks W4.drew ((Rm_4.out.sl_now.more (show W0.heap.size ≤ W4.heap.size by omega)).below hcur (Nat.le_refl _)) hcur.size rfl (by omega) ((Rk_4.out.sl_now.more (show W0.heap.size ≤ W4.heap.size by omega)).below hcur (Nat.le_refl _)) hcur.size rfl (by omega)).mono ?_); rintro e Wa ⟨sva, rfl, hra, hba⟩; rw [HP.out.1, HP.out.2.1]; rw [HP.out.2.2] at hra; obtain ⟨Aq, cq, rfl, _, _, _⟩ := hra.form; have hcur := hcur.trans (hba.mono hcur.size))
      | (go_simp; go_at_call 23; (with_reducible refine (sameM_same pr pc Ax Aq cx cq ps Wa (((Rx_4.out.sl_now.more (show W3.heap.size ≤ W4.heap.size by omega)).below hcur (Nat.le_refl _)).more hcur.size) hra.sl_now (by omega)).mono ?_); rintro e Wb ⟨rfl, hbb⟩; have hcur := hcur.trans (hbb.mono hcur.size))
      | fail)
  obtain ⟨W5, hWb⟩ : ∃ W, W = Wb := ⟨_, rfl⟩
  subst hWb
  clear HMK
  clear x30 x31 x32 x3lt x40 x41 x42 x4lt x50 x51 x52 x5lt
  have s5 := hcur.size
  have K3_5 := Lib.hid (K3_4.out.below hcur (show W0.heap.size < W4.heap.size by omega))
  have K4_5 := Lib.hid (K4_4.out.below hcur (show W0.heap.size + 1 < W4.heap.size by omega))
  have K5_5 := Lib.hid (K5_4.out.below hcur (show W3.heap.size < W4.heap.size by omega))
  have Rm_5 := Lib.hid (Rm_4.out.below hcur (show W0.heap.size ≤ W4.heap.size by omega))
  have Rk_5 := Lib.hid (Rk_4.out.below hcur (show W0.heap.size ≤ W4.heap.size by omega))
  have Rx_5 := Lib.hid (Rx_4.out.below hcur (show W3.heap.size ≤ W4.heap.size by omega))
  have HB_5 := Lib.hid (HB_4.out.trans (hcur.mono (show w.heap.size ≤ W4.heap.size by omega)))
  clear K3_4 K4_4 K5_4 Rm_4 Rk_4 Rx_4 HB_4 hcur
  clear hra hba hbb
  by_cases hok : OkF r cc zs kr kc ks
  · obtain ⟨hpm, hkm, hka, h2, h1⟩ := fld_yes hok
    rw [HP.out.1, HP.out.2.1, HP.out.2.2] at hpm h2
    have hpr1 := hpm.1
    have hpl25 := hpm.len
    have HPM := Lib.hid hpm
    have HKM := Lib.hid hkm
    have HKA := Lib.hid hka
    have H2 := Lib.hid h2
    have H1 := Lib.hid h1
    have hnz : (pr == 0) = false := by simp; omega
    clear hok hpm hkm hka h2 h1
    have ro := one_row W5
    obtain ⟨W6, hW6⟩ : ∃ W, W5.alloc (.cells #[.int .i64 1] 3) = W := ⟨_, rfl⟩
    have z6 : W6.heap.size = W5.heap.size + 1 := by rw [← hW6]; simp
    rw [hW6, ← z6] at ro
    have hal : Below W5.heap.size W5 W6 := hW6 ▸ (Below.refl _ _).alloc (Nat.le_refl _) _
    have s6 := hal.size
    have K3_6 := Lib.hid (K3_5.out.below hal (show W0.heap.size < W5.heap.size by omega))
    have K4_6 := Lib.hid (K4_5.out.below hal (show W0.heap.size + 1 < W5.heap.size by omega))
    have K5_6 := Lib.hid (K5_5.out.below hal (show W3.heap.size < W5.heap.size by omega))
    have Rm_6 := Lib.hid (Rm_5.out.below hal (show W0.heap.size ≤ W5.heap.size by omega))
    have Rk_6 := Lib.hid (Rk_5.out.below hal (show W0.heap.size ≤ W5.heap.size by omega))
    have Rx_6 := Lib.hid (Rx_5.out.below hal (show W3.heap.size ≤ W5.heap.size by omega))
    have HB_6 := Lib.hid (HB_5.out.trans (hal.mono (show w.heap.size ≤ W5.heap.size by omega)))
    clear K3_5 K4_5 K5_5 Rm_5 Rk_5 Rx_5 HB_5 hal
    have Ro_6 := Lib.hid ro
    clear ro
    have kn := Cell3.new W6 (.int .i64 1) (.int .i64 1) (.slice (some ⟨W5.heap.size, 0, none⟩) 1 1) 26
    obtain ⟨W7, hW7⟩ : ∃ W, W6.alloc (.cells #[.int .i64 1, .int .i64 1, .slice (some ⟨W5.heap.size, 0, none⟩) 1 1] 26) = W := ⟨_, rfl⟩
    rw [hW7] at kn
    have z7 : W7.heap.size = W6.heap.size + 1 := by rw [← hW7]; simp
    have hal : Below W6.heap.size W6 W7 := hW7 ▸ (Below.refl _ _).alloc (Nat.le_refl _) _
    have s7 := hal.size
    have K3_7 := Lib.hid (K3_6.out.below hal (show W0.heap.size < W6.heap.size by omega))
    have K4_7 := Lib.hid (K4_6.out.below hal (show W0.heap.size + 1 < W6.heap.size by omega))
    have K5_7 := Lib.hid (K5_6.out.below hal (show W3.heap.size < W6.heap.size by omega))
    have Rm_7 := Lib.hid (Rm_6.out.below hal (show W0.heap.size ≤ W6.heap.size by omega))
    have Rk_7 := Lib.hid (Rk_6.out.below hal (show W0.heap.size ≤ W6.heap.size by omega))
    have Rx_7 := Lib.hid (Rx_6.out.below hal (show W3.heap.size ≤ W6.heap.size by omega))
    have Ro_7 := Lib.hid (Ro_6.out.below hal (show W6.heap.size ≤ W6.heap.size by omega))
    have HB_7 := Lib.hid (HB_6.out.trans (hal.mono (show w.heap.size ≤ W6.heap.size by omega)))
    clear K3_6 K4_6 K5_6 Rm_6 Rk_6 Rx_6 Ro_6 HB_6 hal
    have K6_7 := Lib.hid kn
    clear kn
    have K6_7 := Lib.hid (show Cell3 W7 (W5.heap.size + 1) _ _ _ by have h := K6_7.out; rw [z6] at h; exact h)
    obtain ⟨x30, x31, x32, _, _, _, x3lt⟩ := K3_7.out
    obtain ⟨x40, x41, x42, _, _, _, x4lt⟩ := K4_7.out
    obtain ⟨x50, x51, x52, _, _, _, x5lt⟩ := K5_7.out
    obtain ⟨x60, x61, x62, _, _, _, x6lt⟩ := K6_7.out
    have HMK := Lib.hid fun w' (hx : Below W7.heap.size W7 w') => (show (w'.cell? ⟨W0.heap.size, 0, none⟩ = some (.int .i64 (r)) ∧ w'.cell? ⟨W0.heap.size, 1, none⟩ = some (.int .i64 (cc)) ∧ w'.cell? ⟨W0.heap.size, 2, none⟩ = some (.slice Am zs.length cm)) ∧ (w'.cell? ⟨W0.heap.size + 1, 0, none⟩ = some (.int .i64 (kr)) ∧ w'.cell? ⟨W0.heap.size + 1, 1, none⟩ = some (.int .i64 (kc)) ∧ w'.cell? ⟨W0.heap.size + 1, 2, none⟩ = some (.slice Ak ks.length ck)) ∧ (w'.cell? ⟨W3.heap.size, 0, none⟩ = some (.int .i64 (pr)) ∧ w'.cell? ⟨W3.heap.size, 1, none⟩ = some (.int .i64 (pc)) ∧ w'.cell? ⟨W3.heap.size, 2, none⟩ = some (.slice Ax ps.length cx)) ∧ (w'.cell? ⟨W5.heap.size + 1, 0, none⟩ = some (.int .i64 (1)) ∧ w'.cell? ⟨W5.heap.size + 1, 1, none⟩ = some (.int .i64 (1)) ∧ w'.cell? ⟨W5.heap.size + 1, 2, none⟩ = some (.slice (some ⟨W5.heap.size, 0, none⟩) 1 1)) from ⟨⟨(K3_7.out.below hx (show _ < W7.heap.size by omega)).c0, (K3_7.out.below hx (show _ < W7.heap.size by omega)).c1, (K3_7.out.below hx (show _ < W7.heap.size by omega)).c2⟩, ⟨(K4_7.out.below hx (show _ < W7.heap.size by omega)).c0, (K4_7.out.below hx (show _ < W7.heap.size by omega)).c1, (K4_7.out.below hx (show _ < W7.heap.size by omega)).c2⟩, ⟨(K5_7.out.below hx (show _ < W7.heap.size by omega)).c0, (K5_7.out.below hx (show _ < W7.heap.size by omega)).c1, (K5_7.out.below hx (show _ < W7.heap.size by omega)).c2⟩, ⟨(K6_7.out.below hx (show _ < W7.heap.size by omega)).c0, (K6_7.out.below hx (show _ < W7.heap.size by omega)).c1, (K6_7.out.below hx (show _ < W7.heap.size by omega)).c2⟩⟩)
    have hcur : Below W7.heap.size W7 W7.drew := Below.of_drew _
    go_wp2
    go_region_held3 (fun w' => (w'.cell? ⟨W0.heap.size, 0, none⟩ = some (.int .i64 (r)) ∧ w'.cell? ⟨W0.heap.size, 1, none⟩ = some (.int .i64 (cc)) ∧ w'.cell? ⟨W0.heap.size, 2, none⟩ = some (.slice Am zs.length cm)) ∧ (w'.cell? ⟨W0.heap.size + 1, 0, none⟩ = some (.int .i64 (kr)) ∧ w'.cell? ⟨W0.heap.size + 1, 1, none⟩ = some (.int .i64 (kc)) ∧ w'.cell? ⟨W0.heap.size + 1, 2, none⟩ = some (.slice Ak ks.length ck)) ∧ (w'.cell? ⟨W3.heap.size, 0, none⟩ = some (.int .i64 (pr)) ∧ w'.cell? ⟨W3.heap.size, 1, none⟩ = some (.int .i64 (pc)) ∧ w'.cell? ⟨W3.heap.size, 2, none⟩ = some (.slice Ax ps.length cx)) ∧ (w'.cell? ⟨W5.heap.size + 1, 0, none⟩ = some (.int .i64 (1)) ∧ w'.cell? ⟨W5.heap.size + 1, 1, none⟩ = some (.int .i64 (1)) ∧ w'.cell? ⟨W5.heap.size + 1, 2, none⟩ = some (.slice (some ⟨W5.heap.size, 0, none⟩) 1 1)))
      (first | exact HMK.out _ hcur | exact HMK.out _ (hcur.alloc hcur.size _) | fail)
      (first
        | (go_simp; go_at_call 44; (with_reducible refine (implMV_yes pr pc Ax cx _ W7.heap.size ps W7.drew ((Rx_7.out.sl_now.more (show W3.heap.size ≤ W7.heap.size by omega)).below hcur (Nat.le_refl _)) hcur.size rfl (by omega) HPM.out).mono ?_); rintro e Wa ⟨rfl, hba⟩; have hcur := hcur.trans (hba.mono hcur.size))
        | (go_simp; go_at_call 45; (with_reducible refine (implAdd_yes kr kc Ak ck _ W7.heap.size ks Ak ck _ W7.heap.size ks Wa ((Rk_7.out.sl_now.more (show W0.heap.size ≤ W7.heap.size by omega)).below hcur (Nat.le_refl _)) hcur.size rfl ((Rk_7.out.sl_now.more (show W0.heap.size ≤ W7.heap.size by omega)).below hcur (Nat.le_refl _)) hcur.size rfl HKM.out HKM.out).mono ?_); rintro e Wb ⟨svb, rfl, hrb, hbb⟩; rw [addZ_pair] at hrb; obtain ⟨Ab, cb, rfl, hb1, hb2, _⟩ := hrb.form; have hcur := hcur.trans (hbb.mono hcur.size))
        | (go_simp; go_at_call 42; (with_reducible refine (implFold_any r cc Am cm _ W7.heap.size zs kr kc Ab cb _ Wb.heap.size (addZ ks ks) Wb ((Rm_7.out.sl_now.more (show W0.heap.size ≤ W7.heap.size by omega)).below hcur (Nat.le_refl _)) hcur.size rfl (by omega) hrb.sl_now (Nat.le_refl _) rfl (by rw [addZ_len]; omega) HCPm.out.1 HCPm.out.2 hb1 hb2).mono ?_); rintro e Wc ⟨svc, rfl, hrc, hbc⟩; rw [H2.out.1, H2.out.2.1]; rw [H2.out.2.2] at hrc; obtain ⟨Ac, cc2, rfl, _, _, _⟩ := hrc.form; have hcur := hcur.trans (hbc.mono hcur.size))
        | (go_simp; go_at_call 45; (with_reducible refine (implAdd_yes pr pc Ax cx _ W7.heap.size ps Ax cx _ W7.heap.size ps Wc ((Rx_7.out.sl_now.more (show W3.heap.size ≤ W7.heap.size by omega)).below hcur (Nat.le_refl _)) hcur.size rfl ((Rx_7.out.sl_now.more (show W3.heap.size ≤ W7.heap.size by omega)).below hcur (Nat.le_refl _)) hcur.size rfl HPM.out HPM.out).mono ?_); rintro e Wd ⟨svd, rfl, hrd, hbd⟩; rw [addZ_pair] at hrd; obtain ⟨Ad, cd, rfl, _, _, _⟩ := hrd.form; have hsc := (hrc.sl_now.below hbd (Nat.le_refl _)).more hbd.size; have hcur := hcur.trans (hbd.mono hcur.size))
        | (go_simp; go_at_call 23; (with_reducible refine (sameM_same pr pc Ac Ad cc2 cd (addZ ps ps) Wd hsc hrd.sl_now (by rw [addZ_len]; omega)).mono ?_); rintro e We ⟨rfl, hbe⟩; have hcur := hcur.trans (hbe.mono hcur.size))
        | (go_simp; go_at_call 42; (with_reducible refine (implFold_any r cc Am cm _ W7.heap.size zs 1 1 (some ⟨W5.heap.size, 0, none⟩) 1 1 W7.heap.size [1] We ((Rm_7.out.sl_now.more (show W0.heap.size ≤ W7.heap.size by omega)).below hcur (Nat.le_refl _)) hcur.size rfl (by omega) ((Ro_7.out.one_now.more (show W6.heap.size ≤ W7.heap.size by omega)).below hcur (Nat.le_refl _)) hcur.size rfl (by omega) HCPm.out.1 HCPm.out.2 (by omega) (by simp [maxLen])).mono ?_); rintro e Wf ⟨svf, rfl, hrf, hbf⟩; rw [H1.out.1, H1.out.2.1]; rw [H1.out.2.2] at hrf; obtain ⟨Af, cf, rfl, _, _, _⟩ := hrf.form; have hcur := hcur.trans (hbf.mono hcur.size))
        | (go_simp; go_at_call 23; (with_reducible refine (sameM_same r cc Af Am cf cm zs Wf hrf.sl_now (((Rm_7.out.sl_now.more (show W0.heap.size ≤ W7.heap.size by omega)).below hcur (Nat.le_refl _)).more hcur.size) (by omega)).mono ?_); rintro e Wg ⟨rfl, hbg⟩; have hcur := hcur.trans (hbg.mono hcur.size))
        | fail)
    go_wp2
    go_ret
    exact ⟨rfl, HB_7.out.trans (hcur.mono HB_7.out.size)⟩
  · have e1 : pr = 0 := by rw [← HP.out.1]; unfold fldR; rw [if_neg hok]
    have e2 : ps = [] := by rw [← HP.out.2.2]; unfold fldZ; rw [if_neg hok]
    subst e1 e2
    obtain ⟨x30, x31, x32, _, _, _, x3lt⟩ := K3_5.out
    obtain ⟨x40, x41, x42, _, _, _, x4lt⟩ := K4_5.out
    obtain ⟨x50, x51, x52, _, _, _, x5lt⟩ := K5_5.out
    go_wp2_with fail
    refine (alive_any _).mono ?_
    rintro e w' ⟨rfl, rfl⟩
    go_wp2
    go_ret
    exact ⟨rfl, HB_5.out⟩
end Go.Proofs.Ytakjmdjjpalaiaa
