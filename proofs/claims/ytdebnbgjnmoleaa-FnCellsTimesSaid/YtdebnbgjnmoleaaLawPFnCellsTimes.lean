/- The walk of the law FnCellsTimes. (Printed by gen_LawP.py.) -/
import Derived.Test.YtdebnbgjnmoleaaFnsH8
import Derived.Test.YtdebnbgjnmoleaaDrawH
import Derived.Test.YtdebnbgjnmoleaaFnsH7
import Derived.Test.YtdebnbgjnmoleaaListsC2
import Derived.Deep.RegionHeld3
namespace Go.Proofs.Ytdebnbgjnmoleaa
open Go.RowKit
/-- What a product of cells is. -/
theorem ct_yes {r c mr mc : Int} {ts : List Tri} {ms : List Int} (h : OkT r c ts mr mc ms) : mr = c ∧ ctR r c ts mr mc ms = r ∧ ctC r c ts mr mc ms = mc ∧ ctB r c ts mr mc ms = true ∧ cmR r c ts = r ∧ cmC r c ts = c ∧ cmB r c ts = true ∧ OkM r c (cmZ r c ts) ∧ OkM mr mc ms ∧
    mulZ r.toNat c.toNat mc.toNat (cmZ r c ts) ms = ctZ r c ts mr mc ms := by
  classical
  obtain ⟨hC, hM, rfl⟩ := id h
  obtain ⟨h1, h2, h3⟩ := id hC
  have h4 := hM.2.1
  refine ⟨rfl, by unfold ctR; rw [if_pos h], by unfold ctC; rw [if_pos h], by unfold ctB; exact decide_eq_true h, by unfold cmR; rw [if_pos hC], by unfold cmC; rw [if_pos hC], by unfold cmB; exact decide_eq_true hC, ?_, hM, ?_⟩
  · obtain ⟨rn, rfl⟩ := Int.eq_ofNat_of_zero_le (show 0 ≤ r by omega)
    obtain ⟨cn, rfl⟩ := Int.eq_ofNat_of_zero_le (show 0 ≤ mr by omega)
    unfold cmZ
    rw [if_pos hC, show ((rn : Int) * (cn : Int)).toNat = rn * cn by rw [← Int.natCast_mul, Int.toNat_natCast]]
    exact ⟨h1, h2, by rw [putTo_len]; simp, fun j _ => putTo_ok (rn * cn) rn cn ts h3 ts.length (Nat.le_refl _) j⟩
  · obtain ⟨rn, rfl⟩ := Int.eq_ofNat_of_zero_le (show 0 ≤ r by omega)
    obtain ⟨cn, rfl⟩ := Int.eq_ofNat_of_zero_le (show 0 ≤ mr by omega)
    obtain ⟨mn, rfl⟩ := Int.eq_ofNat_of_zero_le (show 0 ≤ mc by omega)
    unfold cmZ ctZ
    rw [if_pos hC, if_pos h, show ((rn : Int) * (cn : Int)).toNat = rn * cn by rw [← Int.natCast_mul, Int.toNat_natCast], show ((rn : Int) * (mn : Int)).toNat = rn * mn by rw [← Int.natCast_mul, Int.toNat_natCast], Int.toNat_natCast, Int.toNat_natCast, Int.toNat_natCast]
    exact (times_all rn cn mn ms ts (by omega) (by omega) h3).symm
theorem ct_no {r c mr mc : Int} {ts : List Tri} {ms : List Int} (h : ¬ OkT r c ts mr mc ms) : ctR r c ts mr mc ms = 0 ∧ ctB r c ts mr mc ms = false := by
  classical
  exact ⟨by unfold ctR; rw [if_neg h], by unfold ctB; exact decide_eq_false h⟩
set_option maxRecDepth 20000 in
set_option maxHeartbeats 3200000 in
theorem law_FnCellsTimes (w : World) (A : Option Addr) (n c : Nat) (h0 : Code8 w A n ∧ n ≤ c ∧ c ≤ maxLen) :
    Calls Try.prog 8 #[.slice A n c] w fun e w' => e = .returned (.bool true) ∧ Below w.heap.size w w' := by
  obtain ⟨hc, hnc, hcm⟩ := h0
  have hcm' := hcm
  unfold maxLen at hcm'
  by_cases hn : 1048576 < n
  · go_enter Try.func8, Try.ntmps8
    go_wp2
    go_ret
    exact ⟨rfl, Below.refl _ _⟩
  have hd1 : decide ((1048576 : Int) < (n : Int)) = false := by simp; omega
  go_enter Try.func8, Try.ntmps8
  go_wp2_with fail
  refine (drawCT2 A n c w (by omega) hnc hcm hc).mono ?_
  rintro e W0 ⟨r, cc, sv0, ts, r2, c2, sv2, zs, rfl, hrC, tl, r0, r1, c0, c1, hr, zl, hb⟩
  obtain ⟨Ak, ck, rfl, _, _, _⟩ := hrC.form
  obtain ⟨Am, cm, rfl, hcp1, hcp2, _⟩ := hr.form
  have HCPm := Lib.hid (And.intro hcp1 hcp2)
  clear hcp1 hcp2
  have s0 := hb.size
  have Rk_0 := Lib.hid hrC
  have Rm_0 := Lib.hid hr
  have HB_0 := Lib.hid hb
  clear hr hrC hb hc
  have kn := Cell3.new W0 (.int .i64 r2) (.int .i64 c2) (.slice Am zs.length cm) 28
  obtain ⟨W1, hW1⟩ : ∃ W, W0.alloc (.cells #[.int .i64 r2, .int .i64 c2, .slice Am zs.length cm] 28) = W := ⟨_, rfl⟩
  rw [hW1] at kn
  have z1 : W1.heap.size = W0.heap.size + 1 := by rw [← hW1]; simp
  have hal : Below W0.heap.size W0 W1 := hW1 ▸ (Below.refl _ _).alloc (Nat.le_refl _) _
  have s1 := hal.size
  have Rk_1 := Lib.hid (Rk_0.out.below hal (show W0.heap.size ≤ W0.heap.size by omega))
  have Rm_1 := Lib.hid (Rm_0.out.below hal (show W0.heap.size ≤ W0.heap.size by omega))
  have HB_1 := Lib.hid (HB_0.out.trans (hal.mono (show w.heap.size ≤ W0.heap.size by omega)))
  clear Rk_0 Rm_0 HB_0 hal
  have K6_1 := Lib.hid kn
  clear kn
  have hpl := ctZ_len r cc ts r2 c2 zs
  obtain ⟨pr, hpr⟩ : ∃ x, ctR r cc ts r2 c2 zs = x := ⟨_, rfl⟩
  obtain ⟨pc, hpc⟩ : ∃ x, ctC r cc ts r2 c2 zs = x := ⟨_, rfl⟩
  obtain ⟨ps, hps⟩ : ∃ x, ctZ r cc ts r2 c2 zs = x := ⟨_, rfl⟩
  obtain ⟨bb, hbb⟩ : ∃ x, ctB r cc ts r2 c2 zs = x := ⟨_, rfl⟩
  rw [hps] at hpl
  have HP := Lib.hid (And.intro hpr (And.intro hpc (And.intro hps hbb)))
  clear hpr hpc hps hbb
  obtain ⟨x60, x61, x62, _, _, _, x6lt⟩ := K6_1.out
  go_wp2_with fail
  refine (implCT_any r cc Ak ck W1.heap.size ts r2 c2 Am cm _ W1.heap.size zs W1 (Rk_1.out.sl.2.more (show W0.heap.size ≤ W1.heap.size by omega)) (Nat.le_refl _) (by omega) (Rm_1.out.sl_now.more (show W0.heap.size ≤ W1.heap.size by omega)) (Nat.le_refl _) rfl (by omega) HCPm.out.1 HCPm.out.2).mono ?_
  rintro e W2 ⟨sv2, rfl, hr, hb⟩
  rw [HP.out.1, HP.out.2.1, HP.out.2.2.2]
  rw [HP.out.2.2.1] at hr
  obtain ⟨Ax, cx, rfl, hcp1, hcp2, _⟩ := hr.form
  clear hcp1 hcp2
  clear x60 x61 x62 x6lt
  have s2 := hb.size
  have K6_2 := Lib.hid (K6_1.out.below hb (show W0.heap.size < W1.heap.size by omega))
  have Rk_2 := Lib.hid (Rk_1.out.below hb (show W0.heap.size ≤ W1.heap.size by omega))
  have Rm_2 := Lib.hid (Rm_1.out.below hb (show W0.heap.size ≤ W1.heap.size by omega))
  have HB_2 := Lib.hid (HB_1.out.trans (hb.mono (show w.heap.size ≤ W1.heap.size by omega)))
  clear K6_1 Rk_1 Rm_1 HB_1 hb
  have Rx_2 := Lib.hid hr
  clear hr
  have kn := Cell3.new W2 (.int .i64 pr) (.int .i64 pc) (.slice Ax ps.length cx) 28
  obtain ⟨W3, hW3⟩ : ∃ W, W2.alloc (.cells #[.int .i64 pr, .int .i64 pc, .slice Ax ps.length cx] 28) = W := ⟨_, rfl⟩
  rw [hW3] at kn
  have z3 : W3.heap.size = W2.heap.size + 1 := by rw [← hW3]; simp
  have hal : Below W2.heap.size W2 W3 := hW3 ▸ (Below.refl _ _).alloc (Nat.le_refl _) _
  have s3 := hal.size
  have K6_3 := Lib.hid (K6_2.out.below hal (show W0.heap.size < W2.heap.size by omega))
  have Rk_3 := Lib.hid (Rk_2.out.below hal (show W0.heap.size ≤ W2.heap.size by omega))
  have Rm_3 := Lib.hid (Rm_2.out.below hal (show W0.heap.size ≤ W2.heap.size by omega))
  have Rx_3 := Lib.hid (Rx_2.out.below hal (show W2.heap.size ≤ W2.heap.size by omega))
  have HB_3 := Lib.hid (HB_2.out.trans (hal.mono (show w.heap.size ≤ W2.heap.size by omega)))
  clear K6_2 Rk_2 Rm_2 Rx_2 HB_2 hal
  have K7_3 := Lib.hid kn
  clear kn
  obtain ⟨x60, x61, x62, _, _, _, x6lt⟩ := K6_3.out
  obtain ⟨x70, x71, x72, _, _, _, x7lt⟩ := K7_3.out
  go_wp2_with fail
  refine (specCT_any r cc Ak ck W3.heap.size ts r2 c2 Am cm _ W3.heap.size zs W3 (Rk_3.out.sl.2.more (show W0.heap.size ≤ W3.heap.size by omega)) (Nat.le_refl _) (by omega) (Rm_3.out.sl_now.more (show W0.heap.size ≤ W3.heap.size by omega)) (Nat.le_refl _) rfl (by omega)).mono ?_
  rintro e W4 ⟨sv4, rfl, hr, hb⟩
  rw [HP.out.1, HP.out.2.1, HP.out.2.2.2]
  rw [HP.out.2.2.1] at hr
  obtain ⟨Ay, cy, rfl, hcp1, hcp2, _⟩ := hr.form
  clear hcp1 hcp2
  clear x60 x61 x62 x6lt x70 x71 x72 x7lt
  have s4 := hb.size
  have K6_4 := Lib.hid (K6_3.out.below hb (show W0.heap.size < W3.heap.size by omega))
  have K7_4 := Lib.hid (K7_3.out.below hb (show W2.heap.size < W3.heap.size by omega))
  have Rk_4 := Lib.hid (Rk_3.out.below hb (show W0.heap.size ≤ W3.heap.size by omega))
  have Rm_4 := Lib.hid (Rm_3.out.below hb (show W0.heap.size ≤ W3.heap.size by omega))
  have Rx_4 := Lib.hid (Rx_3.out.below hb (show W2.heap.size ≤ W3.heap.size by omega))
  have HB_4 := Lib.hid (HB_3.out.trans (hb.mono (show w.heap.size ≤ W3.heap.size by omega)))
  clear K6_3 K7_3 Rk_3 Rm_3 Rx_3 HB_3 hb
  have Ry_4 := Lib.hid hr
  clear hr
  have kn := Cell3.new W4 (.int .i64 pr) (.int .i64 pc) (.slice Ay ps.length cy) 28
  obtain ⟨W5, hW5⟩ : ∃ W, W4.alloc (.cells #[.int .i64 pr, .int .i64 pc, .slice Ay ps.length cy] 28) = W := ⟨_, rfl⟩
  rw [hW5] at kn
  have z5 : W5.heap.size = W4.heap.size + 1 := by rw [← hW5]; simp
  have hal : Below W4.heap.size W4 W5 := hW5 ▸ (Below.refl _ _).alloc (Nat.le_refl _) _
  have s5 := hal.size
  have K6_5 := Lib.hid (K6_4.out.below hal (show W0.heap.size < W4.heap.size by omega))
  have K7_5 := Lib.hid (K7_4.out.below hal (show W2.heap.size < W4.heap.size by omega))
  have Rk_5 := Lib.hid (Rk_4.out.below hal (show W0.heap.size ≤ W4.heap.size by omega))
  have Rm_5 := Lib.hid (Rm_4.out.below hal (show W0.heap.size ≤ W4.heap.size by omega))
  have Rx_5 := Lib.hid (Rx_4.out.below hal (show W2.heap.size ≤ W4.heap.size by omega))
  have Ry_5 := Lib.hid (Ry_4.out.below hal (show W4.heap.size ≤ W4.heap.size by omega))
  have HB_5 := Lib.hid (HB_4.out.trans (hal.mono (show w.heap.size ≤ W4.heap.size by omega)))
  clear K6_4 K7_4 Rk_4 Rm_4 Rx_4 Ry_4 HB_4 hal
  have K9_5 := Lib.hid kn
  clear kn
  obtain ⟨x60, x61, x62, _, _, _, x6lt⟩ := K6_5.out
  obtain ⟨x70, x71, x72, _, _, _, x7lt⟩ := K7_5.out
  obtain ⟨x90, x91, x92, _, _, _, x9lt⟩ := K9_5.out
  go_wp2_with fail
  refine (sameM_same pr pc Ax Ay cx cy ps W5 (Rx_5.out.sl_now.more (show W2.heap.size ≤ W5.heap.size by omega)) (Ry_5.out.sl_now.more (show W4.heap.size ≤ W5.heap.size by omega)) (by omega)).mono ?_
  rintro e W6 ⟨rfl, hb⟩
  clear x60 x61 x62 x6lt x70 x71 x72 x7lt x90 x91 x92 x9lt
  have s6 := hb.size
  have K6_6 := Lib.hid (K6_5.out.below hb (show W0.heap.size < W5.heap.size by omega))
  have K7_6 := Lib.hid (K7_5.out.below hb (show W2.heap.size < W5.heap.size by omega))
  have K9_6 := Lib.hid (K9_5.out.below hb (show W4.heap.size < W5.heap.size by omega))
  have Rk_6 := Lib.hid (Rk_5.out.below hb (show W0.heap.size ≤ W5.heap.size by omega))
  have Rm_6 := Lib.hid (Rm_5.out.below hb (show W0.heap.size ≤ W5.heap.size by omega))
  have Rx_6 := Lib.hid (Rx_5.out.below hb (show W2.heap.size ≤ W5.heap.size by omega))
  have HB_6 := Lib.hid (HB_5.out.trans (hb.mono (show w.heap.size ≤ W5.heap.size by omega)))
  clear K6_5 K7_5 K9_5 Rk_5 Rm_5 Rx_5 HB_5 hb
  by_cases hok : OkT r cc ts r2 c2 zs
  · obtain ⟨e0, e1, e2, e3, e4, e5, e6, e7, e8, e9⟩ := ct_yes hok
    have hfl := cmZ_len r cc ts
    obtain ⟨fs, hfs⟩ : ∃ x, cmZ r cc ts = x := ⟨_, rfl⟩
    rw [hfs] at hfl e7 e9
    rw [HP.out.1] at e1
    rw [HP.out.2.1] at e2
    rw [HP.out.2.2.2] at e3
    rw [HP.out.2.2.1] at e9
    subst e3 e0
    obtain rfl := e1.symm
    obtain rfl := e2.symm
    have HF := Lib.hid e7
    have HM := Lib.hid e8
    have HE := Lib.hid (And.intro e4 (And.intro e5 (And.intro e6 (And.intro hfs e9))))
    clear hok e4 e5 e6 e7 e8 e9 hfs
    obtain ⟨x60, x61, x62, _, _, _, x6lt⟩ := K6_6.out
    obtain ⟨x70, x71, x72, _, _, _, x7lt⟩ := K7_6.out
    obtain ⟨x90, x91, x92, _, _, _, x9lt⟩ := K9_6.out
    go_wp2_with fail
    refine (implCM_any r r2 Ak ck W6.heap.size ts W6 (Rk_6.out.sl.2.more (show W0.heap.size ≤ W6.heap.size by omega)) (Nat.le_refl _) (by omega)).mono ?_
    rintro e W7 ⟨sv7, rfl, hr, hb⟩
    rw [HE.out.1, HE.out.2.1, HE.out.2.2.1]
    rw [HE.out.2.2.2.1] at hr
    obtain ⟨Af, cf, rfl, hcp1, hcp2, _⟩ := hr.form
    have HCPf := Lib.hid (And.intro hcp1 hcp2)
    clear hcp1 hcp2
    clear x60 x61 x62 x6lt x70 x71 x72 x7lt x90 x91 x92 x9lt
    have s7 := hb.size
    have K6_7 := Lib.hid (K6_6.out.below hb (show W0.heap.size < W6.heap.size by omega))
    have K7_7 := Lib.hid (K7_6.out.below hb (show W2.heap.size < W6.heap.size by omega))
    have K9_7 := Lib.hid (K9_6.out.below hb (show W4.heap.size < W6.heap.size by omega))
    have Rk_7 := Lib.hid (Rk_6.out.below hb (show W0.heap.size ≤ W6.heap.size by omega))
    have Rm_7 := Lib.hid (Rm_6.out.below hb (show W0.heap.size ≤ W6.heap.size by omega))
    have Rx_7 := Lib.hid (Rx_6.out.below hb (show W2.heap.size ≤ W6.heap.size by omega))
    have HB_7 := Lib.hid (HB_6.out.trans (hb.mono (show w.heap.size ≤ W6.heap.size by omega)))
    clear K6_6 K7_6 K9_6 Rk_6 Rm_6 Rx_6 HB_6 hb
    have Rf_7 := Lib.hid hr
    clear hr
    have kn := Cell3.new W7 (.int .i64 r) (.int .i64 r2) (.slice Af fs.length cf) 28
    obtain ⟨W8, hW8⟩ : ∃ W, W7.alloc (.cells #[.int .i64 r, .int .i64 r2, .slice Af fs.length cf] 28) = W := ⟨_, rfl⟩
    rw [hW8] at kn
    have z8 : W8.heap.size = W7.heap.size + 1 := by rw [← hW8]; simp
    have hal : Below W7.heap.size W7 W8 := hW8 ▸ (Below.refl _ _).alloc (Nat.le_refl _) _
    have s8 := hal.size
    have K6_8 := Lib.hid (K6_7.out.below hal (show W0.heap.size < W7.heap.size by omega))
    have K7_8 := Lib.hid (K7_7.out.below hal (show W2.heap.size < W7.heap.size by omega))
    have K9_8 := Lib.hid (K9_7.out.below hal (show W4.heap.size < W7.heap.size by omega))
    have Rk_8 := Lib.hid (Rk_7.out.below hal (show W0.heap.size ≤ W7.heap.size by omega))
    have Rm_8 := Lib.hid (Rm_7.out.below hal (show W0.heap.size ≤ W7.heap.size by omega))
    have Rx_8 := Lib.hid (Rx_7.out.below hal (show W2.heap.size ≤ W7.heap.size by omega))
    have Rf_8 := Lib.hid (Rf_7.out.below hal (show W7.heap.size ≤ W7.heap.size by omega))
    have HB_8 := Lib.hid (HB_7.out.trans (hal.mono (show w.heap.size ≤ W7.heap.size by omega)))
    clear K6_7 K7_7 K9_7 Rk_7 Rm_7 Rx_7 Rf_7 HB_7 hal
    have K11_8 := Lib.hid kn
    clear kn
    obtain ⟨x60, x61, x62, _, _, _, x6lt⟩ := K6_8.out
    obtain ⟨x70, x71, x72, _, _, _, x7lt⟩ := K7_8.out
    obtain ⟨x90, x91, x92, _, _, _, x9lt⟩ := K9_8.out
    obtain ⟨x110, x111, x112, _, _, _, x11lt⟩ := K11_8.out
    have HMK := Lib.hid fun w' (hx : Below W8.heap.size W8 w') => (show (w'.cell? ⟨W0.heap.size, 0, none⟩ = some (.int .i64 (r2)) ∧ w'.cell? ⟨W0.heap.size, 1, none⟩ = some (.int .i64 (c2)) ∧ w'.cell? ⟨W0.heap.size, 2, none⟩ = some (.slice Am zs.length cm)) ∧ (w'.cell? ⟨W2.heap.size, 0, none⟩ = some (.int .i64 (r)) ∧ w'.cell? ⟨W2.heap.size, 1, none⟩ = some (.int .i64 (c2)) ∧ w'.cell? ⟨W2.heap.size, 2, none⟩ = some (.slice Ax ps.length cx)) ∧ (w'.cell? ⟨W7.heap.size, 0, none⟩ = some (.int .i64 (r)) ∧ w'.cell? ⟨W7.heap.size, 1, none⟩ = some (.int .i64 (r2)) ∧ w'.cell? ⟨W7.heap.size, 2, none⟩ = some (.slice Af fs.length cf)) from ⟨⟨(K6_8.out.below hx (show _ < W8.heap.size by omega)).c0, (K6_8.out.below hx (show _ < W8.heap.size by omega)).c1, (K6_8.out.below hx (show _ < W8.heap.size by omega)).c2⟩, ⟨(K7_8.out.below hx (show _ < W8.heap.size by omega)).c0, (K7_8.out.below hx (show _ < W8.heap.size by omega)).c1, (K7_8.out.below hx (show _ < W8.heap.size by omega)).c2⟩, ⟨(K11_8.out.below hx (show _ < W8.heap.size by omega)).c0, (K11_8.out.below hx (show _ < W8.heap.size by omega)).c1, (K11_8.out.below hx (show _ < W8.heap.size by omega)).c2⟩⟩)
    have hcur : Below W8.heap.size W8 W8.drew := Below.of_drew _
    go_wp2
    go_region_held3 (fun w' => (w'.cell? ⟨W0.heap.size, 0, none⟩ = some (.int .i64 (r2)) ∧ w'.cell? ⟨W0.heap.size, 1, none⟩ = some (.int .i64 (c2)) ∧ w'.cell? ⟨W0.heap.size, 2, none⟩ = some (.slice Am zs.length cm)) ∧ (w'.cell? ⟨W2.heap.size, 0, none⟩ = some (.int .i64 (r)) ∧ w'.cell? ⟨W2.heap.size, 1, none⟩ = some (.int .i64 (c2)) ∧ w'.cell? ⟨W2.heap.size, 2, none⟩ = some (.slice Ax ps.length cx)) ∧ (w'.cell? ⟨W7.heap.size, 0, none⟩ = some (.int .i64 (r)) ∧ w'.cell? ⟨W7.heap.size, 1, none⟩ = some (.int .i64 (r2)) ∧ w'.cell? ⟨W7.heap.size, 2, none⟩ = some (.slice Af fs.length cf)))
      (first | exact HMK.out _ hcur | exact HMK.out _ (hcur.alloc hcur.size _) | fail)
      (first
        | (go_simp; go_at_call 34; (with_reducible refine (implMul_int r r2 c2 Af cf _ W8.heap.size fs Am cm _ W8.heap.size zs W8.drew ((Rf_8.out.sl_now.more (show W7.heap.size ≤ W8.heap.size by omega)).below hcur (Nat.le_refl _)) hcur.size rfl ((Rm_8.out.sl_now.more (show W0.heap.size ≤ W8.heap.size by omega)).below hcur (Nat.le_refl _)) hcur.size rfl HF.out HM.out HCPf.out.1 HCPf.out.2).mono ?_); rintro e Wa ⟨sva, rfl, hra, hba⟩; rw [HE.out.2.2.2.2] at hra; obtain ⟨Aq, cq, rfl, _, _, _⟩ := hra.form; have hcur := hcur.trans (hba.mono hcur.size))
        | (go_simp; go_at_call 25; (with_reducible refine (sameM_same r c2 Ax Aq cx cq ps Wa (((Rx_8.out.sl_now.more (show W2.heap.size ≤ W8.heap.size by omega)).below hcur (Nat.le_refl _)).more hcur.size) hra.sl_now (by omega)).mono ?_); rintro e Wb ⟨rfl, hbb⟩; have hcur := hcur.trans (hbb.mono hcur.size))
        | fail)
    go_wp2
    go_ret
    exact ⟨rfl, HB_8.out.trans (hcur.mono HB_8.out.size)⟩
  · obtain ⟨e1, e2⟩ := ct_no hok
    rw [HP.out.1] at e1
    rw [HP.out.2.2.2] at e2
    subst e1 e2
    clear hok
    obtain ⟨x60, x61, x62, _, _, _, x6lt⟩ := K6_6.out
    obtain ⟨x70, x71, x72, _, _, _, x7lt⟩ := K7_6.out
    obtain ⟨x90, x91, x92, _, _, _, x9lt⟩ := K9_6.out
    go_wp2_with fail
    refine (alive_any _).mono ?_
    rintro e w' ⟨rfl, rfl⟩
    go_wp2
    go_ret
    exact ⟨rfl, HB_6.out⟩
end Go.Proofs.Ytdebnbgjnmoleaa
