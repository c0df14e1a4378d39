/- The walk of the law FnCellsMatrix. (Printed by gen_LawP.py.) -/
import Derived.Test.YtdebnbgjnmoleaaFnsH5
import Derived.Test.YtdebnbgjnmoleaaDrawH
import Derived.Test.YtdebnbgjnmoleaaListsC2
import Derived.Deep.RegionHeld3
namespace Go.Proofs.Ytdebnbgjnmoleaa
open Go.RowKit
/-- What a matrix of cells is. -/
theorem cm_yes {r c : Int} {ts : List Tri} (h : OkC r c ts) : cmR r c ts = r ∧ cmC r c ts = c ∧ cmB r c ts = true ∧ OkM r c (cmZ r c ts) ∧ cOf r c (cmZ r c ts) = ts := by
  classical
  obtain ⟨h1, h2, h3⟩ := id h
  obtain ⟨rn, rfl⟩ := Int.eq_ofNat_of_zero_le (show 0 ≤ r by omega)
  obtain ⟨cn, rfl⟩ := Int.eq_ofNat_of_zero_le (show 0 ≤ c by omega)
  have hZ : cmZ rn cn ts = putTo (rn * cn) cn ts ts.length := by
    unfold cmZ
    rw [if_pos h, show ((rn : Int) * (cn : Int)).toNat = rn * cn by rw [← Int.natCast_mul, Int.toNat_natCast]]
  have hok : OkM rn cn (cmZ rn cn ts) := by
    rw [hZ]
    exact ⟨h1, h2, by rw [putTo_len]; simp, fun j _ => putTo_ok (rn * cn) rn cn ts h3 ts.length (Nat.le_refl _) j⟩
  refine ⟨by unfold cmR; rw [if_pos h], by unfold cmC; rw [if_pos h], by unfold cmB; exact decide_eq_true h, hok, ?_⟩
  unfold cOf
  rw [if_pos hok, hZ, putTo_len, Int.toNat_natCast]
  exact cells_put_all (by omega) (by omega) h3
theorem cm_no {r c : Int} {ts : List Tri} (h : ¬ OkC r c ts) : cmR r c ts = 0 ∧ cmB r c ts = false := by
  classical
  exact ⟨by unfold cmR; rw [if_neg h], by unfold cmB; exact decide_eq_false h⟩
set_option maxRecDepth 20000 in
set_option maxHeartbeats 3200000 in
theorem law_FnCellsMatrix (w : World) (A : Option Addr) (n c : Nat) (h0 : Code8 w A n ∧ n ≤ c ∧ c ≤ maxLen) :
    Calls Try.prog 6 #[.slice A n c] w fun e w' => e = .returned (.bool true) ∧ Below w.heap.size w w' := by
  obtain ⟨hc, hnc, hcm⟩ := h0
  have hcm' := hcm
  unfold maxLen at hcm'
  by_cases hn : 1048576 < n
  · go_enter Try.func6, Try.ntmps6
    go_wp2
    go_ret
    exact ⟨rfl, Below.refl _ _⟩
  have hd1 : decide ((1048576 : Int) < (n : Int)) = false := by simp; omega
  go_enter Try.func6, Try.ntmps6
  go_wp2_with fail
  refine (drawCM A n c w (by omega) hnc hcm hc).mono ?_
  rintro e W0 ⟨r, cc, sv0, ts, rfl, hr, tl, r0, r1, c0, c1, hb⟩
  obtain ⟨Am, cm, rfl, hcp1, hcp2, _⟩ := hr.form
  clear hcp1 hcp2
  have s0 := hb.size
  have Rm_0 := Lib.hid hr
  have HB_0 := Lib.hid hb
  clear hr hb hc
  have hpl := cmZ_len r cc ts
  obtain ⟨pr, hpr⟩ : ∃ x, cmR r cc ts = x := ⟨_, rfl⟩
  obtain ⟨pc, hpc⟩ : ∃ x, cmC r cc ts = x := ⟨_, rfl⟩
  obtain ⟨ps, hps⟩ : ∃ x, cmZ r cc ts = x := ⟨_, rfl⟩
  obtain ⟨bb, hbb⟩ : ∃ x, cmB r cc ts = x := ⟨_, rfl⟩
  rw [hps] at hpl
  have HP := Lib.hid (And.intro hpr (And.intro hpc (And.intro hps hbb)))
  clear hpr hpc hps hbb
  go_wp2_with fail
  refine (implCM_any r cc Am cm W0.heap.size ts W0 (Rm_0.out.sl.2.more (show W0.heap.size ≤ W0.heap.size by omega)) (Nat.le_refl _) (by omega)).mono ?_
  rintro e W1 ⟨sv1, rfl, hr, hb⟩
  rw [HP.out.1, HP.out.2.1, HP.out.2.2.2]
  rw [HP.out.2.2.1] at hr
  obtain ⟨Ax, cx, rfl, hcp1, hcp2, _⟩ := hr.form
  have HCPx := Lib.hid (And.intro hcp1 hcp2)
  clear hcp1 hcp2
  have s1 := hb.size
  have Rm_1 := Lib.hid (Rm_0.out.below hb (show W0.heap.size ≤ W0.heap.size by omega))
  have HB_1 := Lib.hid (HB_0.out.trans (hb.mono (show w.heap.size ≤ W0.heap.size by omega)))
  clear Rm_0 HB_0 hb
  have Rx_1 := Lib.hid hr
  clear hr
  have kn := Cell3.new W1 (.int .i64 pr) (.int .i64 pc) (.slice Ax ps.length cx) 28
  obtain ⟨W2, hW2⟩ : ∃ W, W1.alloc (.cells #[.int .i64 pr, .int .i64 pc, .slice Ax ps.length cx] 28) = W := ⟨_, rfl⟩
  rw [hW2] at kn
  have z2 : W2.heap.size = W1.heap.size + 1 := by rw [← hW2]; simp
  have hal : Below W1.heap.size W1 W2 := hW2 ▸ (Below.refl _ _).alloc (Nat.le_refl _) _
  have s2 := hal.size
  have Rm_2 := Lib.hid (Rm_1.out.below hal (show W0.heap.size ≤ W1.heap.size by omega))
  have Rx_2 := Lib.hid (Rx_1.out.below hal (show W1.heap.size ≤ W1.heap.size by omega))
  have HB_2 := Lib.hid (HB_1.out.trans (hal.mono (show w.heap.size ≤ W1.heap.size by omega)))
  clear Rm_1 Rx_1 HB_1 hal
  have K6_2 := Lib.hid kn
  clear kn
  obtain ⟨x60, x61, x62, _, _, _, x6lt⟩ := K6_2.out
  go_wp2_with fail
  refine (specCM_any r cc Am cm W2.heap.size ts W2 (Rm_2.out.sl.2.more (show W0.heap.size ≤ W2.heap.size by omega)) (Nat.le_refl _) (by omega)).mono ?_
  rintro e W3 ⟨sv3, rfl, hr, hb⟩
  rw [HP.out.1, HP.out.2.1, HP.out.2.2.2]
  rw [HP.out.2.2.1] at hr
  obtain ⟨Ay, cy, rfl, hcp1, hcp2, _⟩ := hr.form
  have HCPy := Lib.hid (And.intro hcp1 hcp2)
  clear hcp1 hcp2
  clear x60 x61 x62 x6lt
  have s3 := hb.size
  have K6_3 := Lib.hid (K6_2.out.below hb (show W1.heap.size < W2.heap.size by omega))
  have Rm_3 := Lib.hid (Rm_2.out.below hb (show W0.heap.size ≤ W2.heap.size by omega))
  have Rx_3 := Lib.hid (Rx_2.out.below hb (show W1.heap.size ≤ W2.heap.size by omega))
  have HB_3 := Lib.hid (HB_2.out.trans (hb.mono (show w.heap.size ≤ W2.heap.size by omega)))
  clear K6_2 Rm_2 Rx_2 HB_2 hb
  have Ry_3 := Lib.hid hr
  clear hr
  have kn := Cell3.new W3 (.int .i64 pr) (.int .i64 pc) (.slice Ay ps.length cy) 28
  obtain ⟨W4, hW4⟩ : ∃ W, W3.alloc (.cells #[.int .i64 pr, .int .i64 pc, .slice Ay ps.length cy] 28) = W := ⟨_, rfl⟩
  rw [hW4] at kn
  have z4 : W4.heap.size = W3.heap.size + 1 := by rw [← hW4]; simp
  have hal : Below W3.heap.size W3 W4 := hW4 ▸ (Below.refl _ _).alloc (Nat.le_refl _) _
  have s4 := hal.size
  have K6_4 := Lib.hid (K6_3.out.below hal (show W1.heap.size < W3.heap.size by omega))
  have Rm_4 := Lib.hid (Rm_3.out.below hal (show W0.heap.size ≤ W3.heap.size by omega))
  have Rx_4 := Lib.hid (Rx_3.out.below hal (show W1.heap.size ≤ W3.heap.size by omega))
  have Ry_4 := Lib.hid (Ry_3.out.below hal (show W3.heap.size ≤ W3.heap.size by omega))
  have HB_4 := Lib.hid (HB_3.out.trans (hal.mono (show w.heap.size ≤ W3.heap.size by omega)))
  clear K6_3 Rm_3 Rx_3 Ry_3 HB_3 hal
  have K8_4 := Lib.hid kn
  clear kn
  obtain ⟨x60, x61, x62, _, _, _, x6lt⟩ := K6_4.out
  obtain ⟨x80, x81, x82, _, _, _, x8lt⟩ := K8_4.out
  go_wp2_with fail
  refine (sameM_same pr pc Ax Ay cx cy ps W4 (Rx_4.out.sl_now.more (show W1.heap.size ≤ W4.heap.size by omega)) (Ry_4.out.sl_now.more (show W3.heap.size ≤ W4.heap.size by omega)) (by omega)).mono ?_
  rintro e W5 ⟨rfl, hb⟩
  clear x60 x61 x62 x6lt x80 x81 x82 x8lt
  have s5 := hb.size
  have K6_5 := Lib.hid (K6_4.out.below hb (show W1.heap.size < W4.heap.size by omega))
  have K8_5 := Lib.hid (K8_4.out.below hb (show W3.heap.size < W4.heap.size by omega))
  have Rm_5 := Lib.hid (Rm_4.out.below hb (show W0.heap.size ≤ W4.heap.size by omega))
  have Rx_5 := Lib.hid (Rx_4.out.below hb (show W1.heap.size ≤ W4.heap.size by omega))
  have HB_5 := Lib.hid (HB_4.out.trans (hb.mono (show w.heap.size ≤ W4.heap.size by omega)))
  clear K6_4 K8_4 Rm_4 Rx_4 HB_4 hb
  by_cases hok : OkC r cc ts
  · obtain ⟨e1, e2, e3, e4, e5⟩ := cm_yes hok
    rw [HP.out.1] at e1
    rw [HP.out.2.1] at e2
    rw [HP.out.2.2.2] at e3
    rw [HP.out.2.2.1] at e4 e5
    subst e3
    obtain rfl := e1.symm
    obtain rfl := e2.symm
    have HOK := Lib.hid e4
    have HE := Lib.hid e5
    clear hok e4 e5
    obtain ⟨x60, x61, x62, _, _, _, x6lt⟩ := K6_5.out
    obtain ⟨x80, x81, x82, _, _, _, x8lt⟩ := K8_5.out
    go_wp2_with fail
    refine (implMV_yes r cc Ax cx _ W5.heap.size ps W5 (Rx_5.out.sl_now.more (show W1.heap.size ≤ W5.heap.size by omega)) (Nat.le_refl _) rfl (by omega) HOK.out).mono ?_
    rintro e W6 ⟨rfl, hb⟩
    clear x60 x61 x62 x6lt x80 x81 x82 x8lt
    have s6 := hb.size
    have K6_6 := Lib.hid (K6_5.out.below hb (show W1.heap.size < W5.heap.size by omega))
    have K8_6 := Lib.hid (K8_5.out.below hb (show W3.heap.size < W5.heap.size by omega))
    have Rm_6 := Lib.hid (Rm_5.out.below hb (show W0.heap.size ≤ W5.heap.size by omega))
    have Rx_6 := Lib.hid (Rx_5.out.below hb (show W1.heap.size ≤ W5.heap.size by omega))
    have HB_6 := Lib.hid (HB_5.out.trans (hb.mono (show w.heap.size ≤ W5.heap.size by omega)))
    clear K6_5 K8_5 Rm_5 Rx_5 HB_5 hb
    obtain ⟨x60, x61, x62, _, _, _, x6lt⟩ := K6_6.out
    obtain ⟨x80, x81, x82, _, _, _, x8lt⟩ := K8_6.out
    go_wp2_with fail
    refine (implCells_any r cc Ax cx _ W6.heap.size ps W6 (Rx_6.out.sl_now.more (show W1.heap.size ≤ W6.heap.size by omega)) (Nat.le_refl _) rfl (by omega) HCPx.out.1 HCPx.out.2).mono ?_
    rintro e W7 ⟨sv7, rfl, hr, hb⟩
    rw [HE.out] at hr
    obtain ⟨Az, cz, rfl, hcp1, hcp2, _⟩ := hr.form
    have HCPz := Lib.hid (And.intro hcp1 hcp2)
    clear hcp1 hcp2
    clear x60 x61 x62 x6lt x80 x81 x82 x8lt
    have s7 := hb.size
    have K6_7 := Lib.hid (K6_6.out.below hb (show W1.heap.size < W6.heap.size by omega))
    have K8_7 := Lib.hid (K8_6.out.below hb (show W3.heap.size < W6.heap.size by omega))
    have Rm_7 := Lib.hid (Rm_6.out.below hb (show W0.heap.size ≤ W6.heap.size by omega))
    have Rx_7 := Lib.hid (Rx_6.out.below hb (show W1.heap.size ≤ W6.heap.size by omega))
    have HB_7 := Lib.hid (HB_6.out.trans (hb.mono (show w.heap.size ≤ W6.heap.size by omega)))
    clear K6_6 K8_6 Rm_6 Rx_6 HB_6 hb
    have Rz_7 := Lib.hid hr
    clear hr
    obtain ⟨x60, x61, x62, _, _, _, x6lt⟩ := K6_7.out
    obtain ⟨x80, x81, x82, _, _, _, x8lt⟩ := K8_7.out
    go_wp2_with fail
    refine (sameC_same W7.heap.size W7.heap.size Az Am cz cm ts W7 (Rz_7.out.sl.2.more (show W7.heap.size ≤ W7.heap.size by omega)) (Rm_7.out.sl.2.more (show W0.heap.size ≤ W7.heap.size by omega)) (by omega)).mono ?_
    rintro e W8 ⟨rfl, hd⟩
    have hb := hd.below W7.heap.size
    clear hd
    clear x60 x61 x62 x6lt x80 x81 x82 x8lt
    have s8 := hb.size
    have K6_8 := Lib.hid (K6_7.out.below hb (show W1.heap.size < W7.heap.size by omega))
    have K8_8 := Lib.hid (K8_7.out.below hb (show W3.heap.size < W7.heap.size by omega))
    have Rm_8 := Lib.hid (Rm_7.out.below hb (show W0.heap.size ≤ W7.heap.size by omega))
    have Rx_8 := Lib.hid (Rx_7.out.below hb (show W1.heap.size ≤ W7.heap.size by omega))
    have Rz_8 := Lib.hid (Rz_7.out.below hb (show W7.heap.size ≤ W7.heap.size by omega))
    have HB_8 := Lib.hid (HB_7.out.trans (hb.mono (show w.heap.size ≤ W7.heap.size by omega)))
    clear K6_7 K8_7 Rm_7 Rx_7 Rz_7 HB_7 hb
    obtain ⟨x60, x61, x62, _, _, _, x6lt⟩ := K6_8.out
    obtain ⟨x80, x81, x82, _, _, _, x8lt⟩ := K8_8.out
    go_wp2
    go_ret
    exact ⟨rfl, HB_8.out⟩
  · obtain ⟨e1, e2⟩ := cm_no hok
    rw [HP.out.1] at e1
    rw [HP.out.2.2.2] at e2
    subst e1 e2
    clear hok
    obtain ⟨x60, x61, x62, _, _, _, x6lt⟩ := K6_5.out
    obtain ⟨x80, x81, x82, _, _, _, x8lt⟩ := K8_5.out
    go_wp2_with fail
    refine (alive_any _).mono ?_
    rintro e w' ⟨rfl, rfl⟩
    go_wp2
    go_ret
    exact ⟨rfl, HB_5.out⟩
end Go.Proofs.Ytdebnbgjnmoleaa
