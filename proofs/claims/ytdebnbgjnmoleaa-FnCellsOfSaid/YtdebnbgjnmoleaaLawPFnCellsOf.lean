/- The walk of the law FnCellsOf. (Printed by gen_LawP.py.) -/
import Derived.Test.YtdebnbgjnmoleaaFnsH5
import Derived.Test.YtdebnbgjnmoleaaDrawH
import Derived.Test.YtdebnbgjnmoleaaListsC2
import Derived.Deep.RegionHeld3
namespace Go.Proofs.Ytdebnbgjnmoleaa
open Go.RowKit
/-- The cells of a matrix give the matrix back. -/
theorem cells_back {r c : Int} {zs : List Int} (h : OkM r c zs) : cmR r c (cOf r c zs) = r ∧ cmC r c (cOf r c zs) = c ∧ cmZ r c (cOf r c zs) = zs ∧ cmB r c (cOf r c zs) = true := by
  classical
  have hC : cOf r c zs = cellsTo c.toNat zs zs.length := by unfold cOf; rw [if_pos h]
  obtain ⟨h1, h2, h3, h4⟩ := id h
  obtain ⟨rn, rfl⟩ := Int.eq_ofNat_of_zero_le (show 0 ≤ r by omega)
  obtain ⟨cn, rfl⟩ := Int.eq_ofNat_of_zero_le (show 0 ≤ c by omega)
  have hl : zs.length = rn * cn := by
    have e : ((rn * cn : Nat) : Int) = (rn : Int) * (cn : Int) := by simp
    omega
  rw [Int.toNat_natCast, hl] at hC
  have hk := cellsTo_ok rn cn zs h4 hl (by omega) (rn * cn) (Nat.le_refl _)
  have hok : OkC rn cn (cOf rn cn zs) := ⟨h1, h2, by rw [hC]; exact hk.1⟩
  refine ⟨by unfold cmR; rw [if_pos hok], by unfold cmC; rw [if_pos hok], ?_, by unfold cmB; exact decide_eq_true hok⟩
  unfold cmZ
  rw [if_pos hok, show ((rn : Int) * (cn : Int)).toNat = rn * cn by rw [← Int.natCast_mul, Int.toNat_natCast], hC]
  exact put_cells rn cn zs h4 hl (by omega)
theorem cOf_none {r c : Int} {zs : List Int} (h : ¬ OkM r c zs) : cOf r c zs = [] := by unfold cOf; rw [if_neg h]
set_option maxRecDepth 20000 in
set_option maxHeartbeats 3200000 in
theorem law_FnCellsOf (w : World) (A : Option Addr) (n c : Nat) (h0 : Code8 w A n ∧ n ≤ c ∧ c ≤ maxLen) :
    Calls Try.prog 4 #[.slice A n c] w fun e w' => e = .returned (.bool true) ∧ Below w.heap.size w w' := by
  obtain ⟨hc, hnc, hcm⟩ := h0
  have hcm' := hcm
  unfold maxLen at hcm'
  by_cases hn : 1048576 < n
  · go_enter Try.func4, Try.ntmps4
    go_wp2
    go_ret
    exact ⟨rfl, Below.refl _ _⟩
  have hd1 : decide ((1048576 : Int) < (n : Int)) = false := by simp; omega
  go_enter Try.func4, Try.ntmps4
  go_wp2_with fail
  refine (drawCells A n c w (by omega) hnc hcm hc).mono ?_
  rintro e W0 ⟨r, cc, sm, zs, rfl, hr, zl, r0, r1, c0, c1, hb⟩
  obtain ⟨Am, cm, rfl, hcp1, hcp2, _⟩ := hr.form
  have HCPm := Lib.hid (And.intro hcp1 hcp2)
  clear hcp1 hcp2
  have s0 := hb.size
  have Rm_0 := Lib.hid hr
  have HB_0 := Lib.hid hb
  clear hr hb hc
  have kn := Cell3.new W0 (.int .i64 r) (.int .i64 cc) (.slice Am zs.length cm) 28
  obtain ⟨W1, hW1⟩ : ∃ W, W0.alloc (.cells #[.int .i64 r, .int .i64 cc, .slice Am zs.length cm] 28) = W := ⟨_, rfl⟩
  rw [hW1] at kn
  have z1 : W1.heap.size = W0.heap.size + 1 := by rw [← hW1]; simp
  have hal : Below W0.heap.size W0 W1 := hW1 ▸ (Below.refl _ _).alloc (Nat.le_refl _) _
  have s1 := hal.size
  have Rm_1 := Lib.hid (Rm_0.out.below hal (show W0.heap.size ≤ W0.heap.size by omega))
  have HB_1 := Lib.hid (HB_0.out.trans (hal.mono (show w.heap.size ≤ W0.heap.size by omega)))
  clear Rm_0 HB_0 hal
  have K3_1 := Lib.hid kn
  clear kn
  obtain ⟨cs, hcs⟩ : ∃ x, cOf r cc zs = x := ⟨_, rfl⟩
  have hcl := cOf_len r cc zs
  rw [hcs] at hcl
  have HC := Lib.hid hcs
  clear hcs
  obtain ⟨x30, x31, x32, _, _, _, x3lt⟩ := K3_1.out
  go_wp2_with fail
  refine (implCells_any r cc Am cm _ W1.heap.size zs W1 (Rm_1.out.sl_now.more (show W0.heap.size ≤ W1.heap.size by omega)) (Nat.le_refl _) rfl (by omega) HCPm.out.1 HCPm.out.2).mono ?_
  rintro e W2 ⟨sv2, rfl, hr, hb⟩
  rw [HC.out] at hr
  obtain ⟨Ax, cx, rfl, hcp1, hcp2, _⟩ := hr.form
  have HCPx := Lib.hid (And.intro hcp1 hcp2)
  clear hcp1 hcp2
  clear x30 x31 x32 x3lt
  have s2 := hb.size
  have K3_2 := Lib.hid (K3_1.out.below hb (show W0.heap.size < W1.heap.size by omega))
  have Rm_2 := Lib.hid (Rm_1.out.below hb (show W0.heap.size ≤ W1.heap.size by omega))
  have HB_2 := Lib.hid (HB_1.out.trans (hb.mono (show w.heap.size ≤ W1.heap.size by omega)))
  clear K3_1 Rm_1 HB_1 hb
  have Rx_2 := Lib.hid hr
  clear hr
  obtain ⟨x30, x31, x32, _, _, _, x3lt⟩ := K3_2.out
  go_wp2_with fail
  refine (specCells_any r cc Am cm _ W2.heap.size zs W2 (Rm_2.out.sl_now.more (show W0.heap.size ≤ W2.heap.size by omega)) (Nat.le_refl _) rfl (by omega)).mono ?_
  rintro e W3 ⟨sv3, rfl, hr, hb⟩
  rw [HC.out] at hr
  obtain ⟨Ay, cy, rfl, hcp1, hcp2, _⟩ := hr.form
  have HCPy := Lib.hid (And.intro hcp1 hcp2)
  clear hcp1 hcp2
  clear x30 x31 x32 x3lt
  have s3 := hb.size
  have K3_3 := Lib.hid (K3_2.out.below hb (show W0.heap.size < W2.heap.size by omega))
  have Rm_3 := Lib.hid (Rm_2.out.below hb (show W0.heap.size ≤ W2.heap.size by omega))
  have Rx_3 := Lib.hid (Rx_2.out.below hb (show W2.heap.size ≤ W2.heap.size by omega))
  have HB_3 := Lib.hid (HB_2.out.trans (hb.mono (show w.heap.size ≤ W2.heap.size by omega)))
  clear K3_2 Rm_2 Rx_2 HB_2 hb
  have Ry_3 := Lib.hid hr
  clear hr
  obtain ⟨x30, x31, x32, _, _, _, x3lt⟩ := K3_3.out
  go_wp2_with fail
  refine (sameC_same W3.heap.size W3.heap.size Ax Ay cx cy cs W3 (Rx_3.out.sl.2.more (show W2.heap.size ≤ W3.heap.size by omega)) (Ry_3.out.sl.2.more (show W3.heap.size ≤ W3.heap.size by omega)) (by omega)).mono ?_
  rintro e W4 ⟨rfl, hd⟩
  have hb := hd.below W3.heap.size
  clear hd
  clear x30 x31 x32 x3lt
  have s4 := hb.size
  have K3_4 := Lib.hid (K3_3.out.below hb (show W0.heap.size < W3.heap.size by omega))
  have Rm_4 := Lib.hid (Rm_3.out.below hb (show W0.heap.size ≤ W3.heap.size by omega))
  have Rx_4 := Lib.hid (Rx_3.out.below hb (show W2.heap.size ≤ W3.heap.size by omega))
  have Ry_4 := Lib.hid (Ry_3.out.below hb (show W3.heap.size ≤ W3.heap.size by omega))
  have HB_4 := Lib.hid (HB_3.out.trans (hb.mono (show w.heap.size ≤ W3.heap.size by omega)))
  clear K3_3 Rm_3 Rx_3 Ry_3 HB_3 hb
  by_cases hok : OkM r cc zs
  · obtain ⟨e1, e2, e3, e4⟩ := cells_back hok
    rw [HC.out] at e1 e2 e3 e4
    have HOK := Lib.hid hok
    have HE := Lib.hid (And.intro e1 (And.intro e2 (And.intro e3 e4)))
    clear hok e1 e2 e3 e4
    obtain ⟨x30, x31, x32, _, _, _, x3lt⟩ := K3_4.out
    go_wp2_with fail
    refine (implMV_yes r cc Am cm _ W4.heap.size zs W4 (Rm_4.out.sl_now.more (show W0.heap.size ≤ W4.heap.size by omega)) (Nat.le_refl _) rfl (by omega) HOK.out).mono ?_
    rintro e W5 ⟨rfl, hb⟩
    clear x30 x31 x32 x3lt
    have s5 := hb.size
    have K3_5 := Lib.hid (K3_4.out.below hb (show W0.heap.size < W4.heap.size by omega))
    have Rm_5 := Lib.hid (Rm_4.out.below hb (show W0.heap.size ≤ W4.heap.size by omega))
    have Rx_5 := Lib.hid (Rx_4.out.below hb (show W2.heap.size ≤ W4.heap.size by omega))
    have HB_5 := Lib.hid (HB_4.out.trans (hb.mono (show w.heap.size ≤ W4.heap.size by omega)))
    clear K3_4 Rm_4 Rx_4 HB_4 hb
    obtain ⟨x30, x31, x32, _, _, _, x3lt⟩ := K3_5.out
    go_wp2_with fail
    refine (implCM_any r cc Ax cx W5.heap.size cs W5 (Rx_5.out.sl.2.more (show W2.heap.size ≤ W5.heap.size by omega)) (Nat.le_refl _) (by omega)).mono ?_
    rintro e W6 ⟨sv6, rfl, hr, hb⟩
    rw [HE.out.1, HE.out.2.1, HE.out.2.2.2]
    rw [HE.out.2.2.1] at hr
    obtain ⟨Az, cz, rfl, hcp1, hcp2, _⟩ := hr.form
    clear hcp1 hcp2
    clear x30 x31 x32 x3lt
    have s6 := hb.size
    have K3_6 := Lib.hid (K3_5.out.below hb (show W0.heap.size < W5.heap.size by omega))
    have Rm_6 := Lib.hid (Rm_5.out.below hb (show W0.heap.size ≤ W5.heap.size by omega))
    have Rx_6 := Lib.hid (Rx_5.out.below hb (show W2.heap.size ≤ W5.heap.size by omega))
    have HB_6 := Lib.hid (HB_5.out.trans (hb.mono (show w.heap.size ≤ W5.heap.size by omega)))
    clear K3_5 Rm_5 Rx_5 HB_5 hb
    have Rz_6 := Lib.hid hr
    clear hr
    have kn := Cell3.new W6 (.int .i64 r) (.int .i64 cc) (.slice Az zs.length cz) 28
    obtain ⟨W7, hW7⟩ : ∃ W, W6.alloc (.cells #[.int .i64 r, .int .i64 cc, .slice Az zs.length cz] 28) = W := ⟨_, rfl⟩
    rw [hW7] at kn
    have z7 : W7.heap.size = W6.heap.size + 1 := by rw [← hW7]; simp
    have hal : Below W6.heap.size W6 W7 := hW7 ▸ (Below.refl _ _).alloc (Nat.le_refl _) _
    have s7 := hal.size
    have K3_7 := Lib.hid (K3_6.out.below hal (show W0.heap.size < W6.heap.size by omega))
    have Rm_7 := Lib.hid (Rm_6.out.below hal (show W0.heap.size ≤ W6.heap.size by omega))
    have Rx_7 := Lib.hid (Rx_6.out.below hal (show W2.heap.size ≤ W6.heap.size by omega))
    have Rz_7 := Lib.hid (Rz_6.out.below hal (show W6.heap.size ≤ W6.heap.size by omega))
    have HB_7 := Lib.hid (HB_6.out.trans (hal.mono (show w.heap.size ≤ W6.heap.size by omega)))
    clear K3_6 Rm_6 Rx_6 Rz_6 HB_6 hal
    have K5_7 := Lib.hid kn
    clear kn
    obtain ⟨x30, x31, x32, _, _, _, x3lt⟩ := K3_7.out
    obtain ⟨x50, x51, x52, _, _, _, x5lt⟩ := K5_7.out
    go_wp2_with fail
    refine (sameM_same r cc Az Am cz cm zs W7 (Rz_7.out.sl_now.more (show W6.heap.size ≤ W7.heap.size by omega)) (Rm_7.out.sl_now.more (show W0.heap.size ≤ W7.heap.size by omega)) (by omega)).mono ?_
    rintro e W8 ⟨rfl, hb⟩
    clear x30 x31 x32 x3lt x50 x51 x52 x5lt
    have s8 := hb.size
    have K3_8 := Lib.hid (K3_7.out.below hb (show W0.heap.size < W7.heap.size by omega))
    have K5_8 := Lib.hid (K5_7.out.below hb (show W6.heap.size < W7.heap.size by omega))
    have Rm_8 := Lib.hid (Rm_7.out.below hb (show W0.heap.size ≤ W7.heap.size by omega))
    have Rx_8 := Lib.hid (Rx_7.out.below hb (show W2.heap.size ≤ W7.heap.size by omega))
    have Rz_8 := Lib.hid (Rz_7.out.below hb (show W6.heap.size ≤ W7.heap.size by omega))
    have HB_8 := Lib.hid (HB_7.out.trans (hb.mono (show w.heap.size ≤ W7.heap.size by omega)))
    clear K3_7 K5_7 Rm_7 Rx_7 Rz_7 HB_7 hb
    obtain ⟨x30, x31, x32, _, _, _, x3lt⟩ := K3_8.out
    obtain ⟨x50, x51, x52, _, _, _, x5lt⟩ := K5_8.out
    go_wp2
    go_ret
    exact ⟨rfl, HB_8.out⟩
  · obtain rfl : [] = cs := by rw [← HC.out, cOf_none hok]
    have HOK := Lib.hid hok
    clear hok
    obtain ⟨x30, x31, x32, _, _, _, x3lt⟩ := K3_4.out
    go_wp2_with fail
    refine (implMV_no r cc Am cm _ W4.heap.size zs W4 (Rm_4.out.sl_now.more (show W0.heap.size ≤ W4.heap.size by omega)) (Nat.le_refl _) rfl (by omega) HOK.out).mono ?_
    rintro e W5 ⟨rfl, hb⟩
    clear x30 x31 x32 x3lt
    have s5 := hb.size
    have K3_5 := Lib.hid (K3_4.out.below hb (show W0.heap.size < W4.heap.size by omega))
    have Rm_5 := Lib.hid (Rm_4.out.below hb (show W0.heap.size ≤ W4.heap.size by omega))
    have Rx_5 := Lib.hid (Rx_4.out.below hb (show W2.heap.size ≤ W4.heap.size by omega))
    have HB_5 := Lib.hid (HB_4.out.trans (hb.mono (show w.heap.size ≤ W4.heap.size by omega)))
    clear K3_4 Rm_4 Rx_4 HB_4 hb
    obtain ⟨x30, x31, x32, _, _, _, x3lt⟩ := K3_5.out
    go_wp2_with fail
    refine (alive_any _).mono ?_
    rintro e w' ⟨rfl, rfl⟩
    go_wp2
    go_ret
    exact ⟨rfl, HB_5.out⟩
end Go.Proofs.Ytdebnbgjnmoleaa
