/- The walk of the exact law FnExactCellsOf. (Printed by gen_LawH.py.) -/
import Derived.Test.YtdebnbgjnmoleaaFnsH2
import Derived.Test.YtdebnbgjnmoleaaListsC2
import Derived.Test.YtdebnbgjnmoleaaCameM
import Derived.Test.YtdebnbgjnmoleaaDrw
namespace Go.Proofs.Ytdebnbgjnmoleaa
open Go.RowKit
theorem Cell3.span {lo hi b : Nat} {w w' : World} {x y z : Value} (h : Cell3 w b x y z) (k : Span lo hi w w') (hd : b < lo ∨ hi ≤ b) : Cell3 w' b x y z := by
  have hb := k.block b h.lt hd
  exact ⟨(World.cell?_of_block (a := ⟨b, 0, none⟩) hb).trans h.c0, (World.cell?_of_block (a := ⟨b, 1, none⟩) hb).trans h.c1, (World.cell?_of_block (a := ⟨b, 2, none⟩) hb).trans h.c2, (World.frozen?_of_block (a := ⟨b, 0, none⟩) hb).trans h.f0, (World.frozen?_of_block (a := ⟨b, 1, none⟩) hb).trans h.f1, (World.frozen?_of_block (a := ⟨b, 2, none⟩) hb).trans h.f2, Nat.lt_of_lt_of_le h.lt k.size⟩
set_option maxRecDepth 20000 in
set_option maxHeartbeats 3200000 in
theorem law_FnExactCellsOf (w : World) (v0 : Value) (h0 : CameM w v0) :
    Calls Try.prog 3 #[v0] w fun e w' => e = .returned (.bool true) ∧ Below w.heap.size w w' := by
  obtain ⟨r, c, A, n0, cap, zs, rfl, hz0, _, _⟩ := h0
  obtain ⟨rfl, hnc0, hcm0, hs0, _⟩ := hz0
  unfold maxLen at hcm0
  have HS0 := Lib.hid hs0
  clear hs0
  have K20 := Cell3.new w (.int .i64 r) (.int .i64 c) (.slice A zs.length cap) 24
  obtain ⟨W0, hW⟩ : ∃ W, w.alloc (.cells #[.int .i64 r, .int .i64 c, .slice A zs.length cap] 24) = W := ⟨_, rfl⟩
  have hb0 : Below w.heap.size w W0 := hW ▸ (Below.refl _ _).alloc (Nat.le_refl _) _
  have hsW : W0.heap.size = w.heap.size + 1 := by rw [← hW]; simp
  rw [hW] at K20
  have K2_0 := Lib.hid K20
  clear K20
  have HB_0 := Lib.hid hb0
  clear hb0
  go_enter Try.func3, Try.ntmps3
  have hsz := szM_any r c A zs.length cap (1048576) W0 (by omega) (by omega) (by omega)
  by_cases hn0 : (1048576 : Int) < zs.length
  · rw [if_pos hn0] at hsz
    obtain ⟨a0, a1, a2, _, _, _, alt⟩ := K2_0.out
    go_wp2_with fail
    refine hsz.mono ?_
    rintro e w1 ⟨rfl, hb1⟩
    clear hsz
    go_wp2
    go_ret
    exact ⟨rfl, HB_0.out.trans (hb1.mono (by omega))⟩
  rw [if_neg hn0] at hsz
  have hd0 : decide (1048576 - (zs.length : Int) < 0) = false := by simp; omega
  obtain ⟨x20, x21, x22, _, _, _, x2lt⟩ := K2_0.out
  go_wp2_with fail
  refine hsz.mono ?_
  rintro e W1 ⟨rfl, hb⟩
  clear hsz
  clear x20 x21 x22 x2lt
  have s1 := hb.size
  have K2_1 := Lib.hid (K2_0.out.below hb (show w.heap.size < W0.heap.size by omega))
  have HB_1 := Lib.hid (HB_0.out.trans (hb.mono (show w.heap.size ≤ W0.heap.size by omega)))
  clear K2_0 HB_0 hb
  have hpl := cOf_len r c zs
  obtain ⟨cs, hcs⟩ : ∃ x, cOf r c zs = x := ⟨_, rfl⟩
  rw [hcs] at hpl
  have HP := Lib.hid hcs
  clear hcs
  obtain ⟨x20, x21, x22, _, _, _, x2lt⟩ := K2_1.out
  go_wp2_with fail
  refine (toM_any r c A cap _ w.heap.size zs W1 (HS0.out.below HB_1.out (Nat.le_refl _)) (show w.heap.size ≤ W1.heap.size by omega) rfl (by omega)).mono ?_
  rintro e W2 ⟨sv2, rfl, hr, hb⟩
  obtain ⟨Aa, ca, rfl, hcp1, hcp2, _⟩ := hr.form
  have HCPa := Lib.hid (And.intro hcp1 hcp2)
  clear hcp1 hcp2
  clear x20 x21 x22 x2lt
  have s2 := hb.size
  have K2_2 := Lib.hid (K2_1.out.below hb (show w.heap.size < W1.heap.size by omega))
  have HB_2 := Lib.hid (HB_1.out.trans (hb.mono (show w.heap.size ≤ W1.heap.size by omega)))
  clear K2_1 HB_1 hb
  have Ra_2 := Lib.hid hr
  clear hr
  obtain ⟨x20, x21, x22, _, _, _, x2lt⟩ := K2_2.out
  go_wp2_with fail
  refine (specCells_any r c Aa ca _ W2.heap.size zs W2 (Ra_2.out.sl_now.more (show W2.heap.size ≤ W2.heap.size by omega)) (Nat.le_refl _) rfl (by omega)).mono ?_
  rintro e W3 ⟨sv3, rfl, hr, hb⟩
  rw [HP.out] at hr
  obtain ⟨AW, cW, rfl, hcp1, hcp2, _⟩ := hr.form
  have HCPW := Lib.hid (And.intro hcp1 hcp2)
  clear hcp1 hcp2
  clear x20 x21 x22 x2lt
  have s3 := hb.size
  have K2_3 := Lib.hid (K2_2.out.below hb (show w.heap.size < W2.heap.size by omega))
  have Ra_3 := Lib.hid (Ra_2.out.below hb (show W2.heap.size ≤ W2.heap.size by omega))
  have HB_3 := Lib.hid (HB_2.out.trans (hb.mono (show w.heap.size ≤ W2.heap.size by omega)))
  clear K2_2 Ra_2 HB_2 hb
  have RW_3 := Lib.hid hr
  clear hr
  obtain ⟨x20, x21, x22, _, _, _, x2lt⟩ := K2_3.out
  go_wp2_with fail
  refine (toM_any r c A cap _ w.heap.size zs W3 (HS0.out.below HB_3.out (Nat.le_refl _)) (show w.heap.size ≤ W3.heap.size by omega) rfl (by omega)).mono ?_
  rintro e W4 ⟨sv4, rfl, hr, hb⟩
  obtain ⟨AX, cX, rfl, hcp1, hcp2, _⟩ := hr.form
  have HCPX := Lib.hid (And.intro hcp1 hcp2)
  clear hcp1 hcp2
  clear x20 x21 x22 x2lt
  have s4 := hb.size
  have K2_4 := Lib.hid (K2_3.out.below hb (show w.heap.size < W3.heap.size by omega))
  have RW_4 := Lib.hid (RW_3.out.below hb (show W3.heap.size ≤ W3.heap.size by omega))
  have HB_4 := Lib.hid (HB_3.out.trans (hb.mono (show w.heap.size ≤ W3.heap.size by omega)))
  clear K2_3 RW_3 HB_3 hb
  have RX_4 := Lib.hid hr
  clear hr
  have kn := Cell3.new W4 (.int .i64 r) (.int .i64 c) (.slice AX zs.length cX) 28
  obtain ⟨W5, hW5⟩ : ∃ W, W4.alloc (.cells #[.int .i64 r, .int .i64 c, .slice AX zs.length cX] 28) = W := ⟨_, rfl⟩
  rw [hW5] at kn
  have z5 : W5.heap.size = W4.heap.size + 1 := by rw [← hW5]; simp
  have hal : Below W4.heap.size W4 W5 := hW5 ▸ (Below.refl _ _).alloc (Nat.le_refl _) _
  have s5 := hal.size
  have K2_5 := Lib.hid (K2_4.out.below hal (show w.heap.size < W4.heap.size by omega))
  have RW_5 := Lib.hid (RW_4.out.below hal (show W3.heap.size ≤ W4.heap.size by omega))
  have RX_5 := Lib.hid (RX_4.out.below hal (show W4.heap.size ≤ W4.heap.size by omega))
  have HB_5 := Lib.hid (HB_4.out.trans (hal.mono (show w.heap.size ≤ W4.heap.size by omega)))
  clear K2_4 RW_4 RX_4 HB_4 hal
  have K7_5 := Lib.hid kn
  clear kn
  obtain ⟨x20, x21, x22, _, _, _, x2lt⟩ := K2_5.out
  obtain ⟨x70, x71, x72, _, _, _, x7lt⟩ := K7_5.out
  go_wp2_with fail
  refine (implCells_any r c AX cX _ W5.heap.size zs W5 (RX_5.out.sl_now.more (show W4.heap.size ≤ W5.heap.size by omega)) (Nat.le_refl _) rfl (by omega) HCPX.out.1 HCPX.out.2).mono ?_
  rintro e W6 ⟨sv6, rfl, hr, hb⟩
  rw [HP.out] at hr
  obtain ⟨AG, cG, rfl, hcp1, hcp2, _⟩ := hr.form
  have HCPG := Lib.hid (And.intro hcp1 hcp2)
  clear hcp1 hcp2
  clear x20 x21 x22 x2lt x70 x71 x72 x7lt
  have s6 := hb.size
  have K2_6 := Lib.hid (K2_5.out.below hb (show w.heap.size < W5.heap.size by omega))
  have K7_6 := Lib.hid (K7_5.out.below hb (show W4.heap.size < W5.heap.size by omega))
  have RW_6 := Lib.hid (RW_5.out.below hb (show W3.heap.size ≤ W5.heap.size by omega))
  have RX_6 := Lib.hid (RX_5.out.below hb (show W4.heap.size ≤ W5.heap.size by omega))
  have HB_6 := Lib.hid (HB_5.out.trans (hb.mono (show w.heap.size ≤ W5.heap.size by omega)))
  clear K2_5 K7_5 RW_5 RX_5 HB_5 hb
  have RG_6 := Lib.hid hr
  clear hr
  obtain ⟨x20, x21, x22, _, _, _, x2lt⟩ := K2_6.out
  obtain ⟨x70, x71, x72, _, _, _, x7lt⟩ := K7_6.out
  go_wp2_with fail
  refine (eqCellS_same AG AW cG cW cs W6 (RG_6.out.sl.2.more (show W6.heap.size ≤ W6.heap.size by omega)) (RW_6.out.sl.2.more (show W3.heap.size ≤ W6.heap.size by omega)) (by omega)).mono ?_
  rintro e W7 ⟨rfl, hb⟩
  clear x20 x21 x22 x2lt x70 x71 x72 x7lt
  have s7 := hb.size
  have K2_7 := Lib.hid (K2_6.out.below hb (show w.heap.size < W6.heap.size by omega))
  have K7_7 := Lib.hid (K7_6.out.below hb (show W4.heap.size < W6.heap.size by omega))
  have RW_7 := Lib.hid (RW_6.out.below hb (show W3.heap.size ≤ W6.heap.size by omega))
  have RX_7 := Lib.hid (RX_6.out.below hb (show W4.heap.size ≤ W6.heap.size by omega))
  have RG_7 := Lib.hid (RG_6.out.below hb (show W6.heap.size ≤ W6.heap.size by omega))
  have HB_7 := Lib.hid (HB_6.out.trans (hb.mono (show w.heap.size ≤ W6.heap.size by omega)))
  clear K2_6 K7_6 RW_6 RX_6 RG_6 HB_6 hb
  obtain ⟨x20, x21, x22, _, _, _, x2lt⟩ := K2_7.out
  obtain ⟨x70, x71, x72, _, _, _, x7lt⟩ := K7_7.out
  go_wp2
  go_region_held3 (fun w' => (w'.cell? ⟨W4.heap.size, 0, none⟩ = some (.int .i64 r) ∧ w'.cell? ⟨W4.heap.size, 1, none⟩ = some (.int .i64 c) ∧ w'.cell? ⟨W4.heap.size, 2, none⟩ = some (.slice AX zs.length cX)) ∧ w'.cell? ⟨w.heap.size, 0, none⟩ = some (.int .i64 r) ∧ w'.cell? ⟨w.heap.size, 1, none⟩ = some (.int .i64 c) ∧ w'.cell? ⟨w.heap.size, 2, none⟩ = some (.slice A zs.length cap))
    (first | exact ⟨⟨x70, x71, x72⟩, x20, x21, x22⟩ | exact ⟨⟨y0, y1, y2⟩, y3, y4, y5⟩ | exact ⟨⟨u0, u1, u2⟩, u3, u4, u5⟩)
    (first
      | (go_simp; go_at_call 13; refine (toM_any r c A cap _ w.heap.size zs W7.drew (HS0.out.below (HB_7.out.trans (Below.of_drew _)) (Nat.le_refl _)) (show w.heap.size ≤ W7.heap.size by omega) rfl (by omega)).mono ?_; rintro e Wa ⟨sva, rfl, hra, hba⟩; obtain ⟨Aq, cq, rfl, _, _, _⟩ := hra.form; have hbz : Below W7.heap.size W7 Wa := (Below.of_drew _).trans hba; have szA := hbz.size; obtain ⟨y0, y1, y2, _, _, _, _⟩ := K7_7.out.below hbz (show W4.heap.size < W7.heap.size by omega); obtain ⟨y3, y4, y5, _, _, _, _⟩ := K2_7.out.below hbz (show w.heap.size < W7.heap.size by omega))
      | (go_simp; go_at_call 16; refine (eqM_same r c AX Aq cX cq zs Wa ((RX_7.out.below hbz (show W4.heap.size ≤ W7.heap.size by omega)).sl_now.more (show W4.heap.size ≤ Wa.heap.size by omega)) (hra.sl_now) (by omega)).mono ?_; rintro e Wb ⟨rfl, hbb⟩; have hbw : Below W7.heap.size W7 Wb := hbz.trans (hbb.mono (show W7.heap.size ≤ Wa.heap.size by omega)); obtain ⟨u0, u1, u2, _, _, _, _⟩ := K7_7.out.below hbw (show W4.heap.size < W7.heap.size by omega); obtain ⟨u3, u4, u5, _, _, _, _⟩ := K2_7.out.below hbw (show w.heap.size < W7.heap.size by omega)))
  clear y0 y1 y2 y3 y4 y5 u0 u1 u2 u3 u4 u5 hra hbz hbb hba szA
  obtain ⟨W8, hWb⟩ : ∃ W, W = Wb := ⟨_, rfl⟩
  subst hWb
  clear x20 x21 x22 x2lt x70 x71 x72 x7lt
  have s8 := hbw.size
  have K2_8 := Lib.hid (K2_7.out.below hbw (show w.heap.size < W7.heap.size by omega))
  have K7_8 := Lib.hid (K7_7.out.below hbw (show W4.heap.size < W7.heap.size by omega))
  have RW_8 := Lib.hid (RW_7.out.below hbw (show W3.heap.size ≤ W7.heap.size by omega))
  have RX_8 := Lib.hid (RX_7.out.below hbw (show W4.heap.size ≤ W7.heap.size by omega))
  have RG_8 := Lib.hid (RG_7.out.below hbw (show W6.heap.size ≤ W7.heap.size by omega))
  have HB_8 := Lib.hid (HB_7.out.trans (hbw.mono (show w.heap.size ≤ W7.heap.size by omega)))
  clear K2_7 K7_7 RW_7 RX_7 RG_7 HB_7 hbw
  obtain ⟨x20, x21, x22, _, _, _, x2lt⟩ := K2_8.out
  obtain ⟨x70, x71, x72, _, _, _, x7lt⟩ := K7_8.out
  go_wp2_with fail
  refine (markM_any (W3.heap.size) (W4.heap.size) r c AX cX zs (1) W8 RX_8.out (show W4.heap.size ≤ W8.heap.size by omega) (by omega) (by omega) (by omega)).mono ?_
  rintro e W9 ⟨rfl, hrm, hsp⟩
  clear x20 x21 x22 x2lt x70 x71 x72 x7lt
  have s9 := hsp.size
  have K2_9 := Lib.hid (K2_8.out.span hsp (show w.heap.size < W3.heap.size ∨ W4.heap.size ≤ w.heap.size by omega))
  have K7_9 := Lib.hid (K7_8.out.span hsp (show W4.heap.size < W3.heap.size ∨ W4.heap.size ≤ W4.heap.size by omega))
  have RW_9 := Lib.hid (RW_8.out.span hsp (show W3.heap.size ≤ W3.heap.size ∨ W4.heap.size ≤ W2.heap.size by omega))
  have RG_9 := Lib.hid (RG_8.out.span hsp (show W6.heap.size ≤ W3.heap.size ∨ W4.heap.size ≤ W5.heap.size by omega))
  have HB_9 := Lib.hid (Span.below HB_8.out hsp (show w.heap.size ≤ W3.heap.size by omega) (show w.heap.size ≤ W8.heap.size by omega))
  clear K2_8 K7_8 RW_8 RX_8 RG_8 HB_8 hsp hrm
  have hdk : decide (1 + (zs.length : Int) < 0) = false := by simp; omega
  obtain ⟨x20, x21, x22, _, _, _, x2lt⟩ := K2_9.out
  obtain ⟨x70, x71, x72, _, _, _, x7lt⟩ := K7_9.out
  go_wp2_with fail
  refine (eqCellS_same AG AW cG cW cs W9 (RG_9.out.sl.2.more (show W6.heap.size ≤ W9.heap.size by omega)) (RW_9.out.sl.2.more (show W3.heap.size ≤ W9.heap.size by omega)) (by omega)).mono ?_
  rintro e W10 ⟨rfl, hb⟩
  clear x20 x21 x22 x2lt x70 x71 x72 x7lt
  have s10 := hb.size
  have K2_10 := Lib.hid (K2_9.out.below hb (show w.heap.size < W9.heap.size by omega))
  have K7_10 := Lib.hid (K7_9.out.below hb (show W4.heap.size < W9.heap.size by omega))
  have RW_10 := Lib.hid (RW_9.out.below hb (show W3.heap.size ≤ W9.heap.size by omega))
  have RG_10 := Lib.hid (RG_9.out.below hb (show W6.heap.size ≤ W9.heap.size by omega))
  have HB_10 := Lib.hid (HB_9.out.trans (hb.mono (show w.heap.size ≤ W9.heap.size by omega)))
  clear K2_9 K7_9 RW_9 RG_9 HB_9 hb
  obtain ⟨x20, x21, x22, _, _, _, x2lt⟩ := K2_10.out
  obtain ⟨x70, x71, x72, _, _, _, x7lt⟩ := K7_10.out
  go_wp2_with fail
  refine (markC_any (W5.heap.size) (W6.heap.size) AG cG cs.length (fl cs) (1) W10 RG_10.out (by omega) (by omega) (by omega)).mono ?_
  rintro e W11 ⟨rfl, hrm, hgr⟩
  have hsp := Span.of_grown (lo := W5.heap.size) (hi := W6.heap.size) hgr (fun g e => RG_10.out.block_lt g e)
  clear hgr
  clear x20 x21 x22 x2lt x70 x71 x72 x7lt
  have s11 := hsp.size
  have K2_11 := Lib.hid (K2_10.out.span hsp (show w.heap.size < W5.heap.size ∨ W6.heap.size ≤ w.heap.size by omega))
  have K7_11 := Lib.hid (K7_10.out.span hsp (show W4.heap.size < W5.heap.size ∨ W6.heap.size ≤ W4.heap.size by omega))
  have RW_11 := Lib.hid (RW_10.out.span hsp (show W3.heap.size ≤ W5.heap.size ∨ W6.heap.size ≤ W2.heap.size by omega))
  have HB_11 := Lib.hid (Span.below HB_10.out hsp (show w.heap.size ≤ W5.heap.size by omega) (show w.heap.size ≤ W10.heap.size by omega))
  clear K2_10 K7_10 RW_10 RG_10 HB_10 hsp
  have RM_11 := Lib.hid hrm
  clear hrm
  have hdm : decide (1 + ((cs.length * 3 : Nat) : Int) < 0) = false := by simp; omega
  obtain ⟨x20, x21, x22, _, _, _, x2lt⟩ := K2_11.out
  obtain ⟨x70, x71, x72, _, _, _, x7lt⟩ := K7_11.out
  go_wp2_with fail
  refine (heldC_same (W6.heap.size) AG cG cs.length 1 W11 RM_11.out.sl.2 (by omega) (by omega) (by omega)).mono ?_
  rintro e w' ⟨rfl, rfl⟩
  clear x20 x21 x22 x2lt x70 x71 x72 x7lt
  obtain ⟨x20, x21, x22, _, _, _, x2lt⟩ := K2_11.out
  obtain ⟨x70, x71, x72, _, _, _, x7lt⟩ := K7_11.out
  go_wp2_with fail
  refine (toM_any r c A cap _ w.heap.size zs W11 (HS0.out.below HB_11.out (Nat.le_refl _)) (show w.heap.size ≤ W11.heap.size by omega) rfl (by omega)).mono ?_
  rintro e W12 ⟨sv12, rfl, hr, hb⟩
  obtain ⟨Ab, cb, rfl, hcp1, hcp2, _⟩ := hr.form
  have HCPb := Lib.hid (And.intro hcp1 hcp2)
  clear hcp1 hcp2
  clear x20 x21 x22 x2lt x70 x71 x72 x7lt
  have s12 := hb.size
  have K2_12 := Lib.hid (K2_11.out.below hb (show w.heap.size < W11.heap.size by omega))
  have K7_12 := Lib.hid (K7_11.out.below hb (show W4.heap.size < W11.heap.size by omega))
  have RW_12 := Lib.hid (RW_11.out.below hb (show W3.heap.size ≤ W11.heap.size by omega))
  have RM_12 := Lib.hid (RM_11.out.below hb (show W6.heap.size ≤ W11.heap.size by omega))
  have HB_12 := Lib.hid (HB_11.out.trans (hb.mono (show w.heap.size ≤ W11.heap.size by omega)))
  clear K2_11 K7_11 RW_11 RM_11 HB_11 hb
  have Rb_12 := Lib.hid hr
  clear hr
  obtain ⟨x20, x21, x22, _, _, _, x2lt⟩ := K2_12.out
  obtain ⟨x70, x71, x72, _, _, _, x7lt⟩ := K7_12.out
  go_wp2_with fail
  refine (implCells_any r c Ab cb _ W12.heap.size zs W12 (Rb_12.out.sl_now.more (show W12.heap.size ≤ W12.heap.size by omega)) (Nat.le_refl _) rfl (by omega) HCPb.out.1 HCPb.out.2).mono ?_
  rintro e W13 ⟨sv13, rfl, hr, hb⟩
  rw [HP.out] at hr
  obtain ⟨AH, cH, rfl, hcp1, hcp2, _⟩ := hr.form
  have HCPH := Lib.hid (And.intro hcp1 hcp2)
  clear hcp1 hcp2
  clear x20 x21 x22 x2lt x70 x71 x72 x7lt
  have s13 := hb.size
  have K2_13 := Lib.hid (K2_12.out.below hb (show w.heap.size < W12.heap.size by omega))
  have K7_13 := Lib.hid (K7_12.out.below hb (show W4.heap.size < W12.heap.size by omega))
  have RW_13 := Lib.hid (RW_12.out.below hb (show W3.heap.size ≤ W12.heap.size by omega))
  have RM_13 := Lib.hid (RM_12.out.below hb (show W6.heap.size ≤ W12.heap.size by omega))
  have Rb_13 := Lib.hid (Rb_12.out.below hb (show W12.heap.size ≤ W12.heap.size by omega))
  have HB_13 := Lib.hid (HB_12.out.trans (hb.mono (show w.heap.size ≤ W12.heap.size by omega)))
  clear K2_12 K7_12 RW_12 RM_12 Rb_12 HB_12 hb
  have RH_13 := Lib.hid hr
  clear hr
  obtain ⟨x20, x21, x22, _, _, _, x2lt⟩ := K2_13.out
  obtain ⟨x70, x71, x72, _, _, _, x7lt⟩ := K7_13.out
  go_wp2_with fail
  refine (eqCellS_same AH AW cH cW cs W13 (RH_13.out.sl.2.more (show W13.heap.size ≤ W13.heap.size by omega)) (RW_13.out.sl.2.more (show W3.heap.size ≤ W13.heap.size by omega)) (by omega)).mono ?_
  rintro e W14 ⟨rfl, hb⟩
  clear x20 x21 x22 x2lt x70 x71 x72 x7lt
  have s14 := hb.size
  have K2_14 := Lib.hid (K2_13.out.below hb (show w.heap.size < W13.heap.size by omega))
  have K7_14 := Lib.hid (K7_13.out.below hb (show W4.heap.size < W13.heap.size by omega))
  have RW_14 := Lib.hid (RW_13.out.below hb (show W3.heap.size ≤ W13.heap.size by omega))
  have RM_14 := Lib.hid (RM_13.out.below hb (show W6.heap.size ≤ W13.heap.size by omega))
  have RH_14 := Lib.hid (RH_13.out.below hb (show W13.heap.size ≤ W13.heap.size by omega))
  have HB_14 := Lib.hid (HB_13.out.trans (hb.mono (show w.heap.size ≤ W13.heap.size by omega)))
  clear K2_13 K7_13 RW_13 RM_13 RH_13 HB_13 hb
  obtain ⟨x20, x21, x22, _, _, _, x2lt⟩ := K2_14.out
  obtain ⟨x70, x71, x72, _, _, _, x7lt⟩ := K7_14.out
  go_wp2_with fail
  refine (heldC_same (W6.heap.size) AG cG cs.length 1 W14 RM_14.out.sl.2 (by omega) (by omega) (by omega)).mono ?_
  rintro e w' ⟨rfl, rfl⟩
  clear x20 x21 x22 x2lt x70 x71 x72 x7lt
  obtain ⟨x20, x21, x22, _, _, _, x2lt⟩ := K2_14.out
  obtain ⟨x70, x71, x72, _, _, _, x7lt⟩ := K7_14.out
  go_wp2
  go_ret
  exact ⟨rfl, HB_14.out⟩
end Go.Proofs.Ytdebnbgjnmoleaa
