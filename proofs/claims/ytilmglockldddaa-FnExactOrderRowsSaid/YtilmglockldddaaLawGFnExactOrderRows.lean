/- The walk of the exact law FnExactOrderRows. (Printed by gen_LawG.py.) -/
import Derived.Test.YtilmglockldddaaLawD2
namespace Go.Proofs.Ytilmglockldddaa
open Go.RowKit
theorem Cell3.span {lo hi b : Nat} {w w' : World} {x y z : Value} (h : Cell3 w b x y z) (k : Span lo hi w w') (hd : b < lo ∨ hi ≤ b) : Cell3 w' b x y z := by
  have hb := k.block b h.lt hd
  exact ⟨(World.cell?_of_block (a := ⟨b, 0, none⟩) hb).trans h.c0, (World.cell?_of_block (a := ⟨b, 1, none⟩) hb).trans h.c1, (World.cell?_of_block (a := ⟨b, 2, none⟩) hb).trans h.c2, (World.frozen?_of_block (a := ⟨b, 0, none⟩) hb).trans h.f0, (World.frozen?_of_block (a := ⟨b, 1, none⟩) hb).trans h.f1, (World.frozen?_of_block (a := ⟨b, 2, none⟩) hb).trans h.f2, Nat.lt_of_lt_of_le h.lt k.size⟩
set_option maxHeartbeats 3200000 in
theorem law_FnExactOrderRows (w : World) (v0 : Value) (h0 : CameM w v0) (Ao : Option Addr) (n1 capo : Nat) (os : List Int) (h1 : CameInts w Ao n1 capo os) :
    Calls Try.prog 5 #[v0, .slice Ao n1 capo] w fun e w' => e = .returned (.bool true) ∧ Below w.heap.size w w' := by
  obtain ⟨r, c, A, n0, cap, zs, rfl, hz0, _, _⟩ := h0
  obtain ⟨rfl, hnc0, hcm0, hs0, _⟩ := hz0
  unfold maxLen at hcm0
  obtain ⟨rfl, hnc1, hcm1, hs1, _⟩ := h1
  unfold maxLen at hcm1
  have HS0 := Lib.hid hs0
  clear hs0
  have HS1 := Lib.hid hs1
  clear hs1
  have K20 := Cell3.new w (.int .i64 r) (.int .i64 c) (.slice A zs.length cap) 31
  obtain ⟨W0, hW⟩ : ∃ W, w.alloc (.cells #[.int .i64 r, .int .i64 c, .slice A zs.length cap] 31) = W := ⟨_, rfl⟩
  have hb0 : Below w.heap.size w W0 := hW ▸ (Below.refl _ _).alloc (Nat.le_refl _) _
  have hsW : W0.heap.size = w.heap.size + 1 := by rw [← hW]; simp
  rw [hW] at K20
  have K2_0 := Lib.hid K20
  clear K20
  have HB_0 := Lib.hid hb0
  clear hb0
  by_cases hn1 : (1048576 : Int) < os.length
  · obtain ⟨a0, a1, a2, _, _, _, alt⟩ := K2_0.out
    go_enter Try.func5, Try.ntmps5
    go_wp2
    go_ret
    exact ⟨rfl, HB_0.out⟩
  go_enter Try.func5, Try.ntmps5
  have hsz := szM_any r c A zs.length cap (1048576) W0 (by omega) (by omega) (by omega)
  by_cases hn0 : (1048576 : Int) < zs.length
  · rw [if_pos hn0] at hsz
    obtain ⟨a0, a1, a2, _, _, _, alt⟩ := K2_0.out
    go_wp2_with fail
    refine hsz.mono ?_
    rintro e w1 ⟨rfl, hb1⟩
    clear hsz
    go_wp2
    go_ret
    exact ⟨rfl, HB_0.out.trans (hb1.mono (by omega))⟩
  rw [if_neg hn0] at hsz
  have hd0 : decide (1048576 - (zs.length : Int) < 0) = false := by simp; omega
  obtain ⟨x20, x21, x22, _, _, _, x2lt⟩ := K2_0.out
  go_wp2_with fail
  refine hsz.mono ?_
  rintro e W1 ⟨rfl, hb⟩
  clear hsz
  clear x20 x21 x22 x2lt
  have s1 := hb.size
  have K2_1 := Lib.hid (K2_0.out.below hb (show w.heap.size < W0.heap.size by omega))
  have HB_1 := Lib.hid (HB_0.out.trans (hb.mono (show w.heap.size ≤ W0.heap.size by omega)))
  clear K2_0 HB_0 hb
  have hpl := ordZ_len r c zs os (by omega) (by omega)
  obtain ⟨pr, hpr⟩ : ∃ x, ordR r c zs os = x := ⟨_, rfl⟩
  obtain ⟨pc, hpc⟩ : ∃ x, ordC r c zs os = x := ⟨_, rfl⟩
  obtain ⟨ps, hps⟩ : ∃ x, ordZ r c zs os = x := ⟨_, rfl⟩
  rw [hps] at hpl
  have HP := Lib.hid (And.intro hpr (And.intro hpc hps))
  clear hpr hpc hps
  obtain ⟨x20, x21, x22, _, _, _, x2lt⟩ := K2_1.out
  go_wp2_with fail
  refine (toM_any r c A cap _ w.heap.size zs W1 (HS0.out.below HB_1.out (Nat.le_refl _)) (show w.heap.size ≤ W1.heap.size by omega) rfl (by omega)).mono ?_
  rintro e W2 ⟨sv2, rfl, hr, hb⟩
  obtain ⟨Aa0, ca0, rfl, hcp1, hcp2, _⟩ := hr.form
  have HCPa0 := Lib.hid (And.intro hcp1 hcp2)
  clear hcp1 hcp2
  clear x20 x21 x22 x2lt
  have s2 := hb.size
  have K2_2 := Lib.hid (K2_1.out.below hb (show w.heap.size < W1.heap.size by omega))
  have HB_2 := Lib.hid (HB_1.out.trans (hb.mono (show w.heap.size ≤ W1.heap.size by omega)))
  clear K2_1 HB_1 hb
  have Ra0_2 := Lib.hid hr
  clear hr
  obtain ⟨x20, x21, x22, _, _, _, x2lt⟩ := K2_2.out
  go_wp2_with fail
  refine (toIntS_any Ao capo os W2 ((HS1.out.below HB_2.out (Nat.le_refl _)).more (show w.heap.size ≤ W2.heap.size by omega)) (by omega)).mono ?_
  rintro e W3 ⟨sv3, rfl, hr, hb⟩
  obtain ⟨Aa1, ca1, rfl, hcp1, hcp2, _⟩ := hr.form
  have HCPa1 := Lib.hid (And.intro hcp1 hcp2)
  clear hcp1 hcp2
  clear x20 x21 x22 x2lt
  have s3 := hb.size
  have K2_3 := Lib.hid (K2_2.out.below hb (show w.heap.size < W2.heap.size by omega))
  have Ra0_3 := Lib.hid (Ra0_2.out.below hb (show W2.heap.size ≤ W2.heap.size by omega))
  have HB_3 := Lib.hid (HB_2.out.trans (hb.mono (show w.heap.size ≤ W2.heap.size by omega)))
  clear K2_2 Ra0_2 HB_2 hb
  have Ra1_3 := Lib.hid hr
  clear hr
  obtain ⟨x20, x21, x22, _, _, _, x2lt⟩ := K2_3.out
  go_wp2_with fail
  refine (specOrd_any r c Aa0 ca0 _ W3.heap.size zs Aa1 ca1 _ W3.heap.size os W3 (Ra0_3.out.sl_now.more (show W2.heap.size ≤ W3.heap.size by omega)) (Nat.le_refl _) rfl (by omega) (Ra1_3.out.sl_now.more (show W3.heap.size ≤ W3.heap.size by omega)) (Nat.le_refl _) rfl (by omega)).mono ?_
  rintro e W4 ⟨sv4, rfl, hr, hb⟩
  rw [HP.out.1, HP.out.2.1]
  rw [HP.out.2.2] at hr
  obtain ⟨AW, cW, rfl, hcp1, hcp2, _⟩ := hr.form
  have HCPW := Lib.hid (And.intro hcp1 hcp2)
  clear hcp1 hcp2
  clear x20 x21 x22 x2lt
  have s4 := hb.size
  have K2_4 := Lib.hid (K2_3.out.below hb (show w.heap.size < W3.heap.size by omega))
  have Ra0_4 := Lib.hid (Ra0_3.out.below hb (show W2.heap.size ≤ W3.heap.size by omega))
  have Ra1_4 := Lib.hid (Ra1_3.out.below hb (show W3.heap.size ≤ W3.heap.size by omega))
  have HB_4 := Lib.hid (HB_3.out.trans (hb.mono (show w.heap.size ≤ W3.heap.size by omega)))
  clear K2_3 Ra0_3 Ra1_3 HB_3 hb
  have RW_4 := Lib.hid hr
  clear hr
  have kn := Cell3.new W4 (.int .i64 pr) (.int .i64 pc) (.slice AW ps.length cW) 33
  obtain ⟨W5, hW5⟩ : ∃ W, W4.alloc (.cells #[.int .i64 pr, .int .i64 pc, .slice AW ps.length cW] 33) = W := ⟨_, rfl⟩
  rw [hW5] at kn
  have z5 : W5.heap.size = W4.heap.size + 1 := by rw [← hW5]; simp
  have hal : Below W4.heap.size W4 W5 := hW5 ▸ (Below.refl _ _).alloc (Nat.le_refl _) _
  have s5 := hal.size
  have K2_5 := Lib.hid (K2_4.out.below hal (show w.heap.size < W4.heap.size by omega))
  have Ra0_5 := Lib.hid (Ra0_4.out.below hal (show W2.heap.size ≤ W4.heap.size by omega))
  have Ra1_5 := Lib.hid (Ra1_4.out.below hal (show W3.heap.size ≤ W4.heap.size by omega))
  have RW_5 := Lib.hid (RW_4.out.below hal (show W4.heap.size ≤ W4.heap.size by omega))
  have HB_5 := Lib.hid (HB_4.out.trans (hal.mono (show w.heap.size ≤ W4.heap.size by omega)))
  clear K2_4 Ra0_4 Ra1_4 RW_4 HB_4 hal
  have K6_5 := Lib.hid kn
  clear kn
  obtain ⟨x20, x21, x22, _, _, _, x2lt⟩ := K2_5.out
  obtain ⟨x60, x61, x62, _, _, _, x6lt⟩ := K6_5.out
  go_wp2_with fail
  refine (toM_any r c A cap _ w.heap.size zs W5 (HS0.out.below HB_5.out (Nat.le_refl _)) (show w.heap.size ≤ W5.heap.size by omega) rfl (by omega)).mono ?_
  rintro e W6 ⟨sv6, rfl, hr, hb⟩
  obtain ⟨AX0, cX0, rfl, hcp1, hcp2, _⟩ := hr.form
  have HCPX0 := Lib.hid (And.intro hcp1 hcp2)
  clear hcp1 hcp2
  clear x20 x21 x22 x2lt x60 x61 x62 x6lt
  have s6 := hb.size
  have K2_6 := Lib.hid (K2_5.out.below hb (show w.heap.size < W5.heap.size by omega))
  have K6_6 := Lib.hid (K6_5.out.below hb (show W4.heap.size < W5.heap.size by omega))
  have RW_6 := Lib.hid (RW_5.out.below hb (show W4.heap.size ≤ W5.heap.size by omega))
  have HB_6 := Lib.hid (HB_5.out.trans (hb.mono (show w.heap.size ≤ W5.heap.size by omega)))
  clear K2_5 K6_5 RW_5 HB_5 hb
  have RX0_6 := Lib.hid hr
  clear hr
  have kn := Cell3.new W6 (.int .i64 r) (.int .i64 c) (.slice AX0 zs.length cX0) 33
  obtain ⟨W7, hW7⟩ : ∃ W, W6.alloc (.cells #[.int .i64 r, .int .i64 c, .slice AX0 zs.length cX0] 33) = W := ⟨_, rfl⟩
  rw [hW7] at kn
  have z7 : W7.heap.size = W6.heap.size + 1 := by rw [← hW7]; simp
  have hal : Below W6.heap.size W6 W7 := hW7 ▸ (Below.refl _ _).alloc (Nat.le_refl _) _
  have s7 := hal.size
  have K2_7 := Lib.hid (K2_6.out.below hal (show w.heap.size < W6.heap.size by omega))
  have K6_7 := Lib.hid (K6_6.out.below hal (show W4.heap.size < W6.heap.size by omega))
  have RW_7 := Lib.hid (RW_6.out.below hal (show W4.heap.size ≤ W6.heap.size by omega))
  have RX0_7 := Lib.hid (RX0_6.out.below hal (show W6.heap.size ≤ W6.heap.size by omega))
  have HB_7 := Lib.hid (HB_6.out.trans (hal.mono (show w.heap.size ≤ W6.heap.size by omega)))
  clear K2_6 K6_6 RW_6 RX0_6 HB_6 hal
  have K70_7 := Lib.hid kn
  clear kn
  obtain ⟨x20, x21, x22, _, _, _, x2lt⟩ := K2_7.out
  obtain ⟨x60, x61, x62, _, _, _, x6lt⟩ := K6_7.out
  obtain ⟨x700, x701, x702, _, _, _, x70lt⟩ := K70_7.out
  go_wp2_with fail
  refine (toIntS_any Ao capo os W7 ((HS1.out.below HB_7.out (Nat.le_refl _)).more (show w.heap.size ≤ W7.heap.size by omega)) (by omega)).mono ?_
  rintro e W8 ⟨sv8, rfl, hr, hb⟩
  obtain ⟨AX1, cX1, rfl, hcp1, hcp2, _⟩ := hr.form
  have HCPX1 := Lib.hid (And.intro hcp1 hcp2)
  clear hcp1 hcp2
  clear x20 x21 x22 x2lt x60 x61 x62 x6lt x700 x701 x702 x70lt
  have s8 := hb.size
  have K2_8 := Lib.hid (K2_7.out.below hb (show w.heap.size < W7.heap.size by omega))
  have K6_8 := Lib.hid (K6_7.out.below hb (show W4.heap.size < W7.heap.size by omega))
  have K70_8 := Lib.hid (K70_7.out.below hb (show W6.heap.size < W7.heap.size by omega))
  have RW_8 := Lib.hid (RW_7.out.below hb (show W4.heap.size ≤ W7.heap.size by omega))
  have RX0_8 := Lib.hid (RX0_7.out.below hb (show W6.heap.size ≤ W7.heap.size by omega))
  have HB_8 := Lib.hid (HB_7.out.trans (hb.mono (show w.heap.size ≤ W7.heap.size by omega)))
  clear K2_7 K6_7 K70_7 RW_7 RX0_7 HB_7 hb
  have RX1_8 := Lib.hid hr
  clear hr
  obtain ⟨x20, x21, x22, _, _, _, x2lt⟩ := K2_8.out
  obtain ⟨x60, x61, x62, _, _, _, x6lt⟩ := K6_8.out
  obtain ⟨x700, x701, x702, _, _, _, x70lt⟩ := K70_8.out
  go_wp2_with fail
  refine (implOrd_any r c AX0 cX0 _ W8.heap.size zs AX1 cX1 _ W8.heap.size os W8 (RX0_8.out.sl_now.more (show W6.heap.size ≤ W8.heap.size by omega)) (Nat.le_refl _) rfl (by omega) (RX1_8.out.sl_now.more (show W8.heap.size ≤ W8.heap.size by omega)) (Nat.le_refl _) rfl (by omega) HCPX0.out.1 HCPX0.out.2).mono ?_
  rintro e W9 ⟨sv9, rfl, hr, hb⟩
  rw [HP.out.1, HP.out.2.1]
  rw [HP.out.2.2] at hr
  obtain ⟨AG, cG, rfl, hcp1, hcp2, _⟩ := hr.form
  have HCPG := Lib.hid (And.intro hcp1 hcp2)
  clear hcp1 hcp2
  clear x20 x21 x22 x2lt x60 x61 x62 x6lt x700 x701 x702 x70lt
  have s9 := hb.size
  have K2_9 := Lib.hid (K2_8.out.below hb (show w.heap.size < W8.heap.size by omega))
  have K6_9 := Lib.hid (K6_8.out.below hb (show W4.heap.size < W8.heap.size by omega))
  have K70_9 := Lib.hid (K70_8.out.below hb (show W6.heap.size < W8.heap.size by omega))
  have RW_9 := Lib.hid (RW_8.out.below hb (show W4.heap.size ≤ W8.heap.size by omega))
  have RX0_9 := Lib.hid (RX0_8.out.below hb (show W6.heap.size ≤ W8.heap.size by omega))
  have RX1_9 := Lib.hid (RX1_8.out.below hb (show W8.heap.size ≤ W8.heap.size by omega))
  have HB_9 := Lib.hid (HB_8.out.trans (hb.mono (show w.heap.size ≤ W8.heap.size by omega)))
  clear K2_8 K6_8 K70_8 RW_8 RX0_8 RX1_8 HB_8 hb
  have RG_9 := Lib.hid hr
  clear hr
  have kn := Cell3.new W9 (.int .i64 pr) (.int .i64 pc) (.slice AG ps.length cG) 33
  obtain ⟨W10, hW10⟩ : ∃ W, W9.alloc (.cells #[.int .i64 pr, .int .i64 pc, .slice AG ps.length cG] 33) = W := ⟨_, rfl⟩
  rw [hW10] at kn
  have z10 : W10.heap.size = W9.heap.size + 1 := by rw [← hW10]; simp
  have hal : Below W9.heap.size W9 W10 := hW10 ▸ (Below.refl _ _).alloc (Nat.le_refl _) _
  have s10 := hal.size
  have K2_10 := Lib.hid (K2_9.out.below hal (show w.heap.size < W9.heap.size by omega))
  have K6_10 := Lib.hid (K6_9.out.below hal (show W4.heap.size < W9.heap.size by omega))
  have K70_10 := Lib.hid (K70_9.out.below hal (show W6.heap.size < W9.heap.size by omega))
  have RW_10 := Lib.hid (RW_9.out.below hal (show W4.heap.size ≤ W9.heap.size by omega))
  have RX0_10 := Lib.hid (RX0_9.out.below hal (show W6.heap.size ≤ W9.heap.size by omega))
  have RX1_10 := Lib.hid (RX1_9.out.below hal (show W8.heap.size ≤ W9.heap.size by omega))
  have RG_10 := Lib.hid (RG_9.out.below hal (show W9.heap.size ≤ W9.heap.size by omega))
  have HB_10 := Lib.hid (HB_9.out.trans (hal.mono (show w.heap.size ≤ W9.heap.size by omega)))
  clear K2_9 K6_9 K70_9 RW_9 RX0_9 RX1_9 RG_9 HB_9 hal
  have K8_10 := Lib.hid kn
  clear kn
  obtain ⟨x20, x21, x22, _, _, _, x2lt⟩ := K2_10.out
  obtain ⟨x60, x61, x62, _, _, _, x6lt⟩ := K6_10.out
  obtain ⟨x700, x701, x702, _, _, _, x70lt⟩ := K70_10.out
  obtain ⟨x80, x81, x82, _, _, _, x8lt⟩ := K8_10.out
  go_wp2_with fail
  refine (eqM_same pr pc AG AW cG cW ps W10 (RG_10.out.sl_now.more (show W9.heap.size ≤ W10.heap.size by omega)) (RW_10.out.sl_now.more (show W4.heap.size ≤ W10.heap.size by omega)) (by omega)).mono ?_
  rintro e W11 ⟨rfl, hb⟩
  clear x20 x21 x22 x2lt x60 x61 x62 x6lt x700 x701 x702 x70lt x80 x81 x82 x8lt
  have s11 := hb.size
  have K2_11 := Lib.hid (K2_10.out.below hb (show w.heap.size < W10.heap.size by omega))
  have K6_11 := Lib.hid (K6_10.out.below hb (show W4.heap.size < W10.heap.size by omega))
  have K70_11 := Lib.hid (K70_10.out.below hb (show W6.heap.size < W10.heap.size by omega))
  have K8_11 := Lib.hid (K8_10.out.below hb (show W9.heap.size < W10.heap.size by omega))
  have RW_11 := Lib.hid (RW_10.out.below hb (show W4.heap.size ≤ W10.heap.size by omega))
  have RX0_11 := Lib.hid (RX0_10.out.below hb (show W6.heap.size ≤ W10.heap.size by omega))
  have RX1_11 := Lib.hid (RX1_10.out.below hb (show W8.heap.size ≤ W10.heap.size by omega))
  have RG_11 := Lib.hid (RG_10.out.below hb (show W9.heap.size ≤ W10.heap.size by omega))
  have HB_11 := Lib.hid (HB_10.out.trans (hb.mono (show w.heap.size ≤ W10.heap.size by omega)))
  clear K2_10 K6_10 K70_10 K8_10 RW_10 RX0_10 RX1_10 RG_10 HB_10 hb
  obtain ⟨x20, x21, x22, _, _, _, x2lt⟩ := K2_11.out
  obtain ⟨x60, x61, x62, _, _, _, x6lt⟩ := K6_11.out
  obtain ⟨x700, x701, x702, _, _, _, x70lt⟩ := K70_11.out
  obtain ⟨x80, x81, x82, _, _, _, x8lt⟩ := K8_11.out
  go_wp2
  go_region_held3 (fun w' => (w'.cell? ⟨W6.heap.size, 0, none⟩ = some (.int .i64 r) ∧ w'.cell? ⟨W6.heap.size, 1, none⟩ = some (.int .i64 c) ∧ w'.cell? ⟨W6.heap.size, 2, none⟩ = some (.slice AX0 zs.length cX0)) ∧ w'.cell? ⟨w.heap.size, 0, none⟩ = some (.int .i64 r) ∧ w'.cell? ⟨w.heap.size, 1, none⟩ = some (.int .i64 c) ∧ w'.cell? ⟨w.heap.size, 2, none⟩ = some (.slice A zs.length cap))
    (first | exact ⟨⟨x700, x701, x702⟩, x20, x21, x22⟩ | exact ⟨⟨y0, y1, y2⟩, y3, y4, y5⟩ | exact ⟨⟨u0, u1, u2⟩, u3, u4, u5⟩)
    (first
      | (go_simp; go_at_call 17; refine (toM_any r c A cap _ w.heap.size zs W11.drew (HS0.out.below (HB_11.out.trans (Below.of_drew _)) (Nat.le_refl _)) (show w.heap.size ≤ W11.heap.size by omega) rfl (by omega)).mono ?_; rintro e Wa ⟨sva, rfl, hra, hba⟩; obtain ⟨Aq, cq, rfl, _, _, _⟩ := hra.form; have hbz : Below W11.heap.size W11 Wa := (Below.of_drew _).trans hba; have szA := hbz.size; obtain ⟨y0, y1, y2, _, _, _, _⟩ := K70_11.out.below hbz (show W6.heap.size < W11.heap.size by omega); obtain ⟨y3, y4, y5, _, _, _, _⟩ := K2_11.out.below hbz (show w.heap.size < W11.heap.size by omega))
      | (go_simp; go_at_call 19; refine (eqM_same r c AX0 Aq cX0 cq zs Wa ((RX0_11.out.below hbz (show W6.heap.size ≤ W11.heap.size by omega)).sl_now.more (show W6.heap.size ≤ Wa.heap.size by omega)) (hra.sl_now) (by omega)).mono ?_; rintro e Wb ⟨rfl, hbb⟩; have hbw : Below W11.heap.size W11 Wb := hbz.trans (hbb.mono (show W11.heap.size ≤ Wa.heap.size by omega)); obtain ⟨u0, u1, u2, _, _, _, _⟩ := K70_11.out.below hbw (show W6.heap.size < W11.heap.size by omega); obtain ⟨u3, u4, u5, _, _, _, _⟩ := K2_11.out.below hbw (show w.heap.size < W11.heap.size by omega)))
  clear y0 y1 y2 y3 y4 y5 u0 u1 u2 u3 u4 u5 hra hbz hbb hba szA
  obtain ⟨W12, hWb⟩ : ∃ W, W = Wb := ⟨_, rfl⟩
  subst hWb
  clear x20 x21 x22 x2lt x60 x61 x62 x6lt x700 x701 x702 x70lt x80 x81 x82 x8lt
  have s12 := hbw.size
  have K2_12 := Lib.hid (K2_11.out.below hbw (show w.heap.size < W11.heap.size by omega))
  have K6_12 := Lib.hid (K6_11.out.below hbw (show W4.heap.size < W11.heap.size by omega))
  have K70_12 := Lib.hid (K70_11.out.below hbw (show W6.heap.size < W11.heap.size by omega))
  have K8_12 := Lib.hid (K8_11.out.below hbw (show W9.heap.size < W11.heap.size by omega))
  have RW_12 := Lib.hid (RW_11.out.below hbw (show W4.heap.size ≤ W11.heap.size by omega))
  have RX0_12 := Lib.hid (RX0_11.out.below hbw (show W6.heap.size ≤ W11.heap.size by omega))
  have RX1_12 := Lib.hid (RX1_11.out.below hbw (show W8.heap.size ≤ W11.heap.size by omega))
  have RG_12 := Lib.hid (RG_11.out.below hbw (show W9.heap.size ≤ W11.heap.size by omega))
  have HB_12 := Lib.hid (HB_11.out.trans (hbw.mono (show w.heap.size ≤ W11.heap.size by omega)))
  clear K2_11 K6_11 K70_11 K8_11 RW_11 RX0_11 RX1_11 RG_11 HB_11 hbw
  obtain ⟨x20, x21, x22, _, _, _, x2lt⟩ := K2_12.out
  obtain ⟨x60, x61, x62, _, _, _, x6lt⟩ := K6_12.out
  obtain ⟨x700, x701, x702, _, _, _, x70lt⟩ := K70_12.out
  obtain ⟨x80, x81, x82, _, _, _, x8lt⟩ := K8_12.out
  go_wp2_with fail
  refine (toIntS_any Ao capo os W12 ((HS1.out.below HB_12.out (Nat.le_refl _)).more (show w.heap.size ≤ W12.heap.size by omega)) (by omega)).mono ?_
  rintro e W13 ⟨sv13, rfl, hr, hb⟩
  obtain ⟨At, ct, rfl, hcp1, hcp2, _⟩ := hr.form
  have HCPt := Lib.hid (And.intro hcp1 hcp2)
  clear hcp1 hcp2
  clear x20 x21 x22 x2lt x60 x61 x62 x6lt x700 x701 x702 x70lt x80 x81 x82 x8lt
  have s13 := hb.size
  have K2_13 := Lib.hid (K2_12.out.below hb (show w.heap.size < W12.heap.size by omega))
  have K6_13 := Lib.hid (K6_12.out.below hb (show W4.heap.size < W12.heap.size by omega))
  have K70_13 := Lib.hid (K70_12.out.below hb (show W6.heap.size < W12.heap.size by omega))
  have K8_13 := Lib.hid (K8_12.out.below hb (show W9.heap.size < W12.heap.size by omega))
  have RW_13 := Lib.hid (RW_12.out.below hb (show W4.heap.size ≤ W12.heap.size by omega))
  have RX0_13 := Lib.hid (RX0_12.out.below hb (show W6.heap.size ≤ W12.heap.size by omega))
  have RX1_13 := Lib.hid (RX1_12.out.below hb (show W8.heap.size ≤ W12.heap.size by omega))
  have RG_13 := Lib.hid (RG_12.out.below hb (show W9.heap.size ≤ W12.heap.size by omega))
  have HB_13 := Lib.hid (HB_12.out.trans (hb.mono (show w.heap.size ≤ W12.heap.size by omega)))
  clear K2_12 K6_12 K70_12 K8_12 RW_12 RX0_12 RX1_12 RG_12 HB_12 hb
  have Rt_13 := Lib.hid hr
  clear hr
  obtain ⟨x20, x21, x22, _, _, _, x2lt⟩ := K2_13.out
  obtain ⟨x60, x61, x62, _, _, _, x6lt⟩ := K6_13.out
  obtain ⟨x700, x701, x702, _, _, _, x70lt⟩ := K70_13.out
  obtain ⟨x80, x81, x82, _, _, _, x8lt⟩ := K8_13.out
  go_wp2_with fail
  refine (eqIntS_same AX1 At cX1 ct os W13 (RX1_13.out.sl_now.more (show W8.heap.size ≤ W13.heap.size by omega)) (Rt_13.out.sl_now.more (show W13.heap.size ≤ W13.heap.size by omega)) (by omega)).mono ?_
  rintro e W14 ⟨rfl, hb⟩
  clear x20 x21 x22 x2lt x60 x61 x62 x6lt x700 x701 x702 x70lt x80 x81 x82 x8lt
  have s14 := hb.size
  have K2_14 := Lib.hid (K2_13.out.below hb (show w.heap.size < W13.heap.size by omega))
  have K6_14 := Lib.hid (K6_13.out.below hb (show W4.heap.size < W13.heap.size by omega))
  have K70_14 := Lib.hid (K70_13.out.below hb (show W6.heap.size < W13.heap.size by omega))
  have K8_14 := Lib.hid (K8_13.out.below hb (show W9.heap.size < W13.heap.size by omega))
  have RW_14 := Lib.hid (RW_13.out.below hb (show W4.heap.size ≤ W13.heap.size by omega))
  have RX0_14 := Lib.hid (RX0_13.out.below hb (show W6.heap.size ≤ W13.heap.size by omega))
  have RX1_14 := Lib.hid (RX1_13.out.below hb (show W8.heap.size ≤ W13.heap.size by omega))
  have RG_14 := Lib.hid (RG_13.out.below hb (show W9.heap.size ≤ W13.heap.size by omega))
  have Rt_14 := Lib.hid (Rt_13.out.below hb (show W13.heap.size ≤ W13.heap.size by omega))
  have HB_14 := Lib.hid (HB_13.out.trans (hb.mono (show w.heap.size ≤ W13.heap.size by omega)))
  clear K2_13 K6_13 K70_13 K8_13 RW_13 RX0_13 RX1_13 RG_13 Rt_13 HB_13 hb
  obtain ⟨x20, x21, x22, _, _, _, x2lt⟩ := K2_14.out
  obtain ⟨x60, x61, x62, _, _, _, x6lt⟩ := K6_14.out
  obtain ⟨x700, x701, x702, _, _, _, x70lt⟩ := K70_14.out
  obtain ⟨x80, x81, x82, _, _, _, x8lt⟩ := K8_14.out
  go_wp2_with fail
  refine (markM_any (W5.heap.size) (W6.heap.size) r c AX0 cX0 zs (1) W14 RX0_14.out (show W6.heap.size ≤ W14.heap.size by omega) (by omega) (by omega) (by omega)).mono ?_
  rintro e W15 ⟨rfl, hrm, hsp⟩
  clear x20 x21 x22 x2lt x60 x61 x62 x6lt x700 x701 x702 x70lt x80 x81 x82 x8lt
  have s15 := hsp.size
  have K2_15 := Lib.hid (K2_14.out.span hsp (show w.heap.size < W5.heap.size ∨ W6.heap.size ≤ w.heap.size by omega))
  have K6_15 := Lib.hid (K6_14.out.span hsp (show W4.heap.size < W5.heap.size ∨ W6.heap.size ≤ W4.heap.size by omega))
  have K70_15 := Lib.hid (K70_14.out.span hsp (show W6.heap.size < W5.heap.size ∨ W6.heap.size ≤ W6.heap.size by omega))
  have K8_15 := Lib.hid (K8_14.out.span hsp (show W9.heap.size < W5.heap.size ∨ W6.heap.size ≤ W9.heap.size by omega))
  have RW_15 := Lib.hid (RW_14.out.span hsp (show W4.heap.size ≤ W5.heap.size ∨ W6.heap.size ≤ W3.heap.size by omega))
  have RX1_15 := Lib.hid (RX1_14.out.span hsp (show W8.heap.size ≤ W5.heap.size ∨ W6.heap.size ≤ W7.heap.size by omega))
  have RG_15 := Lib.hid (RG_14.out.span hsp (show W9.heap.size ≤ W5.heap.size ∨ W6.heap.size ≤ W8.heap.size by omega))
  have HB_15 := Lib.hid (Span.below HB_14.out hsp (show w.heap.size ≤ W5.heap.size by omega) (show w.heap.size ≤ W14.heap.size by omega))
  clear K2_14 K6_14 K70_14 K8_14 RW_14 RX0_14 RX1_14 RG_14 HB_14 hsp hrm
  obtain ⟨x20, x21, x22, _, _, _, x2lt⟩ := K2_15.out
  obtain ⟨x60, x61, x62, _, _, _, x6lt⟩ := K6_15.out
  obtain ⟨x700, x701, x702, _, _, _, x70lt⟩ := K70_15.out
  obtain ⟨x80, x81, x82, _, _, _, x8lt⟩ := K8_15.out
  go_wp2_with fail
  refine (markIntS_any (W7.heap.size) (W8.heap.size) AX1 cX1 _ os (1 + (zs.length : Int)) W15 RX1_15.out (by omega) (by omega) (by omega)).mono ?_
  rintro e W16 ⟨rfl, hrm, hgr⟩
  have hsp := Span.of_grown (lo := W7.heap.size) (hi := W8.heap.size) hgr (fun g e => RX1_15.out.block_lt g e)
  clear hgr
  clear x20 x21 x22 x2lt x60 x61 x62 x6lt x700 x701 x702 x70lt x80 x81 x82 x8lt
  have s16 := hsp.size
  have K2_16 := Lib.hid (K2_15.out.span hsp (show w.heap.size < W7.heap.size ∨ W8.heap.size ≤ w.heap.size by omega))
  have K6_16 := Lib.hid (K6_15.out.span hsp (show W4.heap.size < W7.heap.size ∨ W8.heap.size ≤ W4.heap.size by omega))
  have K70_16 := Lib.hid (K70_15.out.span hsp (show W6.heap.size < W7.heap.size ∨ W8.heap.size ≤ W6.heap.size by omega))
  have K8_16 := Lib.hid (K8_15.out.span hsp (show W9.heap.size < W7.heap.size ∨ W8.heap.size ≤ W9.heap.size by omega))
  have RW_16 := Lib.hid (RW_15.out.span hsp (show W4.heap.size ≤ W7.heap.size ∨ W8.heap.size ≤ W3.heap.size by omega))
  have RG_16 := Lib.hid (RG_15.out.span hsp (show W9.heap.size ≤ W7.heap.size ∨ W8.heap.size ≤ W8.heap.size by omega))
  have HB_16 := Lib.hid (Span.below HB_15.out hsp (show w.heap.size ≤ W7.heap.size by omega) (show w.heap.size ≤ W15.heap.size by omega))
  clear K2_15 K6_15 K70_15 K8_15 RW_15 RX1_15 RG_15 HB_15 hsp hrm
  have hdk : decide (1 + (zs.length : Int) + (os.length : Int) < 0) = false := by simp; omega
  obtain ⟨x20, x21, x22, _, _, _, x2lt⟩ := K2_16.out
  obtain ⟨x60, x61, x62, _, _, _, x6lt⟩ := K6_16.out
  obtain ⟨x700, x701, x702, _, _, _, x70lt⟩ := K70_16.out
  obtain ⟨x80, x81, x82, _, _, _, x8lt⟩ := K8_16.out
  go_wp2_with fail
  refine (eqM_same pr pc AG AW cG cW ps W16 (RG_16.out.sl_now.more (show W9.heap.size ≤ W16.heap.size by omega)) (RW_16.out.sl_now.more (show W4.heap.size ≤ W16.heap.size by omega)) (by omega)).mono ?_
  rintro e W17 ⟨rfl, hb⟩
  clear x20 x21 x22 x2lt x60 x61 x62 x6lt x700 x701 x702 x70lt x80 x81 x82 x8lt
  have s17 := hb.size
  have K2_17 := Lib.hid (K2_16.out.below hb (show w.heap.size < W16.heap.size by omega))
  have K6_17 := Lib.hid (K6_16.out.below hb (show W4.heap.size < W16.heap.size by omega))
  have K70_17 := Lib.hid (K70_16.out.below hb (show W6.heap.size < W16.heap.size by omega))
  have K8_17 := Lib.hid (K8_16.out.below hb (show W9.heap.size < W16.heap.size by omega))
  have RW_17 := Lib.hid (RW_16.out.below hb (show W4.heap.size ≤ W16.heap.size by omega))
  have RG_17 := Lib.hid (RG_16.out.below hb (show W9.heap.size ≤ W16.heap.size by omega))
  have HB_17 := Lib.hid (HB_16.out.trans (hb.mono (show w.heap.size ≤ W16.heap.size by omega)))
  clear K2_16 K6_16 K70_16 K8_16 RW_16 RG_16 HB_16 hb
  obtain ⟨x20, x21, x22, _, _, _, x2lt⟩ := K2_17.out
  obtain ⟨x60, x61, x62, _, _, _, x6lt⟩ := K6_17.out
  obtain ⟨x700, x701, x702, _, _, _, x70lt⟩ := K70_17.out
  obtain ⟨x80, x81, x82, _, _, _, x8lt⟩ := K8_17.out
  go_wp2_with fail
  refine (markM_any (W8.heap.size) (W9.heap.size) pr pc AG cG ps 1 W17 RG_17.out (show W9.heap.size ≤ W17.heap.size by omega) (by omega) (by omega) (by omega)).mono ?_
  rintro e W18 ⟨rfl, hrm, hsp⟩
  clear x20 x21 x22 x2lt x60 x61 x62 x6lt x700 x701 x702 x70lt x80 x81 x82 x8lt
  have s18 := hsp.size
  have K2_18 := Lib.hid (K2_17.out.span hsp (show w.heap.size < W8.heap.size ∨ W9.heap.size ≤ w.heap.size by omega))
  have K6_18 := Lib.hid (K6_17.out.span hsp (show W4.heap.size < W8.heap.size ∨ W9.heap.size ≤ W4.heap.size by omega))
  have K70_18 := Lib.hid (K70_17.out.span hsp (show W6.heap.size < W8.heap.size ∨ W9.heap.size ≤ W6.heap.size by omega))
  have K8_18 := Lib.hid (K8_17.out.span hsp (show W9.heap.size < W8.heap.size ∨ W9.heap.size ≤ W9.heap.size by omega))
  have RW_18 := Lib.hid (RW_17.out.span hsp (show W4.heap.size ≤ W8.heap.size ∨ W9.heap.size ≤ W3.heap.size by omega))
  have HB_18 := Lib.hid (Span.below HB_17.out hsp (show w.heap.size ≤ W8.heap.size by omega) (show w.heap.size ≤ W17.heap.size by omega))
  have MG_18 := Lib.hid hrm
  clear K2_17 K6_17 K70_17 K8_17 RW_17 RG_17 HB_17 hsp hrm
  have RM_18 := Lib.hid (show Row W18 (W8.heap.size) (W9.heap.size) (.slice AG (marks 1 ps.length).length cG) (marks 1 ps.length) by rw [marks_length]; exact MG_18.out)
  clear MG_18
  have hd18 : decide (1 + (ps.length : Int) < 0) = false := by simp; omega
  obtain ⟨x20, x21, x22, _, _, _, x2lt⟩ := K2_18.out
  obtain ⟨x60, x61, x62, _, _, _, x6lt⟩ := K6_18.out
  obtain ⟨x700, x701, x702, _, _, _, x70lt⟩ := K70_18.out
  obtain ⟨x80, x81, x82, _, _, _, x8lt⟩ := K8_18.out
  go_wp2_with fail
  refine (heldM_same (W9.heap.size) pr pc AG cG ps.length 1 W18 RM_18.out.sl_now (show W9.heap.size ≤ W18.heap.size by omega) (by omega) (by omega) (by omega)).mono ?_
  rintro e W19 ⟨rfl, hb⟩
  clear x20 x21 x22 x2lt x60 x61 x62 x6lt x700 x701 x702 x70lt x80 x81 x82 x8lt
  have s19 := hb.size
  have K2_19 := Lib.hid (K2_18.out.below hb (show w.heap.size < W18.heap.size by omega))
  have K6_19 := Lib.hid (K6_18.out.below hb (show W4.heap.size < W18.heap.size by omega))
  have K70_19 := Lib.hid (K70_18.out.below hb (show W6.heap.size < W18.heap.size by omega))
  have K8_19 := Lib.hid (K8_18.out.below hb (show W9.heap.size < W18.heap.size by omega))
  have RW_19 := Lib.hid (RW_18.out.below hb (show W4.heap.size ≤ W18.heap.size by omega))
  have RM_19 := Lib.hid (RM_18.out.below hb (show W9.heap.size ≤ W18.heap.size by omega))
  have HB_19 := Lib.hid (HB_18.out.trans (hb.mono (show w.heap.size ≤ W18.heap.size by omega)))
  clear K2_18 K6_18 K70_18 K8_18 RW_18 RM_18 HB_18 hb
  obtain ⟨x20, x21, x22, _, _, _, x2lt⟩ := K2_19.out
  obtain ⟨x60, x61, x62, _, _, _, x6lt⟩ := K6_19.out
  obtain ⟨x700, x701, x702, _, _, _, x70lt⟩ := K70_19.out
  obtain ⟨x80, x81, x82, _, _, _, x8lt⟩ := K8_19.out
  go_wp2_with fail
  refine (toM_any r c A cap _ w.heap.size zs W19 (HS0.out.below HB_19.out (Nat.le_refl _)) (show w.heap.size ≤ W19.heap.size by omega) rfl (by omega)).mono ?_
  rintro e W20 ⟨sv20, rfl, hr, hb⟩
  obtain ⟨Ab0, cb0, rfl, hcp1, hcp2, _⟩ := hr.form
  have HCPb0 := Lib.hid (And.intro hcp1 hcp2)
  clear hcp1 hcp2
  clear x20 x21 x22 x2lt x60 x61 x62 x6lt x700 x701 x702 x70lt x80 x81 x82 x8lt
  have s20 := hb.size
  have K2_20 := Lib.hid (K2_19.out.below hb (show w.heap.size < W19.heap.size by omega))
  have K6_20 := Lib.hid (K6_19.out.below hb (show W4.heap.size < W19.heap.size by omega))
  have K70_20 := Lib.hid (K70_19.out.below hb (show W6.heap.size < W19.heap.size by omega))
  have K8_20 := Lib.hid (K8_19.out.below hb (show W9.heap.size < W19.heap.size by omega))
  have RW_20 := Lib.hid (RW_19.out.below hb (show W4.heap.size ≤ W19.heap.size by omega))
  have RM_20 := Lib.hid (RM_19.out.below hb (show W9.heap.size ≤ W19.heap.size by omega))
  have HB_20 := Lib.hid (HB_19.out.trans (hb.mono (show w.heap.size ≤ W19.heap.size by omega)))
  clear K2_19 K6_19 K70_19 K8_19 RW_19 RM_19 HB_19 hb
  have Rb0_20 := Lib.hid hr
  clear hr
  obtain ⟨x20, x21, x22, _, _, _, x2lt⟩ := K2_20.out
  obtain ⟨x60, x61, x62, _, _, _, x6lt⟩ := K6_20.out
  obtain ⟨x700, x701, x702, _, _, _, x70lt⟩ := K70_20.out
  obtain ⟨x80, x81, x82, _, _, _, x8lt⟩ := K8_20.out
  go_wp2_with fail
  refine (toIntS_any Ao capo os W20 ((HS1.out.below HB_20.out (Nat.le_refl _)).more (show w.heap.size ≤ W20.heap.size by omega)) (by omega)).mono ?_
  rintro e W21 ⟨sv21, rfl, hr, hb⟩
  obtain ⟨Ab1, cb1, rfl, hcp1, hcp2, _⟩ := hr.form
  have HCPb1 := Lib.hid (And.intro hcp1 hcp2)
  clear hcp1 hcp2
  clear x20 x21 x22 x2lt x60 x61 x62 x6lt x700 x701 x702 x70lt x80 x81 x82 x8lt
  have s21 := hb.size
  have K2_21 := Lib.hid (K2_20.out.below hb (show w.heap.size < W20.heap.size by omega))
  have K6_21 := Lib.hid (K6_20.out.below hb (show W4.heap.size < W20.heap.size by omega))
  have K70_21 := Lib.hid (K70_20.out.below hb (show W6.heap.size < W20.heap.size by omega))
  have K8_21 := Lib.hid (K8_20.out.below hb (show W9.heap.size < W20.heap.size by omega))
  have RW_21 := Lib.hid (RW_20.out.below hb (show W4.heap.size ≤ W20.heap.size by omega))
  have RM_21 := Lib.hid (RM_20.out.below hb (show W9.heap.size ≤ W20.heap.size by omega))
  have Rb0_21 := Lib.hid (Rb0_20.out.below hb (show W20.heap.size ≤ W20.heap.size by omega))
  have HB_21 := Lib.hid (HB_20.out.trans (hb.mono (show w.heap.size ≤ W20.heap.size by omega)))
  clear K2_20 K6_20 K70_20 K8_20 RW_20 RM_20 Rb0_20 HB_20 hb
  have Rb1_21 := Lib.hid hr
  clear hr
  obtain ⟨x20, x21, x22, _, _, _, x2lt⟩ := K2_21.out
  obtain ⟨x60, x61, x62, _, _, _, x6lt⟩ := K6_21.out
  obtain ⟨x700, x701, x702, _, _, _, x70lt⟩ := K70_21.out
  obtain ⟨x80, x81, x82, _, _, _, x8lt⟩ := K8_21.out
  go_wp2_with fail
  refine (implOrd_any r c Ab0 cb0 _ W21.heap.size zs Ab1 cb1 _ W21.heap.size os W21 (Rb0_21.out.sl_now.more (show W20.heap.size ≤ W21.heap.size by omega)) (Nat.le_refl _) rfl (by omega) (Rb1_21.out.sl_now.more (show W21.heap.size ≤ W21.heap.size by omega)) (Nat.le_refl _) rfl (by omega) HCPb0.out.1 HCPb0.out.2).mono ?_
  rintro e W22 ⟨sv22, rfl, hr, hb⟩
  rw [HP.out.1, HP.out.2.1]
  rw [HP.out.2.2] at hr
  obtain ⟨AH, cH, rfl, hcp1, hcp2, _⟩ := hr.form
  have HCPH := Lib.hid (And.intro hcp1 hcp2)
  clear hcp1 hcp2
  clear x20 x21 x22 x2lt x60 x61 x62 x6lt x700 x701 x702 x70lt x80 x81 x82 x8lt
  have s22 := hb.size
  have K2_22 := Lib.hid (K2_21.out.below hb (show w.heap.size < W21.heap.size by omega))
  have K6_22 := Lib.hid (K6_21.out.below hb (show W4.heap.size < W21.heap.size by omega))
  have K70_22 := Lib.hid (K70_21.out.below hb (show W6.heap.size < W21.heap.size by omega))
  have K8_22 := Lib.hid (K8_21.out.below hb (show W9.heap.size < W21.heap.size by omega))
  have RW_22 := Lib.hid (RW_21.out.below hb (show W4.heap.size ≤ W21.heap.size by omega))
  have RM_22 := Lib.hid (RM_21.out.below hb (show W9.heap.size ≤ W21.heap.size by omega))
  have Rb0_22 := Lib.hid (Rb0_21.out.below hb (show W20.heap.size ≤ W21.heap.size by omega))
  have Rb1_22 := Lib.hid (Rb1_21.out.below hb (show W21.heap.size ≤ W21.heap.size by omega))
  have HB_22 := Lib.hid (HB_21.out.trans (hb.mono (show w.heap.size ≤ W21.heap.size by omega)))
  clear K2_21 K6_21 K70_21 K8_21 RW_21 RM_21 Rb0_21 Rb1_21 HB_21 hb
  have RH_22 := Lib.hid hr
  clear hr
  have kn := Cell3.new W22 (.int .i64 pr) (.int .i64 pc) (.slice AH ps.length cH) 33
  obtain ⟨W23, hW23⟩ : ∃ W, W22.alloc (.cells #[.int .i64 pr, .int .i64 pc, .slice AH ps.length cH] 33) = W := ⟨_, rfl⟩
  rw [hW23] at kn
  have z23 : W23.heap.size = W22.heap.size + 1 := by rw [← hW23]; simp
  have hal : Below W22.heap.size W22 W23 := hW23 ▸ (Below.refl _ _).alloc (Nat.le_refl _) _
  have s23 := hal.size
  have K2_23 := Lib.hid (K2_22.out.below hal (show w.heap.size < W22.heap.size by omega))
  have K6_23 := Lib.hid (K6_22.out.below hal (show W4.heap.size < W22.heap.size by omega))
  have K70_23 := Lib.hid (K70_22.out.below hal (show W6.heap.size < W22.heap.size by omega))
  have K8_23 := Lib.hid (K8_22.out.below hal (show W9.heap.size < W22.heap.size by omega))
  have RW_23 := Lib.hid (RW_22.out.below hal (show W4.heap.size ≤ W22.heap.size by omega))
  have RM_23 := Lib.hid (RM_22.out.below hal (show W9.heap.size ≤ W22.heap.size by omega))
  have Rb0_23 := Lib.hid (Rb0_22.out.below hal (show W20.heap.size ≤ W22.heap.size by omega))
  have Rb1_23 := Lib.hid (Rb1_22.out.below hal (show W21.heap.size ≤ W22.heap.size by omega))
  have RH_23 := Lib.hid (RH_22.out.below hal (show W22.heap.size ≤ W22.heap.size by omega))
  have HB_23 := Lib.hid (HB_22.out.trans (hal.mono (show w.heap.size ≤ W22.heap.size by omega)))
  clear K2_22 K6_22 K70_22 K8_22 RW_22 RM_22 Rb0_22 Rb1_22 RH_22 HB_22 hal
  have K12_23 := Lib.hid kn
  clear kn
  obtain ⟨x20, x21, x22, _, _, _, x2lt⟩ := K2_23.out
  obtain ⟨x60, x61, x62, _, _, _, x6lt⟩ := K6_23.out
  obtain ⟨x700, x701, x702, _, _, _, x70lt⟩ := K70_23.out
  obtain ⟨x80, x81, x82, _, _, _, x8lt⟩ := K8_23.out
  obtain ⟨x120, x121, x122, _, _, _, x12lt⟩ := K12_23.out
  go_wp2_with fail
  refine (eqM_same pr pc AH AW cH cW ps W23 (RH_23.out.sl_now.more (show W22.heap.size ≤ W23.heap.size by omega)) (RW_23.out.sl_now.more (show W4.heap.size ≤ W23.heap.size by omega)) (by omega)).mono ?_
  rintro e W24 ⟨rfl, hb⟩
  clear x20 x21 x22 x2lt x60 x61 x62 x6lt x700 x701 x702 x70lt x80 x81 x82 x8lt x120 x121 x122 x12lt
  have s24 := hb.size
  have K2_24 := Lib.hid (K2_23.out.below hb (show w.heap.size < W23.heap.size by omega))
  have K6_24 := Lib.hid (K6_23.out.below hb (show W4.heap.size < W23.heap.size by omega))
  have K70_24 := Lib.hid (K70_23.out.below hb (show W6.heap.size < W23.heap.size by omega))
  have K8_24 := Lib.hid (K8_23.out.below hb (show W9.heap.size < W23.heap.size by omega))
  have K12_24 := Lib.hid (K12_23.out.below hb (show W22.heap.size < W23.heap.size by omega))
  have RW_24 := Lib.hid (RW_23.out.below hb (show W4.heap.size ≤ W23.heap.size by omega))
  have RM_24 := Lib.hid (RM_23.out.below hb (show W9.heap.size ≤ W23.heap.size by omega))
  have RH_24 := Lib.hid (RH_23.out.below hb (show W22.heap.size ≤ W23.heap.size by omega))
  have HB_24 := Lib.hid (HB_23.out.trans (hb.mono (show w.heap.size ≤ W23.heap.size by omega)))
  clear K2_23 K6_23 K70_23 K8_23 K12_23 RW_23 RM_23 RH_23 HB_23 hb
  obtain ⟨x20, x21, x22, _, _, _, x2lt⟩ := K2_24.out
  obtain ⟨x60, x61, x62, _, _, _, x6lt⟩ := K6_24.out
  obtain ⟨x700, x701, x702, _, _, _, x70lt⟩ := K70_24.out
  obtain ⟨x80, x81, x82, _, _, _, x8lt⟩ := K8_24.out
  obtain ⟨x120, x121, x122, _, _, _, x12lt⟩ := K12_24.out
  go_wp2_with fail
  refine (heldM_same (W9.heap.size) pr pc AG cG ps.length 1 W24 RM_24.out.sl_now (show W9.heap.size ≤ W24.heap.size by omega) (by omega) (by omega) (by omega)).mono ?_
  rintro e W25 ⟨rfl, hb⟩
  clear x20 x21 x22 x2lt x60 x61 x62 x6lt x700 x701 x702 x70lt x80 x81 x82 x8lt x120 x121 x122 x12lt
  have s25 := hb.size
  have K2_25 := Lib.hid (K2_24.out.below hb (show w.heap.size < W24.heap.size by omega))
  have K6_25 := Lib.hid (K6_24.out.below hb (show W4.heap.size < W24.heap.size by omega))
  have K70_25 := Lib.hid (K70_24.out.below hb (show W6.heap.size < W24.heap.size by omega))
  have K8_25 := Lib.hid (K8_24.out.below hb (show W9.heap.size < W24.heap.size by omega))
  have K12_25 := Lib.hid (K12_24.out.below hb (show W22.heap.size < W24.heap.size by omega))
  have RW_25 := Lib.hid (RW_24.out.below hb (show W4.heap.size ≤ W24.heap.size by omega))
  have RM_25 := Lib.hid (RM_24.out.below hb (show W9.heap.size ≤ W24.heap.size by omega))
  have RH_25 := Lib.hid (RH_24.out.below hb (show W22.heap.size ≤ W24.heap.size by omega))
  have HB_25 := Lib.hid (HB_24.out.trans (hb.mono (show w.heap.size ≤ W24.heap.size by omega)))
  clear K2_24 K6_24 K70_24 K8_24 K12_24 RW_24 RM_24 RH_24 HB_24 hb
  obtain ⟨x20, x21, x22, _, _, _, x2lt⟩ := K2_25.out
  obtain ⟨x60, x61, x62, _, _, _, x6lt⟩ := K6_25.out
  obtain ⟨x700, x701, x702, _, _, _, x70lt⟩ := K70_25.out
  obtain ⟨x80, x81, x82, _, _, _, x8lt⟩ := K8_25.out
  obtain ⟨x120, x121, x122, _, _, _, x12lt⟩ := K12_25.out
  go_wp2
  go_ret
  exact ⟨rfl, HB_25.out⟩
end Go.Proofs.Ytilmglockldddaa
