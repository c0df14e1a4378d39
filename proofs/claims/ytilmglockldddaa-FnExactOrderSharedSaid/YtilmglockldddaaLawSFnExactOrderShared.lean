/- The walk of the exact law FnExactOrderShared. (Printed by gen_LawS.py.) -/
import Derived.Test.YtilmglockldddaaFnsO2
import Derived.Test.YtilmglockldddaaCameS
import Derived.Test.YtilmglockldddaaDrw
import Derived.Deep.RegionHeld3
namespace Go.Proofs.Ytilmglockldddaa
open Go.RowKit
set_option maxRecDepth 20000 in
set_option maxHeartbeats 6400000 in
theorem law_FnExactOrderShared (w : World) (v0 : Value) (h0 : CameS w v0) (Ao : Option Addr) (no capo : Nat) (os : List Int) (h1 : CameInts w Ao no capo os) (sd : Int) (_ : (Lit.int .i64 sd).wf = true) :
    Calls Try.prog 7 #[v0, .slice Ao no capo, .int .i64 sd] w fun e w' => e = .returned (.bool true) ∧ Below w.heap.size w w' := by
  obtain ⟨r, c, A, n0, cap, zs, r2, c2, A2, n1, cap2, ks, rfl, hz, hk⟩ := h0
  obtain ⟨rfl, hnc, hcm, hs, _⟩ := hz
  obtain ⟨rfl, hnc2, hcm2, ht, _⟩ := hk
  obtain ⟨rfl, hnco, hcmo, ho, _⟩ := h1
  unfold maxLen at hcm hcm2 hcmo
  have HS := Lib.hid hs
  have HT := Lib.hid ht
  have HO := Lib.hid ho
  clear hs ht ho
  have K20 := Cell6.new w (.int .i64 r) (.int .i64 c) (.slice A zs.length cap) (.int .i64 r2) (.int .i64 c2) (.slice A2 ks.length cap2) 44
  obtain ⟨W0, hW⟩ : ∃ W, w.alloc (.cells #[.int .i64 r, .int .i64 c, .slice A zs.length cap, .int .i64 r2, .int .i64 c2, .slice A2 ks.length cap2] 44) = W := ⟨_, rfl⟩
  have hb0 : Below w.heap.size w W0 := hW ▸ (Below.refl _ _).alloc (Nat.le_refl _) _
  have hsW : W0.heap.size = w.heap.size + 1 := by rw [← hW]; simp
  rw [hW] at K20
  have K2_0 := Lib.hid K20
  clear K20
  have HB_0 := Lib.hid hb0
  clear hb0
  by_cases hno : (1048576 : Int) < os.length
  · obtain ⟨x20, x21, x22, x23, x24, x25, _, _, _, _, _, _, x2lt⟩ := K2_0.out
    go_enter Try.func7, Try.ntmps7
    go_wp2
    go_ret
    exact ⟨rfl, HB_0.out⟩
  have hdo : decide ((1048576 : Int) < (os.length : Int)) = false := by simp; omega
  have hsz := szS_any r c A cap zs.length r2 c2 A2 cap2 ks.length 1048576 W0 (by omega) (by omega) (by omega) (by omega)
  by_cases hn : (1048576 : Int) < zs.length ∨ 1048576 - (zs.length : Int) < (ks.length : Int)
  · have hsz' : Calls Try.prog 26 #[smV r c (.slice A zs.length cap) r2 c2 (.slice A2 ks.length cap2), .int .i64 1048576] W0 fun e w' => e = .returned (.int .i64 (-1)) ∧ Below W0.heap.size W0 w' := by
      by_cases h : (1048576 : Int) < zs.length
      · rw [if_pos h] at hsz
        exact hsz
      · rw [if_neg h, if_pos (by omega)] at hsz
        exact hsz
    clear hsz hn
    obtain ⟨x20, x21, x22, x23, x24, x25, _, _, _, _, _, _, x2lt⟩ := K2_0.out
    go_enter Try.func7, Try.ntmps7
    go_wp2_with fail
    refine hsz'.mono ?_
    rintro e w1 ⟨rfl, hb1⟩
    clear hsz'
    go_wp2
    go_ret
    exact ⟨rfl, HB_0.out.trans (hb1.mono (by omega))⟩
  rw [if_neg (by omega), if_neg (by omega)] at hsz
  have hd : decide (1048576 - (zs.length : Int) - (ks.length : Int) < 0) = false := by simp; omega
  have hl1 : zs.length ≤ 1048576 ∧ ks.length ≤ 1048576 ∧ os.length ≤ 1048576 := by omega
  clear hn hno
  go_enter Try.func7, Try.ntmps7
  obtain ⟨x20, x21, x22, x23, x24, x25, _, _, _, _, _, _, x2lt⟩ := K2_0.out
  go_wp2_with fail
  refine hsz.mono ?_
  rintro e W1 ⟨rfl, hb⟩
  clear hsz
  clear x20 x21 x22 x23 x24 x25 x2lt
  have s1 := hb.size
  have K2_1 := Lib.hid (K2_0.out.below hb (show w.heap.size < W0.heap.size by omega))
  have HB_1 := Lib.hid (HB_0.out.trans (hb.mono (show w.heap.size ≤ W0.heap.size by omega)))
  clear K2_0 HB_0 hb
  have hpl := osZ_len r c zs r2 c2 ks os sd
  obtain ⟨pr, hpr⟩ : ∃ x, osR r c zs r2 c2 ks os sd = x := ⟨_, rfl⟩
  obtain ⟨pc, hpc⟩ : ∃ x, osC r c zs r2 c2 ks os sd = x := ⟨_, rfl⟩
  obtain ⟨ps, hps⟩ : ∃ x, osZ r c zs r2 c2 ks os sd = x := ⟨_, rfl⟩
  obtain ⟨qs, hqs⟩ : ∃ x, osK r c zs r2 c2 ks os sd = x := ⟨_, rfl⟩
  obtain ⟨pn, hpn⟩ : ∃ x, osN r c zs r2 c2 ks os sd = x := ⟨_, rfl⟩
  rw [hps, hqs] at hpl
  have HP := Lib.hid (And.intro hpr (And.intro hpc (And.intro hps (And.intro hqs hpn))))
  clear hpr hpc hps hqs hpn
  obtain ⟨x20, x21, x22, x23, x24, x25, _, _, _, _, _, _, x2lt⟩ := K2_1.out
  go_wp2_with fail
  refine (toS_any r c A cap _ w.heap.size zs r2 c2 A2 cap2 _ w.heap.size ks W1 (HS.out.below HB_1.out (Nat.le_refl _)) (show w.heap.size ≤ W1.heap.size by omega) rfl (by omega) (HT.out.below HB_1.out (Nat.le_refl _)) (show w.heap.size ≤ W1.heap.size by omega) rfl (by omega)).mono ?_
  rintro e W2 ⟨sv2, tv2, rfl, hr, hb⟩
  obtain ⟨Aa, ca, Ba, da, rfl, rfl, hcp1, hcp2⟩ := hr.form
  have HCPa := Lib.hid (And.intro hcp1 hcp2)
  clear hcp1 hcp2
  clear x20 x21 x22 x23 x24 x25 x2lt
  have s2 := hb.size
  have K2_2 := Lib.hid (K2_1.out.below hb (show w.heap.size < W1.heap.size by omega))
  have HB_2 := Lib.hid (HB_1.out.trans (hb.mono (show w.heap.size ≤ W1.heap.size by omega)))
  clear K2_1 HB_1 hb
  have Ra_2 := Lib.hid hr
  clear hr
  obtain ⟨x20, x21, x22, x23, x24, x25, _, _, _, _, _, _, x2lt⟩ := K2_2.out
  go_wp2_with fail
  refine (toIntS_any Ao capo os W2 ((HO.out.below HB_2.out (Nat.le_refl _)).more (show w.heap.size ≤ W2.heap.size by omega)) (by omega)).mono ?_
  rintro e W3 ⟨sv3, rfl, hr, hb⟩
  obtain ⟨At, ct, rfl, hcp1, hcp2, _⟩ := hr.form
  have HCPt := Lib.hid (And.intro hcp1 hcp2)
  clear hcp1 hcp2
  clear x20 x21 x22 x23 x24 x25 x2lt
  have s3 := hb.size
  have K2_3 := Lib.hid (K2_2.out.below hb (show w.heap.size < W2.heap.size by omega))
  have Ra_3 := Lib.hid (Ra_2.out.below hb (show W2.heap.size ≤ W2.heap.size by omega))
  have HB_3 := Lib.hid (HB_2.out.trans (hb.mono (show w.heap.size ≤ W2.heap.size by omega)))
  clear K2_2 Ra_2 HB_2 hb
  have Rt_3 := Lib.hid hr
  clear hr
  obtain ⟨x20, x21, x22, x23, x24, x25, _, _, _, _, _, _, x2lt⟩ := K2_3.out
  go_wp2_with fail
  refine (specOS_any r c Aa ca _ W3.heap.size zs r2 c2 Ba da _ W3.heap.size ks At ct _ W3.heap.size os sd W3 (Ra_3.out.sl1.more (show W2.heap.size ≤ W3.heap.size by omega)) (Nat.le_refl _) rfl (by omega) (Ra_3.out.sl2.more (show W2.heap.size ≤ W3.heap.size by omega)) (Nat.le_refl _) rfl (by omega) (Rt_3.out.sl_now.more (show W3.heap.size ≤ W3.heap.size by omega)) (Nat.le_refl _) rfl (by omega)).mono ?_
  rintro e W4 ⟨sv4, tv4, rfl, hr, hb⟩
  rw [HP.out.1, HP.out.2.1, HP.out.2.2.2.2]
  rw [HP.out.2.2.1, HP.out.2.2.2.1] at hr
  obtain ⟨AW, cW, BW, dW, rfl, rfl, hcp1, hcp2⟩ := hr.form
  have HCPW := Lib.hid (And.intro hcp1 hcp2)
  clear hcp1 hcp2
  clear x20 x21 x22 x23 x24 x25 x2lt
  have s4 := hb.size
  have K2_4 := Lib.hid (K2_3.out.below hb (show w.heap.size < W3.heap.size by omega))
  have Ra_4 := Lib.hid (Ra_3.out.below hb (show W2.heap.size ≤ W3.heap.size by omega))
  have Rt_4 := Lib.hid (Rt_3.out.below hb (show W3.heap.size ≤ W3.heap.size by omega))
  have HB_4 := Lib.hid (HB_3.out.trans (hb.mono (show w.heap.size ≤ W3.heap.size by omega)))
  clear K2_3 Ra_3 Rt_3 HB_3 hb
  have RW_4 := Lib.hid hr
  clear hr
  have kn := Cell6.new W4 (.int .i64 pr) (.int .i64 pc) (.slice AW ps.length cW) (.int .i64 pr) (.int .i64 pc) (.slice BW qs.length dW) 47
  obtain ⟨W5, hW5⟩ : ∃ W, W4.alloc (.cells #[.int .i64 pr, .int .i64 pc, .slice AW ps.length cW, .int .i64 pr, .int .i64 pc, .slice BW qs.length dW] 47) = W := ⟨_, rfl⟩
  rw [hW5] at kn
  have z5 : W5.heap.size = W4.heap.size + 1 := by rw [← hW5]; simp
  have hal : Below W4.heap.size W4 W5 := hW5 ▸ (Below.refl _ _).alloc (Nat.le_refl _) _
  have s5 := hal.size
  have K2_5 := Lib.hid (K2_4.out.below hal (show w.heap.size < W4.heap.size by omega))
  have Ra_5 := Lib.hid (Ra_4.out.below hal (show W2.heap.size ≤ W4.heap.size by omega))
  have Rt_5 := Lib.hid (Rt_4.out.below hal (show W3.heap.size ≤ W4.heap.size by omega))
  have RW_5 := Lib.hid (RW_4.out.below hal (show W4.heap.size ≤ W4.heap.size by omega))
  have HB_5 := Lib.hid (HB_4.out.trans (hal.mono (show w.heap.size ≤ W4.heap.size by omega)))
  clear K2_4 Ra_4 Rt_4 RW_4 HB_4 hal
  have K6_5 := Lib.hid kn
  clear kn
  obtain ⟨x20, x21, x22, x23, x24, x25, _, _, _, _, _, _, x2lt⟩ := K2_5.out
  obtain ⟨x60, x61, x62, x63, x64, x65, _, _, _, _, _, _, x6lt⟩ := K6_5.out
  go_wp2_with fail
  refine (toS_any r c A cap _ w.heap.size zs r2 c2 A2 cap2 _ w.heap.size ks W5 (HS.out.below HB_5.out (Nat.le_refl _)) (show w.heap.size ≤ W5.heap.size by omega) rfl (by omega) (HT.out.below HB_5.out (Nat.le_refl _)) (show w.heap.size ≤ W5.heap.size by omega) rfl (by omega)).mono ?_
  rintro e W6 ⟨sv6, tv6, rfl, hr, hb⟩
  obtain ⟨AX, cX, BX, dX, rfl, rfl, hcp1, hcp2⟩ := hr.form
  have HCPX := Lib.hid (And.intro hcp1 hcp2)
  clear hcp1 hcp2
  clear x20 x21 x22 x23 x24 x25 x2lt x60 x61 x62 x63 x64 x65 x6lt
  have s6 := hb.size
  have K2_6 := Lib.hid (K2_5.out.below hb (show w.heap.size < W5.heap.size by omega))
  have K6_6 := Lib.hid (K6_5.out.below hb (show W4.heap.size < W5.heap.size by omega))
  have RW_6 := Lib.hid (RW_5.out.below hb (show W4.heap.size ≤ W5.heap.size by omega))
  have HB_6 := Lib.hid (HB_5.out.trans (hb.mono (show w.heap.size ≤ W5.heap.size by omega)))
  clear K2_5 K6_5 RW_5 HB_5 hb
  have RX_6 := Lib.hid hr
  clear hr
  have kn := Cell6.new W6 (.int .i64 r) (.int .i64 c) (.slice AX zs.length cX) (.int .i64 r2) (.int .i64 c2) (.slice BX ks.length dX) 47
  obtain ⟨W7, hW7⟩ : ∃ W, W6.alloc (.cells #[.int .i64 r, .int .i64 c, .slice AX zs.length cX, .int .i64 r2, .int .i64 c2, .slice BX ks.length dX] 47) = W := ⟨_, rfl⟩
  rw [hW7] at kn
  have z7 : W7.heap.size = W6.heap.size + 1 := by rw [← hW7]; simp
  have hal : Below W6.heap.size W6 W7 := hW7 ▸ (Below.refl _ _).alloc (Nat.le_refl _) _
  have s7 := hal.size
  have K2_7 := Lib.hid (K2_6.out.below hal (show w.heap.size < W6.heap.size by omega))
  have K6_7 := Lib.hid (K6_6.out.below hal (show W4.heap.size < W6.heap.size by omega))
  have RW_7 := Lib.hid (RW_6.out.below hal (show W4.heap.size ≤ W6.heap.size by omega))
  have RX_7 := Lib.hid (RX_6.out.below hal (show W6.heap.size ≤ W6.heap.size by omega))
  have HB_7 := Lib.hid (HB_6.out.trans (hal.mono (show w.heap.size ≤ W6.heap.size by omega)))
  clear K2_6 K6_6 RW_6 RX_6 HB_6 hal
  have K7_7 := Lib.hid kn
  clear kn
  obtain ⟨x20, x21, x22, x23, x24, x25, _, _, _, _, _, _, x2lt⟩ := K2_7.out
  obtain ⟨x60, x61, x62, x63, x64, x65, _, _, _, _, _, _, x6lt⟩ := K6_7.out
  obtain ⟨x70, x71, x72, x73, x74, x75, _, _, _, _, _, _, x7lt⟩ := K7_7.out
  go_wp2_with fail
  refine (toIntS_any Ao capo os W7 ((HO.out.below HB_7.out (Nat.le_refl _)).more (show w.heap.size ≤ W7.heap.size by omega)) (by omega)).mono ?_
  rintro e W8 ⟨sv8, rfl, hr, hb⟩
  obtain ⟨AY, cY, rfl, hcp1, hcp2, _⟩ := hr.form
  have HCPY := Lib.hid (And.intro hcp1 hcp2)
  clear hcp1 hcp2
  clear x20 x21 x22 x23 x24 x25 x2lt x60 x61 x62 x63 x64 x65 x6lt x70 x71 x72 x73 x74 x75 x7lt
  have s8 := hb.size
  have K2_8 := Lib.hid (K2_7.out.below hb (show w.heap.size < W7.heap.size by omega))
  have K6_8 := Lib.hid (K6_7.out.below hb (show W4.heap.size < W7.heap.size by omega))
  have K7_8 := Lib.hid (K7_7.out.below hb (show W6.heap.size < W7.heap.size by omega))
  have RW_8 := Lib.hid (RW_7.out.below hb (show W4.heap.size ≤ W7.heap.size by omega))
  have RX_8 := Lib.hid (RX_7.out.below hb (show W6.heap.size ≤ W7.heap.size by omega))
  have HB_8 := Lib.hid (HB_7.out.trans (hb.mono (show w.heap.size ≤ W7.heap.size by omega)))
  clear K2_7 K6_7 K7_7 RW_7 RX_7 HB_7 hb
  have RY_8 := Lib.hid hr
  clear hr
  obtain ⟨x20, x21, x22, x23, x24, x25, _, _, _, _, _, _, x2lt⟩ := K2_8.out
  obtain ⟨x60, x61, x62, x63, x64, x65, _, _, _, _, _, _, x6lt⟩ := K6_8.out
  obtain ⟨x70, x71, x72, x73, x74, x75, _, _, _, _, _, _, x7lt⟩ := K7_8.out
  go_wp2_with fail
  refine (implOS_any r c AX cX _ W8.heap.size zs r2 c2 BX dX _ W8.heap.size ks AY cY _ W8.heap.size os sd W8 (RX_8.out.sl1.more (show W6.heap.size ≤ W8.heap.size by omega)) (Nat.le_refl _) rfl (by omega) (RX_8.out.sl2.more (show W6.heap.size ≤ W8.heap.size by omega)) (Nat.le_refl _) rfl (by omega) (RY_8.out.sl_now.more (show W8.heap.size ≤ W8.heap.size by omega)) (Nat.le_refl _) rfl (by omega) HCPX.out.1.1 HCPX.out.1.2 HCPX.out.2.1 HCPX.out.2.2).mono ?_
  rintro e W9 ⟨sv9, tv9, rfl, hr, hb⟩
  rw [HP.out.1, HP.out.2.1, HP.out.2.2.2.2]
  rw [HP.out.2.2.1, HP.out.2.2.2.1] at hr
  obtain ⟨AG, cG, BG, dG, rfl, rfl, hcp1, hcp2⟩ := hr.form
  have HCPG := Lib.hid (And.intro hcp1 hcp2)
  clear hcp1 hcp2
  clear x20 x21 x22 x23 x24 x25 x2lt x60 x61 x62 x63 x64 x65 x6lt x70 x71 x72 x73 x74 x75 x7lt
  have s9 := hb.size
  have K2_9 := Lib.hid (K2_8.out.below hb (show w.heap.size < W8.heap.size by omega))
  have K6_9 := Lib.hid (K6_8.out.below hb (show W4.heap.size < W8.heap.size by omega))
  have K7_9 := Lib.hid (K7_8.out.below hb (show W6.heap.size < W8.heap.size by omega))
  have RW_9 := Lib.hid (RW_8.out.below hb (show W4.heap.size ≤ W8.heap.size by omega))
  have RX_9 := Lib.hid (RX_8.out.below hb (show W6.heap.size ≤ W8.heap.size by omega))
  have RY_9 := Lib.hid (RY_8.out.below hb (show W8.heap.size ≤ W8.heap.size by omega))
  have HB_9 := Lib.hid (HB_8.out.trans (hb.mono (show w.heap.size ≤ W8.heap.size by omega)))
  clear K2_8 K6_8 K7_8 RW_8 RX_8 RY_8 HB_8 hb
  have RG_9 := Lib.hid hr
  clear hr
  have kn := Cell6.new W9 (.int .i64 pr) (.int .i64 pc) (.slice AG ps.length cG) (.int .i64 pr) (.int .i64 pc) (.slice BG qs.length dG) 47
  obtain ⟨W10, hW10⟩ : ∃ W, W9.alloc (.cells #[.int .i64 pr, .int .i64 pc, .slice AG ps.length cG, .int .i64 pr, .int .i64 pc, .slice BG qs.length dG] 47) = W := ⟨_, rfl⟩
  rw [hW10] at kn
  have z10 : W10.heap.size = W9.heap.size + 1 := by rw [← hW10]; simp
  have hal : Below W9.heap.size W9 W10 := hW10 ▸ (Below.refl _ _).alloc (Nat.le_refl _) _
  have s10 := hal.size
  have K2_10 := Lib.hid (K2_9.out.below hal (show w.heap.size < W9.heap.size by omega))
  have K6_10 := Lib.hid (K6_9.out.below hal (show W4.heap.size < W9.heap.size by omega))
  have K7_10 := Lib.hid (K7_9.out.below hal (show W6.heap.size < W9.heap.size by omega))
  have RW_10 := Lib.hid (RW_9.out.below hal (show W4.heap.size ≤ W9.heap.size by omega))
  have RX_10 := Lib.hid (RX_9.out.below hal (show W6.heap.size ≤ W9.heap.size by omega))
  have RY_10 := Lib.hid (RY_9.out.below hal (show W8.heap.size ≤ W9.heap.size by omega))
  have RG_10 := Lib.hid (RG_9.out.below hal (show W9.heap.size ≤ W9.heap.size by omega))
  have HB_10 := Lib.hid (HB_9.out.trans (hal.mono (show w.heap.size ≤ W9.heap.size by omega)))
  clear K2_9 K6_9 K7_9 RW_9 RX_9 RY_9 RG_9 HB_9 hal
  have K8_10 := Lib.hid kn
  clear kn
  obtain ⟨x20, x21, x22, x23, x24, x25, _, _, _, _, _, _, x2lt⟩ := K2_10.out
  obtain ⟨x60, x61, x62, x63, x64, x65, _, _, _, _, _, _, x6lt⟩ := K6_10.out
  obtain ⟨x70, x71, x72, x73, x74, x75, _, _, _, _, _, _, x7lt⟩ := K7_10.out
  obtain ⟨x80, x81, x82, x83, x84, x85, _, _, _, _, _, _, x8lt⟩ := K8_10.out
  go_wp2_with fail
  refine (eqS_same pr pc AG AW cG cW ps pr pc BG BW dG dW qs W10 (RG_10.out.sl1.more (show W9.heap.size ≤ W10.heap.size by omega)) (RW_10.out.sl1.more (show W4.heap.size ≤ W10.heap.size by omega)) (RG_10.out.sl2.more (show W9.heap.size ≤ W10.heap.size by omega)) (RW_10.out.sl2.more (show W4.heap.size ≤ W10.heap.size by omega)) (by omega) (by omega)).mono ?_
  rintro e W11 ⟨rfl, hb⟩
  clear x20 x21 x22 x23 x24 x25 x2lt x60 x61 x62 x63 x64 x65 x6lt x70 x71 x72 x73 x74 x75 x7lt x80 x81 x82 x83 x84 x85 x8lt
  have s11 := hb.size
  have K2_11 := Lib.hid (K2_10.out.below hb (show w.heap.size < W10.heap.size by omega))
  have K6_11 := Lib.hid (K6_10.out.below hb (show W4.heap.size < W10.heap.size by omega))
  have K7_11 := Lib.hid (K7_10.out.below hb (show W6.heap.size < W10.heap.size by omega))
  have K8_11 := Lib.hid (K8_10.out.below hb (show W9.heap.size < W10.heap.size by omega))
  have RW_11 := Lib.hid (RW_10.out.below hb (show W4.heap.size ≤ W10.heap.size by omega))
  have RX_11 := Lib.hid (RX_10.out.below hb (show W6.heap.size ≤ W10.heap.size by omega))
  have RY_11 := Lib.hid (RY_10.out.below hb (show W8.heap.size ≤ W10.heap.size by omega))
  have RG_11 := Lib.hid (RG_10.out.below hb (show W9.heap.size ≤ W10.heap.size by omega))
  have HB_11 := Lib.hid (HB_10.out.trans (hb.mono (show w.heap.size ≤ W10.heap.size by omega)))
  clear K2_10 K6_10 K7_10 K8_10 RW_10 RX_10 RY_10 RG_10 HB_10 hb
  obtain ⟨x20, x21, x22, x23, x24, x25, _, _, _, _, _, _, x2lt⟩ := K2_11.out
  obtain ⟨x60, x61, x62, x63, x64, x65, _, _, _, _, _, _, x6lt⟩ := K6_11.out
  obtain ⟨x70, x71, x72, x73, x74, x75, _, _, _, _, _, _, x7lt⟩ := K7_11.out
  obtain ⟨x80, x81, x82, x83, x84, x85, _, _, _, _, _, _, x8lt⟩ := K8_11.out
  have HMK := Lib.hid fun w' (hx : Below W11.heap.size W11 w') => (show w'.cell? ⟨W6.heap.size, 0, none⟩ = some (.int .i64 r) ∧ w'.cell? ⟨W6.heap.size, 1, none⟩ = some (.int .i64 c) ∧ w'.cell? ⟨W6.heap.size, 2, none⟩ = some (.slice AX zs.length cX) ∧ w'.cell? ⟨W6.heap.size, 3, none⟩ = some (.int .i64 r2) ∧ w'.cell? ⟨W6.heap.size, 4, none⟩ = some (.int .i64 c2) ∧ w'.cell? ⟨W6.heap.size, 5, none⟩ = some (.slice BX ks.length dX) ∧ w'.cell? ⟨w.heap.size, 0, none⟩ = some (.int .i64 r) ∧ w'.cell? ⟨w.heap.size, 1, none⟩ = some (.int .i64 c) ∧ w'.cell? ⟨w.heap.size, 2, none⟩ = some (.slice A zs.length cap) ∧ w'.cell? ⟨w.heap.size, 3, none⟩ = some (.int .i64 r2) ∧ w'.cell? ⟨w.heap.size, 4, none⟩ = some (.int .i64 c2) ∧ w'.cell? ⟨w.heap.size, 5, none⟩ = some (.slice A2 ks.length cap2) from (by have h := K7_11.out.below hx (show W6.heap.size < W11.heap.size by omega); have h' := K2_11.out.below hx (show w.heap.size < W11.heap.size by omega); exact ⟨h.c0, h.c1, h.c2, h.c3, h.c4, h.c5, h'.c0, h'.c1, h'.c2, h'.c3, h'.c4, h'.c5⟩))
  have hcur : Below W11.heap.size W11 W11.drew := Below.of_drew _
  go_wp2
  go_region_held3 (fun w' => w'.cell? ⟨W6.heap.size, 0, none⟩ = some (.int .i64 r) ∧ w'.cell? ⟨W6.heap.size, 1, none⟩ = some (.int .i64 c) ∧ w'.cell? ⟨W6.heap.size, 2, none⟩ = some (.slice AX zs.length cX) ∧ w'.cell? ⟨W6.heap.size, 3, none⟩ = some (.int .i64 r2) ∧ w'.cell? ⟨W6.heap.size, 4, none⟩ = some (.int .i64 c2) ∧ w'.cell? ⟨W6.heap.size, 5, none⟩ = some (.slice BX ks.length dX) ∧ w'.cell? ⟨w.heap.size, 0, none⟩ = some (.int .i64 r) ∧ w'.cell? ⟨w.heap.size, 1, none⟩ = some (.int .i64 c) ∧ w'.cell? ⟨w.heap.size, 2, none⟩ = some (.slice A zs.length cap) ∧ w'.cell? ⟨w.heap.size, 3, none⟩ = some (.int .i64 r2) ∧ w'.cell? ⟨w.heap.size, 4, none⟩ = some (.int .i64 c2) ∧ w'.cell? ⟨w.heap.size, 5, none⟩ = some (.slice A2 ks.length cap2))
    (first | with_reducible exact HMK.out _ hcur | fail)
    (first
      | (go_simp; go_at_call 28; (refine (toS_any r c A cap _ w.heap.size zs r2 c2 A2 cap2 _ w.heap.size ks W11.drew (HS.out.below (HB_11.out.trans (Below.of_drew _)) (Nat.le_refl _)) (show w.heap.size ≤ W11.heap.size by omega) rfl (by omega) (HT.out.below (HB_11.out.trans (Below.of_drew _)) (Nat.le_refl _)) (show w.heap.size ≤ W11.heap.size by omega) rfl (by omega)).mono ?_); rintro e Wa ⟨sva, tva, rfl, hra, hba⟩; obtain ⟨Aq, cq, Bq, dq, rfl, rfl, _, _⟩ := hra.form; have hcur := hcur.trans (hba.mono (Nat.le_refl _)))
      | (go_simp; go_at_call 30; (refine (eqS_same r c AX Aq cX cq zs r2 c2 BX Bq dX dq ks Wa ((RX_11.out.sl1.below hcur (show W6.heap.size ≤ W11.heap.size by omega)).more (Nat.le_trans (show W6.heap.size ≤ W11.heap.size by omega) hcur.size)) hra.sl1 ((RX_11.out.sl2.below hcur (show W6.heap.size ≤ W11.heap.size by omega)).more (Nat.le_trans (show W6.heap.size ≤ W11.heap.size by omega) hcur.size)) hra.sl2 (by omega) (by omega)).mono ?_); rintro e Wb ⟨rfl, hbb⟩; have hcur := hcur.trans (hbb.mono hcur.size))
      | fail)
  clear hra hba hbb HMK
  obtain ⟨W12, hWb⟩ : ∃ W, W = Wb := ⟨_, rfl⟩
  subst hWb
  clear x20 x21 x22 x23 x24 x25 x2lt x60 x61 x62 x63 x64 x65 x6lt x70 x71 x72 x73 x74 x75 x7lt x80 x81 x82 x83 x84 x85 x8lt
  have s12 := hcur.size
  have K2_12 := Lib.hid (K2_11.out.below hcur (show w.heap.size < W11.heap.size by omega))
  have K6_12 := Lib.hid (K6_11.out.below hcur (show W4.heap.size < W11.heap.size by omega))
  have K7_12 := Lib.hid (K7_11.out.below hcur (show W6.heap.size < W11.heap.size by omega))
  have K8_12 := Lib.hid (K8_11.out.below hcur (show W9.heap.size < W11.heap.size by omega))
  have RW_12 := Lib.hid (RW_11.out.below hcur (show W4.heap.size ≤ W11.heap.size by omega))
  have RX_12 := Lib.hid (RX_11.out.below hcur (show W6.heap.size ≤ W11.heap.size by omega))
  have RY_12 := Lib.hid (RY_11.out.below hcur (show W8.heap.size ≤ W11.heap.size by omega))
  have RG_12 := Lib.hid (RG_11.out.below hcur (show W9.heap.size ≤ W11.heap.size by omega))
  have HB_12 := Lib.hid (HB_11.out.trans (hcur.mono (show w.heap.size ≤ W11.heap.size by omega)))
  clear K2_11 K6_11 K7_11 K8_11 RW_11 RX_11 RY_11 RG_11 HB_11 hcur
  obtain ⟨x20, x21, x22, x23, x24, x25, _, _, _, _, _, _, x2lt⟩ := K2_12.out
  obtain ⟨x60, x61, x62, x63, x64, x65, _, _, _, _, _, _, x6lt⟩ := K6_12.out
  obtain ⟨x70, x71, x72, x73, x74, x75, _, _, _, _, _, _, x7lt⟩ := K7_12.out
  obtain ⟨x80, x81, x82, x83, x84, x85, _, _, _, _, _, _, x8lt⟩ := K8_12.out
  go_wp2_with fail
  refine (toIntS_any Ao capo os W12 ((HO.out.below HB_12.out (Nat.le_refl _)).more (show w.heap.size ≤ W12.heap.size by omega)) (by omega)).mono ?_
  rintro e W13 ⟨sv13, rfl, hr, hb⟩
  obtain ⟨Av, cv, rfl, hcp1, hcp2, _⟩ := hr.form
  have HCPv := Lib.hid (And.intro hcp1 hcp2)
  clear hcp1 hcp2
  clear x20 x21 x22 x23 x24 x25 x2lt x60 x61 x62 x63 x64 x65 x6lt x70 x71 x72 x73 x74 x75 x7lt x80 x81 x82 x83 x84 x85 x8lt
  have s13 := hb.size
  have K2_13 := Lib.hid (K2_12.out.below hb (show w.heap.size < W12.heap.size by omega))
  have K6_13 := Lib.hid (K6_12.out.below hb (show W4.heap.size < W12.heap.size by omega))
  have K7_13 := Lib.hid (K7_12.out.below hb (show W6.heap.size < W12.heap.size by omega))
  have K8_13 := Lib.hid (K8_12.out.below hb (show W9.heap.size < W12.heap.size by omega))
  have RW_13 := Lib.hid (RW_12.out.below hb (show W4.heap.size ≤ W12.heap.size by omega))
  have RX_13 := Lib.hid (RX_12.out.below hb (show W6.heap.size ≤ W12.heap.size by omega))
  have RY_13 := Lib.hid (RY_12.out.below hb (show W8.heap.size ≤ W12.heap.size by omega))
  have RG_13 := Lib.hid (RG_12.out.below hb (show W9.heap.size ≤ W12.heap.size by omega))
  have HB_13 := Lib.hid (HB_12.out.trans (hb.mono (show w.heap.size ≤ W12.heap.size by omega)))
  clear K2_12 K6_12 K7_12 K8_12 RW_12 RX_12 RY_12 RG_12 HB_12 hb
  have Rv_13 := Lib.hid hr
  clear hr
  obtain ⟨x20, x21, x22, x23, x24, x25, _, _, _, _, _, _, x2lt⟩ := K2_13.out
  obtain ⟨x60, x61, x62, x63, x64, x65, _, _, _, _, _, _, x6lt⟩ := K6_13.out
  obtain ⟨x70, x71, x72, x73, x74, x75, _, _, _, _, _, _, x7lt⟩ := K7_13.out
  obtain ⟨x80, x81, x82, x83, x84, x85, _, _, _, _, _, _, x8lt⟩ := K8_13.out
  go_wp2_with fail
  refine (eqIntS_same AY Av cY cv os W13 (RY_13.out.sl_now.more (show W8.heap.size ≤ W13.heap.size by omega)) (Rv_13.out.sl_now.more (show W13.heap.size ≤ W13.heap.size by omega)) (by omega)).mono ?_
  rintro e W14 ⟨rfl, hb⟩
  clear x20 x21 x22 x23 x24 x25 x2lt x60 x61 x62 x63 x64 x65 x6lt x70 x71 x72 x73 x74 x75 x7lt x80 x81 x82 x83 x84 x85 x8lt
  have s14 := hb.size
  have K2_14 := Lib.hid (K2_13.out.below hb (show w.heap.size < W13.heap.size by omega))
  have K6_14 := Lib.hid (K6_13.out.below hb (show W4.heap.size < W13.heap.size by omega))
  have K7_14 := Lib.hid (K7_13.out.below hb (show W6.heap.size < W13.heap.size by omega))
  have K8_14 := Lib.hid (K8_13.out.below hb (show W9.heap.size < W13.heap.size by omega))
  have RW_14 := Lib.hid (RW_13.out.below hb (show W4.heap.size ≤ W13.heap.size by omega))
  have RX_14 := Lib.hid (RX_13.out.below hb (show W6.heap.size ≤ W13.heap.size by omega))
  have RY_14 := Lib.hid (RY_13.out.below hb (show W8.heap.size ≤ W13.heap.size by omega))
  have RG_14 := Lib.hid (RG_13.out.below hb (show W9.heap.size ≤ W13.heap.size by omega))
  have Rv_14 := Lib.hid (Rv_13.out.below hb (show W13.heap.size ≤ W13.heap.size by omega))
  have HB_14 := Lib.hid (HB_13.out.trans (hb.mono (show w.heap.size ≤ W13.heap.size by omega)))
  clear K2_13 K6_13 K7_13 K8_13 RW_13 RX_13 RY_13 RG_13 Rv_13 HB_13 hb
  obtain ⟨x20, x21, x22, x23, x24, x25, _, _, _, _, _, _, x2lt⟩ := K2_14.out
  obtain ⟨x60, x61, x62, x63, x64, x65, _, _, _, _, _, _, x6lt⟩ := K6_14.out
  obtain ⟨x70, x71, x72, x73, x74, x75, _, _, _, _, _, _, x7lt⟩ := K7_14.out
  obtain ⟨x80, x81, x82, x83, x84, x85, _, _, _, _, _, _, x8lt⟩ := K8_14.out
  go_wp2_with fail
  refine (markS_any (W5.heap.size) (W6.heap.size) r c AX cX zs r2 c2 BX dX ks (1) W14 RX_14.out (show W6.heap.size ≤ W14.heap.size by omega) (by omega) (by omega) (by omega) (by omega)).mono ?_
  rintro e W15 ⟨rfl, hrm, hsp⟩
  clear x20 x21 x22 x23 x24 x25 x2lt x60 x61 x62 x63 x64 x65 x6lt x70 x71 x72 x73 x74 x75 x7lt x80 x81 x82 x83 x84 x85 x8lt
  have s15 := hsp.size
  have K2_15 := Lib.hid (K2_14.out.span hsp (show w.heap.size < W5.heap.size ∨ W6.heap.size ≤ w.heap.size by omega))
  have K6_15 := Lib.hid (K6_14.out.span hsp (show W4.heap.size < W5.heap.size ∨ W6.heap.size ≤ W4.heap.size by omega))
  have K7_15 := Lib.hid (K7_14.out.span hsp (show W6.heap.size < W5.heap.size ∨ W6.heap.size ≤ W6.heap.size by omega))
  have K8_15 := Lib.hid (K8_14.out.span hsp (show W9.heap.size < W5.heap.size ∨ W6.heap.size ≤ W9.heap.size by omega))
  have RW_15 := Lib.hid (RW_14.out.span hsp (show W4.heap.size ≤ W5.heap.size ∨ W6.heap.size ≤ W3.heap.size by omega))
  have RY_15 := Lib.hid (RY_14.out.span hsp (show W8.heap.size ≤ W5.heap.size ∨ W6.heap.size ≤ W7.heap.size by omega))
  have RG_15 := Lib.hid (RG_14.out.span hsp (show W9.heap.size ≤ W5.heap.size ∨ W6.heap.size ≤ W8.heap.size by omega))
  have HB_15 := Lib.hid (Span.below HB_14.out hsp (show w.heap.size ≤ W5.heap.size by omega) (show w.heap.size ≤ W14.heap.size by omega))
  clear K2_14 K6_14 K7_14 K8_14 RW_14 RX_14 RY_14 RG_14 HB_14 hsp
  clear hrm
  obtain ⟨x20, x21, x22, x23, x24, x25, _, _, _, _, _, _, x2lt⟩ := K2_15.out
  obtain ⟨x60, x61, x62, x63, x64, x65, _, _, _, _, _, _, x6lt⟩ := K6_15.out
  obtain ⟨x70, x71, x72, x73, x74, x75, _, _, _, _, _, _, x7lt⟩ := K7_15.out
  obtain ⟨x80, x81, x82, x83, x84, x85, _, _, _, _, _, _, x8lt⟩ := K8_15.out
  go_wp2_with fail
  refine (markIntS_any (W7.heap.size) (W8.heap.size) AY cY _ os (1 + (zs.length : Int) + (ks.length : Int)) W15 RY_15.out (by omega) (by omega) (by omega)).mono ?_
  rintro e W16 ⟨rfl, hrm, hgr⟩
  have hsp := Span.of_grown (lo := W7.heap.size) (hi := W8.heap.size) hgr (fun g e => RY_15.out.block_lt g e)
  clear hgr
  clear x20 x21 x22 x23 x24 x25 x2lt x60 x61 x62 x63 x64 x65 x6lt x70 x71 x72 x73 x74 x75 x7lt x80 x81 x82 x83 x84 x85 x8lt
  have s16 := hsp.size
  have K2_16 := Lib.hid (K2_15.out.span hsp (show w.heap.size < W7.heap.size ∨ W8.heap.size ≤ w.heap.size by omega))
  have K6_16 := Lib.hid (K6_15.out.span hsp (show W4.heap.size < W7.heap.size ∨ W8.heap.size ≤ W4.heap.size by omega))
  have K7_16 := Lib.hid (K7_15.out.span hsp (show W6.heap.size < W7.heap.size ∨ W8.heap.size ≤ W6.heap.size by omega))
  have K8_16 := Lib.hid (K8_15.out.span hsp (show W9.heap.size < W7.heap.size ∨ W8.heap.size ≤ W9.heap.size by omega))
  have RW_16 := Lib.hid (RW_15.out.span hsp (show W4.heap.size ≤ W7.heap.size ∨ W8.heap.size ≤ W3.heap.size by omega))
  have RG_16 := Lib.hid (RG_15.out.span hsp (show W9.heap.size ≤ W7.heap.size ∨ W8.heap.size ≤ W8.heap.size by omega))
  have HB_16 := Lib.hid (Span.below HB_15.out hsp (show w.heap.size ≤ W7.heap.size by omega) (show w.heap.size ≤ W15.heap.size by omega))
  clear K2_15 K6_15 K7_15 K8_15 RW_15 RY_15 RG_15 HB_15 hsp hrm
  have hdk : decide (1 + (zs.length : Int) + (ks.length : Int) + (os.length : Int) < 0) = false := by simp; omega
  obtain ⟨x20, x21, x22, x23, x24, x25, _, _, _, _, _, _, x2lt⟩ := K2_16.out
  obtain ⟨x60, x61, x62, x63, x64, x65, _, _, _, _, _, _, x6lt⟩ := K6_16.out
  obtain ⟨x70, x71, x72, x73, x74, x75, _, _, _, _, _, _, x7lt⟩ := K7_16.out
  obtain ⟨x80, x81, x82, x83, x84, x85, _, _, _, _, _, _, x8lt⟩ := K8_16.out
  go_wp2_with fail
  refine (eqS_same pr pc AG AW cG cW ps pr pc BG BW dG dW qs W16 (RG_16.out.sl1.more (show W9.heap.size ≤ W16.heap.size by omega)) (RW_16.out.sl1.more (show W4.heap.size ≤ W16.heap.size by omega)) (RG_16.out.sl2.more (show W9.heap.size ≤ W16.heap.size by omega)) (RW_16.out.sl2.more (show W4.heap.size ≤ W16.heap.size by omega)) (by omega) (by omega)).mono ?_
  rintro e W17 ⟨rfl, hb⟩
  clear x20 x21 x22 x23 x24 x25 x2lt x60 x61 x62 x63 x64 x65 x6lt x70 x71 x72 x73 x74 x75 x7lt x80 x81 x82 x83 x84 x85 x8lt
  have s17 := hb.size
  have K2_17 := Lib.hid (K2_16.out.below hb (show w.heap.size < W16.heap.size by omega))
  have K6_17 := Lib.hid (K6_16.out.below hb (show W4.heap.size < W16.heap.size by omega))
  have K7_17 := Lib.hid (K7_16.out.below hb (show W6.heap.size < W16.heap.size by omega))
  have K8_17 := Lib.hid (K8_16.out.below hb (show W9.heap.size < W16.heap.size by omega))
  have RW_17 := Lib.hid (RW_16.out.below hb (show W4.heap.size ≤ W16.heap.size by omega))
  have RG_17 := Lib.hid (RG_16.out.below hb (show W9.heap.size ≤ W16.heap.size by omega))
  have HB_17 := Lib.hid (HB_16.out.trans (hb.mono (show w.heap.size ≤ W16.heap.size by omega)))
  clear K2_16 K6_16 K7_16 K8_16 RW_16 RG_16 HB_16 hb
  obtain ⟨x20, x21, x22, x23, x24, x25, _, _, _, _, _, _, x2lt⟩ := K2_17.out
  obtain ⟨x60, x61, x62, x63, x64, x65, _, _, _, _, _, _, x6lt⟩ := K6_17.out
  obtain ⟨x70, x71, x72, x73, x74, x75, _, _, _, _, _, _, x7lt⟩ := K7_17.out
  obtain ⟨x80, x81, x82, x83, x84, x85, _, _, _, _, _, _, x8lt⟩ := K8_17.out
  go_wp2_with fail
  refine (markS_any (W8.heap.size) (W9.heap.size) pr pc AG cG ps pr pc BG dG qs (1) W17 RG_17.out (show W9.heap.size ≤ W17.heap.size by omega) (by omega) (by omega) (by omega) (by omega)).mono ?_
  rintro e W18 ⟨rfl, hrm, hsp⟩
  clear x20 x21 x22 x23 x24 x25 x2lt x60 x61 x62 x63 x64 x65 x6lt x70 x71 x72 x73 x74 x75 x7lt x80 x81 x82 x83 x84 x85 x8lt
  have s18 := hsp.size
  have K2_18 := Lib.hid (K2_17.out.span hsp (show w.heap.size < W8.heap.size ∨ W9.heap.size ≤ w.heap.size by omega))
  have K6_18 := Lib.hid (K6_17.out.span hsp (show W4.heap.size < W8.heap.size ∨ W9.heap.size ≤ W4.heap.size by omega))
  have K7_18 := Lib.hid (K7_17.out.span hsp (show W6.heap.size < W8.heap.size ∨ W9.heap.size ≤ W6.heap.size by omega))
  have K8_18 := Lib.hid (K8_17.out.span hsp (show W9.heap.size < W8.heap.size ∨ W9.heap.size ≤ W9.heap.size by omega))
  have RW_18 := Lib.hid (RW_17.out.span hsp (show W4.heap.size ≤ W8.heap.size ∨ W9.heap.size ≤ W3.heap.size by omega))
  have HB_18 := Lib.hid (Span.below HB_17.out hsp (show w.heap.size ≤ W8.heap.size by omega) (show w.heap.size ≤ W17.heap.size by omega))
  clear K2_17 K6_17 K7_17 K8_17 RW_17 RG_17 HB_17 hsp
  have RM_18 := Lib.hid (show RowS W18 (W8.heap.size) (W9.heap.size) (.slice AG (marks 1 ps.length).length cG) (.slice BG (marks (1 + (ps.length : Int)) qs.length).length dG) (marks 1 ps.length) (marks (1 + (ps.length : Int)) qs.length) by rw [marks_length, marks_length]; exact hrm)
  clear hrm
  have hdm : decide (1 + (ps.length : Int) + (qs.length : Int) < 0) = false := by simp; omega
  obtain ⟨x20, x21, x22, x23, x24, x25, _, _, _, _, _, _, x2lt⟩ := K2_18.out
  obtain ⟨x60, x61, x62, x63, x64, x65, _, _, _, _, _, _, x6lt⟩ := K6_18.out
  obtain ⟨x70, x71, x72, x73, x74, x75, _, _, _, _, _, _, x7lt⟩ := K7_18.out
  obtain ⟨x80, x81, x82, x83, x84, x85, _, _, _, _, _, _, x8lt⟩ := K8_18.out
  go_wp2_with fail
  refine (heldS_same (W9.heap.size) pr pc AG cG ps.length pr pc BG dG qs.length 1 W18 RM_18.out.sl1 RM_18.out.sl2 (show W9.heap.size ≤ W18.heap.size by omega) (by omega) (by omega) (by omega) (by omega)).mono ?_
  rintro e W19 ⟨rfl, hb⟩
  clear x20 x21 x22 x23 x24 x25 x2lt x60 x61 x62 x63 x64 x65 x6lt x70 x71 x72 x73 x74 x75 x7lt x80 x81 x82 x83 x84 x85 x8lt
  have s19 := hb.size
  have K2_19 := Lib.hid (K2_18.out.below hb (show w.heap.size < W18.heap.size by omega))
  have K6_19 := Lib.hid (K6_18.out.below hb (show W4.heap.size < W18.heap.size by omega))
  have K7_19 := Lib.hid (K7_18.out.below hb (show W6.heap.size < W18.heap.size by omega))
  have K8_19 := Lib.hid (K8_18.out.below hb (show W9.heap.size < W18.heap.size by omega))
  have RW_19 := Lib.hid (RW_18.out.below hb (show W4.heap.size ≤ W18.heap.size by omega))
  have RM_19 := Lib.hid (RM_18.out.below hb (show W9.heap.size ≤ W18.heap.size by omega))
  have HB_19 := Lib.hid (HB_18.out.trans (hb.mono (show w.heap.size ≤ W18.heap.size by omega)))
  clear K2_18 K6_18 K7_18 K8_18 RW_18 RM_18 HB_18 hb
  obtain ⟨x20, x21, x22, x23, x24, x25, _, _, _, _, _, _, x2lt⟩ := K2_19.out
  obtain ⟨x60, x61, x62, x63, x64, x65, _, _, _, _, _, _, x6lt⟩ := K6_19.out
  obtain ⟨x70, x71, x72, x73, x74, x75, _, _, _, _, _, _, x7lt⟩ := K7_19.out
  obtain ⟨x80, x81, x82, x83, x84, x85, _, _, _, _, _, _, x8lt⟩ := K8_19.out
  go_wp2_with fail
  refine (toS_any r c A cap _ w.heap.size zs r2 c2 A2 cap2 _ w.heap.size ks W19 (HS.out.below HB_19.out (Nat.le_refl _)) (show w.heap.size ≤ W19.heap.size by omega) rfl (by omega) (HT.out.below HB_19.out (Nat.le_refl _)) (show w.heap.size ≤ W19.heap.size by omega) rfl (by omega)).mono ?_
  rintro e W20 ⟨sv20, tv20, rfl, hr, hb⟩
  obtain ⟨Ab, cb, Bb, db, rfl, rfl, hcp1, hcp2⟩ := hr.form
  have HCPb := Lib.hid (And.intro hcp1 hcp2)
  clear hcp1 hcp2
  clear x20 x21 x22 x23 x24 x25 x2lt x60 x61 x62 x63 x64 x65 x6lt x70 x71 x72 x73 x74 x75 x7lt x80 x81 x82 x83 x84 x85 x8lt
  have s20 := hb.size
  have K2_20 := Lib.hid (K2_19.out.below hb (show w.heap.size < W19.heap.size by omega))
  have K6_20 := Lib.hid (K6_19.out.below hb (show W4.heap.size < W19.heap.size by omega))
  have K7_20 := Lib.hid (K7_19.out.below hb (show W6.heap.size < W19.heap.size by omega))
  have K8_20 := Lib.hid (K8_19.out.below hb (show W9.heap.size < W19.heap.size by omega))
  have RW_20 := Lib.hid (RW_19.out.below hb (show W4.heap.size ≤ W19.heap.size by omega))
  have RM_20 := Lib.hid (RM_19.out.below hb (show W9.heap.size ≤ W19.heap.size by omega))
  have HB_20 := Lib.hid (HB_19.out.trans (hb.mono (show w.heap.size ≤ W19.heap.size by omega)))
  clear K2_19 K6_19 K7_19 K8_19 RW_19 RM_19 HB_19 hb
  have Rb_20 := Lib.hid hr
  clear hr
  obtain ⟨x20, x21, x22, x23, x24, x25, _, _, _, _, _, _, x2lt⟩ := K2_20.out
  obtain ⟨x60, x61, x62, x63, x64, x65, _, _, _, _, _, _, x6lt⟩ := K6_20.out
  obtain ⟨x70, x71, x72, x73, x74, x75, _, _, _, _, _, _, x7lt⟩ := K7_20.out
  obtain ⟨x80, x81, x82, x83, x84, x85, _, _, _, _, _, _, x8lt⟩ := K8_20.out
  go_wp2_with fail
  refine (toIntS_any Ao capo os W20 ((HO.out.below HB_20.out (Nat.le_refl _)).more (show w.heap.size ≤ W20.heap.size by omega)) (by omega)).mono ?_
  rintro e W21 ⟨sv21, rfl, hr, hb⟩
  obtain ⟨Au, cu, rfl, hcp1, hcp2, _⟩ := hr.form
  have HCPu := Lib.hid (And.intro hcp1 hcp2)
  clear hcp1 hcp2
  clear x20 x21 x22 x23 x24 x25 x2lt x60 x61 x62 x63 x64 x65 x6lt x70 x71 x72 x73 x74 x75 x7lt x80 x81 x82 x83 x84 x85 x8lt
  have s21 := hb.size
  have K2_21 := Lib.hid (K2_20.out.below hb (show w.heap.size < W20.heap.size by omega))
  have K6_21 := Lib.hid (K6_20.out.below hb (show W4.heap.size < W20.heap.size by omega))
  have K7_21 := Lib.hid (K7_20.out.below hb (show W6.heap.size < W20.heap.size by omega))
  have K8_21 := Lib.hid (K8_20.out.below hb (show W9.heap.size < W20.heap.size by omega))
  have RW_21 := Lib.hid (RW_20.out.below hb (show W4.heap.size ≤ W20.heap.size by omega))
  have RM_21 := Lib.hid (RM_20.out.below hb (show W9.heap.size ≤ W20.heap.size by omega))
  have Rb_21 := Lib.hid (Rb_20.out.below hb (show W20.heap.size ≤ W20.heap.size by omega))
  have HB_21 := Lib.hid (HB_20.out.trans (hb.mono (show w.heap.size ≤ W20.heap.size by omega)))
  clear K2_20 K6_20 K7_20 K8_20 RW_20 RM_20 Rb_20 HB_20 hb
  have Ru_21 := Lib.hid hr
  clear hr
  obtain ⟨x20, x21, x22, x23, x24, x25, _, _, _, _, _, _, x2lt⟩ := K2_21.out
  obtain ⟨x60, x61, x62, x63, x64, x65, _, _, _, _, _, _, x6lt⟩ := K6_21.out
  obtain ⟨x70, x71, x72, x73, x74, x75, _, _, _, _, _, _, x7lt⟩ := K7_21.out
  obtain ⟨x80, x81, x82, x83, x84, x85, _, _, _, _, _, _, x8lt⟩ := K8_21.out
  go_wp2_with fail
  refine (implOS_any r c Ab cb _ W21.heap.size zs r2 c2 Bb db _ W21.heap.size ks Au cu _ W21.heap.size os sd W21 (Rb_21.out.sl1.more (show W20.heap.size ≤ W21.heap.size by omega)) (Nat.le_refl _) rfl (by omega) (Rb_21.out.sl2.more (show W20.heap.size ≤ W21.heap.size by omega)) (Nat.le_refl _) rfl (by omega) (Ru_21.out.sl_now.more (show W21.heap.size ≤ W21.heap.size by omega)) (Nat.le_refl _) rfl (by omega) HCPb.out.1.1 HCPb.out.1.2 HCPb.out.2.1 HCPb.out.2.2).mono ?_
  rintro e W22 ⟨sv22, tv22, rfl, hr, hb⟩
  rw [HP.out.1, HP.out.2.1, HP.out.2.2.2.2]
  rw [HP.out.2.2.1, HP.out.2.2.2.1] at hr
  obtain ⟨AH, cH, BH, dH, rfl, rfl, hcp1, hcp2⟩ := hr.form
  have HCPH := Lib.hid (And.intro hcp1 hcp2)
  clear hcp1 hcp2
  clear x20 x21 x22 x23 x24 x25 x2lt x60 x61 x62 x63 x64 x65 x6lt x70 x71 x72 x73 x74 x75 x7lt x80 x81 x82 x83 x84 x85 x8lt
  have s22 := hb.size
  have K2_22 := Lib.hid (K2_21.out.below hb (show w.heap.size < W21.heap.size by omega))
  have K6_22 := Lib.hid (K6_21.out.below hb (show W4.heap.size < W21.heap.size by omega))
  have K7_22 := Lib.hid (K7_21.out.below hb (show W6.heap.size < W21.heap.size by omega))
  have K8_22 := Lib.hid (K8_21.out.below hb (show W9.heap.size < W21.heap.size by omega))
  have RW_22 := Lib.hid (RW_21.out.below hb (show W4.heap.size ≤ W21.heap.size by omega))
  have RM_22 := Lib.hid (RM_21.out.below hb (show W9.heap.size ≤ W21.heap.size by omega))
  have Rb_22 := Lib.hid (Rb_21.out.below hb (show W20.heap.size ≤ W21.heap.size by omega))
  have Ru_22 := Lib.hid (Ru_21.out.below hb (show W21.heap.size ≤ W21.heap.size by omega))
  have HB_22 := Lib.hid (HB_21.out.trans (hb.mono (show w.heap.size ≤ W21.heap.size by omega)))
  clear K2_21 K6_21 K7_21 K8_21 RW_21 RM_21 Rb_21 Ru_21 HB_21 hb
  have RH_22 := Lib.hid hr
  clear hr
  have kn := Cell6.new W22 (.int .i64 pr) (.int .i64 pc) (.slice AH ps.length cH) (.int .i64 pr) (.int .i64 pc) (.slice BH qs.length dH) 47
  obtain ⟨W23, hW23⟩ : ∃ W, W22.alloc (.cells #[.int .i64 pr, .int .i64 pc, .slice AH ps.length cH, .int .i64 pr, .int .i64 pc, .slice BH qs.length dH] 47) = W := ⟨_, rfl⟩
  rw [hW23] at kn
  have z23 : W23.heap.size = W22.heap.size + 1 := by rw [← hW23]; simp
  have hal : Below W22.heap.size W22 W23 := hW23 ▸ (Below.refl _ _).alloc (Nat.le_refl _) _
  have s23 := hal.size
  have K2_23 := Lib.hid (K2_22.out.below hal (show w.heap.size < W22.heap.size by omega))
  have K6_23 := Lib.hid (K6_22.out.below hal (show W4.heap.size < W22.heap.size by omega))
  have K7_23 := Lib.hid (K7_22.out.below hal (show W6.heap.size < W22.heap.size by omega))
  have K8_23 := Lib.hid (K8_22.out.below hal (show W9.heap.size < W22.heap.size by omega))
  have RW_23 := Lib.hid (RW_22.out.below hal (show W4.heap.size ≤ W22.heap.size by omega))
  have RM_23 := Lib.hid (RM_22.out.below hal (show W9.heap.size ≤ W22.heap.size by omega))
  have Rb_23 := Lib.hid (Rb_22.out.below hal (show W20.heap.size ≤ W22.heap.size by omega))
  have Ru_23 := Lib.hid (Ru_22.out.below hal (show W21.heap.size ≤ W22.heap.size by omega))
  have RH_23 := Lib.hid (RH_22.out.below hal (show W22.heap.size ≤ W22.heap.size by omega))
  have HB_23 := Lib.hid (HB_22.out.trans (hal.mono (show w.heap.size ≤ W22.heap.size by omega)))
  clear K2_22 K6_22 K7_22 K8_22 RW_22 RM_22 Rb_22 Ru_22 RH_22 HB_22 hal
  have K12_23 := Lib.hid kn
  clear kn
  obtain ⟨x20, x21, x22, x23, x24, x25, _, _, _, _, _, _, x2lt⟩ := K2_23.out
  obtain ⟨x60, x61, x62, x63, x64, x65, _, _, _, _, _, _, x6lt⟩ := K6_23.out
  obtain ⟨x70, x71, x72, x73, x74, x75, _, _, _, _, _, _, x7lt⟩ := K7_23.out
  obtain ⟨x80, x81, x82, x83, x84, x85, _, _, _, _, _, _, x8lt⟩ := K8_23.out
  obtain ⟨x120, x121, x122, x123, x124, x125, _, _, _, _, _, _, x12lt⟩ := K12_23.out
  go_wp2_with fail
  refine (eqS_same pr pc AH AW cH cW ps pr pc BH BW dH dW qs W23 (RH_23.out.sl1.more (show W22.heap.size ≤ W23.heap.size by omega)) (RW_23.out.sl1.more (show W4.heap.size ≤ W23.heap.size by omega)) (RH_23.out.sl2.more (show W22.heap.size ≤ W23.heap.size by omega)) (RW_23.out.sl2.more (show W4.heap.size ≤ W23.heap.size by omega)) (by omega) (by omega)).mono ?_
  rintro e W24 ⟨rfl, hb⟩
  clear x20 x21 x22 x23 x24 x25 x2lt x60 x61 x62 x63 x64 x65 x6lt x70 x71 x72 x73 x74 x75 x7lt x80 x81 x82 x83 x84 x85 x8lt x120 x121 x122 x123 x124 x125 x12lt
  have s24 := hb.size
  have K2_24 := Lib.hid (K2_23.out.below hb (show w.heap.size < W23.heap.size by omega))
  have K6_24 := Lib.hid (K6_23.out.below hb (show W4.heap.size < W23.heap.size by omega))
  have K7_24 := Lib.hid (K7_23.out.below hb (show W6.heap.size < W23.heap.size by omega))
  have K8_24 := Lib.hid (K8_23.out.below hb (show W9.heap.size < W23.heap.size by omega))
  have K12_24 := Lib.hid (K12_23.out.below hb (show W22.heap.size < W23.heap.size by omega))
  have RW_24 := Lib.hid (RW_23.out.below hb (show W4.heap.size ≤ W23.heap.size by omega))
  have RM_24 := Lib.hid (RM_23.out.below hb (show W9.heap.size ≤ W23.heap.size by omega))
  have RH_24 := Lib.hid (RH_23.out.below hb (show W22.heap.size ≤ W23.heap.size by omega))
  have HB_24 := Lib.hid (HB_23.out.trans (hb.mono (show w.heap.size ≤ W23.heap.size by omega)))
  clear K2_23 K6_23 K7_23 K8_23 K12_23 RW_23 RM_23 RH_23 HB_23 hb
  obtain ⟨x20, x21, x22, x23, x24, x25, _, _, _, _, _, _, x2lt⟩ := K2_24.out
  obtain ⟨x60, x61, x62, x63, x64, x65, _, _, _, _, _, _, x6lt⟩ := K6_24.out
  obtain ⟨x70, x71, x72, x73, x74, x75, _, _, _, _, _, _, x7lt⟩ := K7_24.out
  obtain ⟨x80, x81, x82, x83, x84, x85, _, _, _, _, _, _, x8lt⟩ := K8_24.out
  obtain ⟨x120, x121, x122, x123, x124, x125, _, _, _, _, _, _, x12lt⟩ := K12_24.out
  go_wp2_with fail
  refine (heldS_same (W9.heap.size) pr pc AG cG ps.length pr pc BG dG qs.length 1 W24 RM_24.out.sl1 RM_24.out.sl2 (show W9.heap.size ≤ W24.heap.size by omega) (by omega) (by omega) (by omega) (by omega)).mono ?_
  rintro e W25 ⟨rfl, hb⟩
  clear x20 x21 x22 x23 x24 x25 x2lt x60 x61 x62 x63 x64 x65 x6lt x70 x71 x72 x73 x74 x75 x7lt x80 x81 x82 x83 x84 x85 x8lt x120 x121 x122 x123 x124 x125 x12lt
  have s25 := hb.size
  have K2_25 := Lib.hid (K2_24.out.below hb (show w.heap.size < W24.heap.size by omega))
  have K6_25 := Lib.hid (K6_24.out.below hb (show W4.heap.size < W24.heap.size by omega))
  have K7_25 := Lib.hid (K7_24.out.below hb (show W6.heap.size < W24.heap.size by omega))
  have K8_25 := Lib.hid (K8_24.out.below hb (show W9.heap.size < W24.heap.size by omega))
  have K12_25 := Lib.hid (K12_24.out.below hb (show W22.heap.size < W24.heap.size by omega))
  have RW_25 := Lib.hid (RW_24.out.below hb (show W4.heap.size ≤ W24.heap.size by omega))
  have RM_25 := Lib.hid (RM_24.out.below hb (show W9.heap.size ≤ W24.heap.size by omega))
  have RH_25 := Lib.hid (RH_24.out.below hb (show W22.heap.size ≤ W24.heap.size by omega))
  have HB_25 := Lib.hid (HB_24.out.trans (hb.mono (show w.heap.size ≤ W24.heap.size by omega)))
  clear K2_24 K6_24 K7_24 K8_24 K12_24 RW_24 RM_24 RH_24 HB_24 hb
  obtain ⟨x20, x21, x22, x23, x24, x25, _, _, _, _, _, _, x2lt⟩ := K2_25.out
  obtain ⟨x60, x61, x62, x63, x64, x65, _, _, _, _, _, _, x6lt⟩ := K6_25.out
  obtain ⟨x70, x71, x72, x73, x74, x75, _, _, _, _, _, _, x7lt⟩ := K7_25.out
  obtain ⟨x80, x81, x82, x83, x84, x85, _, _, _, _, _, _, x8lt⟩ := K8_25.out
  obtain ⟨x120, x121, x122, x123, x124, x125, _, _, _, _, _, _, x12lt⟩ := K12_25.out
  go_wp2
  go_ret
  exact ⟨rfl, HB_25.out⟩
end Go.Proofs.Ytilmglockldddaa
