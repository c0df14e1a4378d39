/- The walk of the exact law FnExactSharedPool. (Printed by gen_LawS.py.) -/
import Derived.Test.YtakjmdjjpalaiaaFnsS3
import Derived.Test.YtakjmdjjpalaiaaCameS
import Derived.Test.YtakjmdjjpalaiaaDrw
import Derived.Deep.RegionHeld3
namespace Go.Proofs.Ytakjmdjjpalaiaa
open Go.RowKit
set_option maxRecDepth 20000 in
set_option maxHeartbeats 3200000 in
theorem law_FnExactSharedPool (w : World) (v0 : Value) (h0 : CameS w v0) (l : Int) (_ : (Lit.int .i64 l).wf = true) :
    Calls Try.prog 7 #[v0, .int .i64 l] w fun e w' => e = .returned (.bool true) ∧ Below w.heap.size w w' := by
  obtain ⟨r, c, A, n0, cap, zs, r2, c2, A2, n1, cap2, ks, rfl, hz, hk⟩ := h0
  obtain ⟨rfl, hnc, hcm, hs, _⟩ := hz
  obtain ⟨rfl, hnc2, hcm2, ht, _⟩ := hk
  unfold maxLen at hcm hcm2
  have HS := Lib.hid hs
  have HT := Lib.hid ht
  clear hs ht
  have K20 := Cell6.new w (.int .i64 r) (.int .i64 c) (.slice A zs.length cap) (.int .i64 r2) (.int .i64 c2) (.slice A2 ks.length cap2) 40
  obtain ⟨W0, hW⟩ : ∃ W, w.alloc (.cells #[.int .i64 r, .int .i64 c, .slice A zs.length cap, .int .i64 r2, .int .i64 c2, .slice A2 ks.length cap2] 40) = W := ⟨_, rfl⟩
  have hb0 : Below w.heap.size w W0 := hW ▸ (Below.refl _ _).alloc (Nat.le_refl _) _
  have hsW : W0.heap.size = w.heap.size + 1 := by rw [← hW]; simp
  rw [hW] at K20
  have K2_0 := Lib.hid K20
  clear K20
  have HB_0 := Lib.hid hb0
  clear hb0
  have hsz := szS_any r c A cap zs.length r2 c2 A2 cap2 ks.length 1048576 W0 (by omega) (by omega) (by omega) (by omega)
  by_cases hn : (1048576 : Int) < zs.length ∨ 1048576 - (zs.length : Int) < (ks.length : Int)
  · have hsz' : Calls Try.prog 30 #[smV r c (.slice A zs.length cap) r2 c2 (.slice A2 ks.length cap2), .int .i64 1048576] W0 fun e w' => e = .returned (.int .i64 (-1)) ∧ Below W0.heap.size W0 w' := by
      by_cases h : (1048576 : Int) < zs.length
      · rw [if_pos h] at hsz
        exact hsz
      · rw [if_neg h, if_pos (by omega)] at hsz
        exact hsz
    clear hsz hn
    obtain ⟨x20, x21, x22, x23, x24, x25, _, _, _, _, _, _, x2lt⟩ := K2_0.out
    go_enter Try.func7, Try.ntmps7
    go_wp2_with fail
    refine hsz'.mono ?_
    rintro e w1 ⟨rfl, hb1⟩
    clear hsz'
    go_wp2
    go_ret
    exact ⟨rfl, HB_0.out.trans (hb1.mono (by omega))⟩
  rw [if_neg (by omega), if_neg (by omega)] at hsz
  have hd : decide (1048576 - (zs.length : Int) - (ks.length : Int) < 0) = false := by simp; omega
  have hl1 : zs.length ≤ 1048576 ∧ ks.length ≤ 1048576 := by omega
  clear hn
  go_enter Try.func7, Try.ntmps7
  obtain ⟨x20, x21, x22, x23, x24, x25, _, _, _, _, _, _, x2lt⟩ := K2_0.out
  go_wp2_with fail
  refine hsz.mono ?_
  rintro e W1 ⟨rfl, hb⟩
  clear hsz
  clear x20 x21 x22 x23 x24 x25 x2lt
  have s1 := hb.size
  have K2_1 := Lib.hid (K2_0.out.below hb (show w.heap.size < W0.heap.size by omega))
  have HB_1 := Lib.hid (HB_0.out.trans (hb.mono (show w.heap.size ≤ W0.heap.size by omega)))
  clear K2_0 HB_0 hb
  have hpl := shpZ_len r c l zs r2 c2 ks hl1.1 hl1.2
  obtain ⟨pr, hpr⟩ : ∃ x, shpR r c l zs r2 c2 ks = x := ⟨_, rfl⟩
  obtain ⟨pc, hpc⟩ : ∃ x, shpC r c l zs r2 c2 ks = x := ⟨_, rfl⟩
  obtain ⟨ps, hps⟩ : ∃ x, shpZ r c l zs r2 c2 ks = x := ⟨_, rfl⟩
  obtain ⟨qs, hqs⟩ : ∃ x, shpK r c l zs r2 c2 ks = x := ⟨_, rfl⟩
  rw [hps, hqs] at hpl
  have HP := Lib.hid (And.intro hpr (And.intro hpc (And.intro hps hqs)))
  clear hpr hpc hps hqs
  obtain ⟨x20, x21, x22, x23, x24, x25, _, _, _, _, _, _, x2lt⟩ := K2_1.out
  go_wp2_with fail
  refine (toS_any r c A cap _ w.heap.size zs r2 c2 A2 cap2 _ w.heap.size ks W1 (HS.out.below HB_1.out (Nat.le_refl _)) (show w.heap.size ≤ W1.heap.size by omega) rfl (by omega) (HT.out.below HB_1.out (Nat.le_refl _)) (show w.heap.size ≤ W1.heap.size by omega) rfl (by omega)).mono ?_
  rintro e W2 ⟨sv2, tv2, rfl, hr, hb⟩
  obtain ⟨Aa, ca, Ba, da, rfl, rfl, hcp1, hcp2⟩ := hr.form
  have HCPa := Lib.hid (And.intro hcp1 hcp2)
  clear hcp1 hcp2
  clear x20 x21 x22 x23 x24 x25 x2lt
  have s2 := hb.size
  have K2_2 := Lib.hid (K2_1.out.below hb (show w.heap.size < W1.heap.size by omega))
  have HB_2 := Lib.hid (HB_1.out.trans (hb.mono (show w.heap.size ≤ W1.heap.size by omega)))
  clear K2_1 HB_1 hb
  have Ra_2 := Lib.hid hr
  clear hr
  obtain ⟨x20, x21, x22, x23, x24, x25, _, _, _, _, _, _, x2lt⟩ := K2_2.out
  go_wp2_with fail
  refine (specSP_any r c Aa ca _ W2.heap.size zs r2 c2 Ba da _ W2.heap.size ks l W2 (Ra_2.out.sl1.more (show W2.heap.size ≤ W2.heap.size by omega)) (Nat.le_refl _) rfl (by omega) (Ra_2.out.sl2.more (show W2.heap.size ≤ W2.heap.size by omega)) (Nat.le_refl _) rfl (by omega)).mono ?_
  rintro e W3 ⟨sv3, tv3, rfl, hr, hb⟩
  rw [HP.out.1, HP.out.2.1]
  rw [HP.out.2.2.1, HP.out.2.2.2] at hr
  obtain ⟨AW, cW, BW, dW, rfl, rfl, hcp1, hcp2⟩ := hr.form
  have HCPW := Lib.hid (And.intro hcp1 hcp2)
  clear hcp1 hcp2
  clear x20 x21 x22 x23 x24 x25 x2lt
  have s3 := hb.size
  have K2_3 := Lib.hid (K2_2.out.below hb (show w.heap.size < W2.heap.size by omega))
  have Ra_3 := Lib.hid (Ra_2.out.below hb (show W2.heap.size ≤ W2.heap.size by omega))
  have HB_3 := Lib.hid (HB_2.out.trans (hb.mono (show w.heap.size ≤ W2.heap.size by omega)))
  clear K2_2 Ra_2 HB_2 hb
  have RW_3 := Lib.hid hr
  clear hr
  have kn := Cell6.new W3 (.int .i64 pr) (.int .i64 pc) (.slice AW ps.length cW) (.int .i64 pr) (.int .i64 pc) (.slice BW qs.length dW) 43
  obtain ⟨W4, hW4⟩ : ∃ W, W3.alloc (.cells #[.int .i64 pr, .int .i64 pc, .slice AW ps.length cW, .int .i64 pr, .int .i64 pc, .slice BW qs.length dW] 43) = W := ⟨_, rfl⟩
  rw [hW4] at kn
  have z4 : W4.heap.size = W3.heap.size + 1 := by rw [← hW4]; simp
  have hal : Below W3.heap.size W3 W4 := hW4 ▸ (Below.refl _ _).alloc (Nat.le_refl _) _
  have s4 := hal.size
  have K2_4 := Lib.hid (K2_3.out.below hal (show w.heap.size < W3.heap.size by omega))
  have Ra_4 := Lib.hid (Ra_3.out.below hal (show W2.heap.size ≤ W3.heap.size by omega))
  have RW_4 := Lib.hid (RW_3.out.below hal (show W3.heap.size ≤ W3.heap.size by omega))
  have HB_4 := Lib.hid (HB_3.out.trans (hal.mono (show w.heap.size ≤ W3.heap.size by omega)))
  clear K2_3 Ra_3 RW_3 HB_3 hal
  have K6_4 := Lib.hid kn
  clear kn
  obtain ⟨x20, x21, x22, x23, x24, x25, _, _, _, _, _, _, x2lt⟩ := K2_4.out
  obtain ⟨x60, x61, x62, x63, x64, x65, _, _, _, _, _, _, x6lt⟩ := K6_4.out
  go_wp2_with fail
  refine (toS_any r c A cap _ w.heap.size zs r2 c2 A2 cap2 _ w.heap.size ks W4 (HS.out.below HB_4.out (Nat.le_refl _)) (show w.heap.size ≤ W4.heap.size by omega) rfl (by omega) (HT.out.below HB_4.out (Nat.le_refl _)) (show w.heap.size ≤ W4.heap.size by omega) rfl (by omega)).mono ?_
  rintro e W5 ⟨sv5, tv5, rfl, hr, hb⟩
  obtain ⟨AX, cX, BX, dX, rfl, rfl, hcp1, hcp2⟩ := hr.form
  have HCPX := Lib.hid (And.intro hcp1 hcp2)
  clear hcp1 hcp2
  clear x20 x21 x22 x23 x24 x25 x2lt x60 x61 x62 x63 x64 x65 x6lt
  have s5 := hb.size
  have K2_5 := Lib.hid (K2_4.out.below hb (show w.heap.size < W4.heap.size by omega))
  have K6_5 := Lib.hid (K6_4.out.below hb (show W3.heap.size < W4.heap.size by omega))
  have RW_5 := Lib.hid (RW_4.out.below hb (show W3.heap.size ≤ W4.heap.size by omega))
  have HB_5 := Lib.hid (HB_4.out.trans (hb.mono (show w.heap.size ≤ W4.heap.size by omega)))
  clear K2_4 K6_4 RW_4 HB_4 hb
  have RX_5 := Lib.hid hr
  clear hr
  have kn := Cell6.new W5 (.int .i64 r) (.int .i64 c) (.slice AX zs.length cX) (.int .i64 r2) (.int .i64 c2) (.slice BX ks.length dX) 43
  obtain ⟨W6, hW6⟩ : ∃ W, W5.alloc (.cells #[.int .i64 r, .int .i64 c, .slice AX zs.length cX, .int .i64 r2, .int .i64 c2, .slice BX ks.length dX] 43) = W := ⟨_, rfl⟩
  rw [hW6] at kn
  have z6 : W6.heap.size = W5.heap.size + 1 := by rw [← hW6]; simp
  have hal : Below W5.heap.size W5 W6 := hW6 ▸ (Below.refl _ _).alloc (Nat.le_refl _) _
  have s6 := hal.size
  have K2_6 := Lib.hid (K2_5.out.below hal (show w.heap.size < W5.heap.size by omega))
  have K6_6 := Lib.hid (K6_5.out.below hal (show W3.heap.size < W5.heap.size by omega))
  have RW_6 := Lib.hid (RW_5.out.below hal (show W3.heap.size ≤ W5.heap.size by omega))
  have RX_6 := Lib.hid (RX_5.out.below hal (show W5.heap.size ≤ W5.heap.size by omega))
  have HB_6 := Lib.hid (HB_5.out.trans (hal.mono (show w.heap.size ≤ W5.heap.size by omega)))
  clear K2_5 K6_5 RW_5 RX_5 HB_5 hal
  have K7_6 := Lib.hid kn
  clear kn
  obtain ⟨x20, x21, x22, x23, x24, x25, _, _, _, _, _, _, x2lt⟩ := K2_6.out
  obtain ⟨x60, x61, x62, x63, x64, x65, _, _, _, _, _, _, x6lt⟩ := K6_6.out
  obtain ⟨x70, x71, x72, x73, x74, x75, _, _, _, _, _, _, x7lt⟩ := K7_6.out
  go_wp2_with fail
  refine (implSP_any r c AX cX _ W6.heap.size zs r2 c2 BX dX _ W6.heap.size ks l W6 (RX_6.out.sl1.more (show W5.heap.size ≤ W6.heap.size by omega)) (Nat.le_refl _) rfl (by omega) (RX_6.out.sl2.more (show W5.heap.size ≤ W6.heap.size by omega)) (Nat.le_refl _) rfl (by omega)).mono ?_
  rintro e W7 ⟨sv7, tv7, rfl, hr, hb⟩
  rw [HP.out.1, HP.out.2.1]
  rw [HP.out.2.2.1, HP.out.2.2.2] at hr
  obtain ⟨AG, cG, BG, dG, rfl, rfl, hcp1, hcp2⟩ := hr.form
  have HCPG := Lib.hid (And.intro hcp1 hcp2)
  clear hcp1 hcp2
  clear x20 x21 x22 x23 x24 x25 x2lt x60 x61 x62 x63 x64 x65 x6lt x70 x71 x72 x73 x74 x75 x7lt
  have s7 := hb.size
  have K2_7 := Lib.hid (K2_6.out.below hb (show w.heap.size < W6.heap.size by omega))
  have K6_7 := Lib.hid (K6_6.out.below hb (show W3.heap.size < W6.heap.size by omega))
  have K7_7 := Lib.hid (K7_6.out.below hb (show W5.heap.size < W6.heap.size by omega))
  have RW_7 := Lib.hid (RW_6.out.below hb (show W3.heap.size ≤ W6.heap.size by omega))
  have RX_7 := Lib.hid (RX_6.out.below hb (show W5.heap.size ≤ W6.heap.size by omega))
  have HB_7 := Lib.hid (HB_6.out.trans (hb.mono (show w.heap.size ≤ W6.heap.size by omega)))
  clear K2_6 K6_6 K7_6 RW_6 RX_6 HB_6 hb
  have RG_7 := Lib.hid hr
  clear hr
  have kn := Cell6.new W7 (.int .i64 pr) (.int .i64 pc) (.slice AG ps.length cG) (.int .i64 pr) (.int .i64 pc) (.slice BG qs.length dG) 43
  obtain ⟨W8, hW8⟩ : ∃ W, W7.alloc (.cells #[.int .i64 pr, .int .i64 pc, .slice AG ps.length cG, .int .i64 pr, .int .i64 pc, .slice BG qs.length dG] 43) = W := ⟨_, rfl⟩
  rw [hW8] at kn
  have z8 : W8.heap.size = W7.heap.size + 1 := by rw [← hW8]; simp
  have hal : Below W7.heap.size W7 W8 := hW8 ▸ (Below.refl _ _).alloc (Nat.le_refl _) _
  have s8 := hal.size
  have K2_8 := Lib.hid (K2_7.out.below hal (show w.heap.size < W7.heap.size by omega))
  have K6_8 := Lib.hid (K6_7.out.below hal (show W3.heap.size < W7.heap.size by omega))
  have K7_8 := Lib.hid (K7_7.out.below hal (show W5.heap.size < W7.heap.size by omega))
  have RW_8 := Lib.hid (RW_7.out.below hal (show W3.heap.size ≤ W7.heap.size by omega))
  have RX_8 := Lib.hid (RX_7.out.below hal (show W5.heap.size ≤ W7.heap.size by omega))
  have RG_8 := Lib.hid (RG_7.out.below hal (show W7.heap.size ≤ W7.heap.size by omega))
  have HB_8 := Lib.hid (HB_7.out.trans (hal.mono (show w.heap.size ≤ W7.heap.size by omega)))
  clear K2_7 K6_7 K7_7 RW_7 RX_7 RG_7 HB_7 hal
  have K8_8 := Lib.hid kn
  clear kn
  obtain ⟨x20, x21, x22, x23, x24, x25, _, _, _, _, _, _, x2lt⟩ := K2_8.out
  obtain ⟨x60, x61, x62, x63, x64, x65, _, _, _, _, _, _, x6lt⟩ := K6_8.out
  obtain ⟨x70, x71, x72, x73, x74, x75, _, _, _, _, _, _, x7lt⟩ := K7_8.out
  obtain ⟨x80, x81, x82, x83, x84, x85, _, _, _, _, _, _, x8lt⟩ := K8_8.out
  go_wp2_with fail
  refine (eqS_same pr pc AG AW cG cW ps pr pc BG BW dG dW qs W8 (RG_8.out.sl1.more (show W7.heap.size ≤ W8.heap.size by omega)) (RW_8.out.sl1.more (show W3.heap.size ≤ W8.heap.size by omega)) (RG_8.out.sl2.more (show W7.heap.size ≤ W8.heap.size by omega)) (RW_8.out.sl2.more (show W3.heap.size ≤ W8.heap.size by omega)) (by omega) (by omega)).mono ?_
  rintro e W9 ⟨rfl, hb⟩
  clear x20 x21 x22 x23 x24 x25 x2lt x60 x61 x62 x63 x64 x65 x6lt x70 x71 x72 x73 x74 x75 x7lt x80 x81 x82 x83 x84 x85 x8lt
  have s9 := hb.size
  have K2_9 := Lib.hid (K2_8.out.below hb (show w.heap.size < W8.heap.size by omega))
  have K6_9 := Lib.hid (K6_8.out.below hb (show W3.heap.size < W8.heap.size by omega))
  have K7_9 := Lib.hid (K7_8.out.below hb (show W5.heap.size < W8.heap.size by omega))
  have K8_9 := Lib.hid (K8_8.out.below hb (show W7.heap.size < W8.heap.size by omega))
  have RW_9 := Lib.hid (RW_8.out.below hb (show W3.heap.size ≤ W8.heap.size by omega))
  have RX_9 := Lib.hid (RX_8.out.below hb (show W5.heap.size ≤ W8.heap.size by omega))
  have RG_9 := Lib.hid (RG_8.out.below hb (show W7.heap.size ≤ W8.heap.size by omega))
  have HB_9 := Lib.hid (HB_8.out.trans (hb.mono (show w.heap.size ≤ W8.heap.size by omega)))
  clear K2_8 K6_8 K7_8 K8_8 RW_8 RX_8 RG_8 HB_8 hb
  obtain ⟨x20, x21, x22, x23, x24, x25, _, _, _, _, _, _, x2lt⟩ := K2_9.out
  obtain ⟨x60, x61, x62, x63, x64, x65, _, _, _, _, _, _, x6lt⟩ := K6_9.out
  obtain ⟨x70, x71, x72, x73, x74, x75, _, _, _, _, _, _, x7lt⟩ := K7_9.out
  obtain ⟨x80, x81, x82, x83, x84, x85, _, _, _, _, _, _, x8lt⟩ := K8_9.out
  have HMK := Lib.hid fun w' (hx : Below W9.heap.size W9 w') => (show w'.cell? ⟨W5.heap.size, 0, none⟩ = some (.int .i64 r) ∧ w'.cell? ⟨W5.heap.size, 1, none⟩ = some (.int .i64 c) ∧ w'.cell? ⟨W5.heap.size, 2, none⟩ = some (.slice AX zs.length cX) ∧ w'.cell? ⟨W5.heap.size, 3, none⟩ = some (.int .i64 r2) ∧ w'.cell? ⟨W5.heap.size, 4, none⟩ = some (.int .i64 c2) ∧ w'.cell? ⟨W5.heap.size, 5, none⟩ = some (.slice BX ks.length dX) ∧ w'.cell? ⟨w.heap.size, 0, none⟩ = some (.int .i64 r) ∧ w'.cell? ⟨w.heap.size, 1, none⟩ = some (.int .i64 c) ∧ w'.cell? ⟨w.heap.size, 2, none⟩ = some (.slice A zs.length cap) ∧ w'.cell? ⟨w.heap.size, 3, none⟩ = some (.int .i64 r2) ∧ w'.cell? ⟨w.heap.size, 4, none⟩ = some (.int .i64 c2) ∧ w'.cell? ⟨w.heap.size, 5, none⟩ = some (.slice A2 ks.length cap2) from (by have h := K7_9.out.below hx (show W5.heap.size < W9.heap.size by omega); have h' := K2_9.out.below hx (show w.heap.size < W9.heap.size by omega); exact ⟨h.c0, h.c1, h.c2, h.c3, h.c4, h.c5, h'.c0, h'.c1, h'.c2, h'.c3, h'.c4, h'.c5⟩))
  have hcur : Below W9.heap.size W9 W9.drew := Below.of_drew _
  go_wp2
  go_region_held3 (fun w' => w'.cell? ⟨W5.heap.size, 0, none⟩ = some (.int .i64 r) ∧ w'.cell? ⟨W5.heap.size, 1, none⟩ = some (.int .i64 c) ∧ w'.cell? ⟨W5.heap.size, 2, none⟩ = some (.slice AX zs.length cX) ∧ w'.cell? ⟨W5.heap.size, 3, none⟩ = some (.int .i64 r2) ∧ w'.cell? ⟨W5.heap.size, 4, none⟩ = some (.int .i64 c2) ∧ w'.cell? ⟨W5.heap.size, 5, none⟩ = some (.slice BX ks.length dX) ∧ w'.cell? ⟨w.heap.size, 0, none⟩ = some (.int .i64 r) ∧ w'.cell? ⟨w.heap.size, 1, none⟩ = some (.int .i64 c) ∧ w'.cell? ⟨w.heap.size, 2, none⟩ = some (.slice A zs.length cap) ∧ w'.cell? ⟨w.heap.size, 3, none⟩ = some (.int .i64 r2) ∧ w'.cell? ⟨w.heap.size, 4, none⟩ = some (.int .i64 c2) ∧ w'.cell? ⟨w.heap.size, 5, none⟩ = some (.slice A2 ks.length cap2))
    (first | with_reducible exact HMK.out _ hcur | fail)
    (first
      | (go_simp; go_at_call 32; (refine (toS_any r c A cap _ w.heap.size zs r2 c2 A2 cap2 _ w.heap.size ks W9.drew (HS.out.below (HB_9.out.trans (Below.of_drew _)) (Nat.le_refl _)) (show w.heap.size ≤ W9.heap.size by omega) rfl (by omega) (HT.out.below (HB_9.out.trans (Below.of_drew _)) (Nat.le_refl _)) (show w.heap.size ≤ W9.heap.size by omega) rfl (by omega)).mono ?_); rintro e Wa ⟨sva, tva, rfl, hra, hba⟩; obtain ⟨Aq, cq, Bq, dq, rfl, rfl, _, _⟩ := hra.form; have hcur := hcur.trans (hba.mono (Nat.le_refl _)))
      | (go_simp; go_at_call 34; (refine (eqS_same r c AX Aq cX cq zs r2 c2 BX Bq dX dq ks Wa ((RX_9.out.sl1.below hcur (show W5.heap.size ≤ W9.heap.size by omega)).more (Nat.le_trans (show W5.heap.size ≤ W9.heap.size by omega) hcur.size)) hra.sl1 ((RX_9.out.sl2.below hcur (show W5.heap.size ≤ W9.heap.size by omega)).more (Nat.le_trans (show W5.heap.size ≤ W9.heap.size by omega) hcur.size)) hra.sl2 (by omega) (by omega)).mono ?_); rintro e Wb ⟨rfl, hbb⟩; have hcur := hcur.trans (hbb.mono hcur.size))
      | fail)
  clear hra hba hbb HMK
  obtain ⟨W10, hWb⟩ : ∃ W, W = Wb := ⟨_, rfl⟩
  subst hWb
  clear x20 x21 x22 x23 x24 x25 x2lt x60 x61 x62 x63 x64 x65 x6lt x70 x71 x72 x73 x74 x75 x7lt x80 x81 x82 x83 x84 x85 x8lt
  have s10 := hcur.size
  have K2_10 := Lib.hid (K2_9.out.below hcur (show w.heap.size < W9.heap.size by omega))
  have K6_10 := Lib.hid (K6_9.out.below hcur (show W3.heap.size < W9.heap.size by omega))
  have K7_10 := Lib.hid (K7_9.out.below hcur (show W5.heap.size < W9.heap.size by omega))
  have K8_10 := Lib.hid (K8_9.out.below hcur (show W7.heap.size < W9.heap.size by omega))
  have RW_10 := Lib.hid (RW_9.out.below hcur (show W3.heap.size ≤ W9.heap.size by omega))
  have RX_10 := Lib.hid (RX_9.out.below hcur (show W5.heap.size ≤ W9.heap.size by omega))
  have RG_10 := Lib.hid (RG_9.out.below hcur (show W7.heap.size ≤ W9.heap.size by omega))
  have HB_10 := Lib.hid (HB_9.out.trans (hcur.mono (show w.heap.size ≤ W9.heap.size by omega)))
  clear K2_9 K6_9 K7_9 K8_9 RW_9 RX_9 RG_9 HB_9 hcur
  obtain ⟨x20, x21, x22, x23, x24, x25, _, _, _, _, _, _, x2lt⟩ := K2_10.out
  obtain ⟨x60, x61, x62, x63, x64, x65, _, _, _, _, _, _, x6lt⟩ := K6_10.out
  obtain ⟨x70, x71, x72, x73, x74, x75, _, _, _, _, _, _, x7lt⟩ := K7_10.out
  obtain ⟨x80, x81, x82, x83, x84, x85, _, _, _, _, _, _, x8lt⟩ := K8_10.out
  go_wp2_with fail
  refine (markS_any (W4.heap.size) (W5.heap.size) r c AX cX zs r2 c2 BX dX ks (1) W10 RX_10.out (show W5.heap.size ≤ W10.heap.size by omega) (by omega) (by omega) (by omega) (by omega)).mono ?_
  rintro e W11 ⟨rfl, hrm, hsp⟩
  clear x20 x21 x22 x23 x24 x25 x2lt x60 x61 x62 x63 x64 x65 x6lt x70 x71 x72 x73 x74 x75 x7lt x80 x81 x82 x83 x84 x85 x8lt
  have s11 := hsp.size
  have K2_11 := Lib.hid (K2_10.out.span hsp (show w.heap.size < W4.heap.size ∨ W5.heap.size ≤ w.heap.size by omega))
  have K6_11 := Lib.hid (K6_10.out.span hsp (show W3.heap.size < W4.heap.size ∨ W5.heap.size ≤ W3.heap.size by omega))
  have K7_11 := Lib.hid (K7_10.out.span hsp (show W5.heap.size < W4.heap.size ∨ W5.heap.size ≤ W5.heap.size by omega))
  have K8_11 := Lib.hid (K8_10.out.span hsp (show W7.heap.size < W4.heap.size ∨ W5.heap.size ≤ W7.heap.size by omega))
  have RW_11 := Lib.hid (RW_10.out.span hsp (show W3.heap.size ≤ W4.heap.size ∨ W5.heap.size ≤ W2.heap.size by omega))
  have RG_11 := Lib.hid (RG_10.out.span hsp (show W7.heap.size ≤ W4.heap.size ∨ W5.heap.size ≤ W6.heap.size by omega))
  have HB_11 := Lib.hid (Span.below HB_10.out hsp (show w.heap.size ≤ W4.heap.size by omega) (show w.heap.size ≤ W10.heap.size by omega))
  clear K2_10 K6_10 K7_10 K8_10 RW_10 RX_10 RG_10 HB_10 hsp
  clear hrm
  have hdk : decide (1 + (zs.length : Int) + (ks.length : Int) < 0) = false := by simp; omega
  obtain ⟨x20, x21, x22, x23, x24, x25, _, _, _, _, _, _, x2lt⟩ := K2_11.out
  obtain ⟨x60, x61, x62, x63, x64, x65, _, _, _, _, _, _, x6lt⟩ := K6_11.out
  obtain ⟨x70, x71, x72, x73, x74, x75, _, _, _, _, _, _, x7lt⟩ := K7_11.out
  obtain ⟨x80, x81, x82, x83, x84, x85, _, _, _, _, _, _, x8lt⟩ := K8_11.out
  go_wp2_with fail
  refine (eqS_same pr pc AG AW cG cW ps pr pc BG BW dG dW qs W11 (RG_11.out.sl1.more (show W7.heap.size ≤ W11.heap.size by omega)) (RW_11.out.sl1.more (show W3.heap.size ≤ W11.heap.size by omega)) (RG_11.out.sl2.more (show W7.heap.size ≤ W11.heap.size by omega)) (RW_11.out.sl2.more (show W3.heap.size ≤ W11.heap.size by omega)) (by omega) (by omega)).mono ?_
  rintro e W12 ⟨rfl, hb⟩
  clear x20 x21 x22 x23 x24 x25 x2lt x60 x61 x62 x63 x64 x65 x6lt x70 x71 x72 x73 x74 x75 x7lt x80 x81 x82 x83 x84 x85 x8lt
  have s12 := hb.size
  have K2_12 := Lib.hid (K2_11.out.below hb (show w.heap.size < W11.heap.size by omega))
  have K6_12 := Lib.hid (K6_11.out.below hb (show W3.heap.size < W11.heap.size by omega))
  have K7_12 := Lib.hid (K7_11.out.below hb (show W5.heap.size < W11.heap.size by omega))
  have K8_12 := Lib.hid (K8_11.out.below hb (show W7.heap.size < W11.heap.size by omega))
  have RW_12 := Lib.hid (RW_11.out.below hb (show W3.heap.size ≤ W11.heap.size by omega))
  have RG_12 := Lib.hid (RG_11.out.below hb (show W7.heap.size ≤ W11.heap.size by omega))
  have HB_12 := Lib.hid (HB_11.out.trans (hb.mono (show w.heap.size ≤ W11.heap.size by omega)))
  clear K2_11 K6_11 K7_11 K8_11 RW_11 RG_11 HB_11 hb
  obtain ⟨x20, x21, x22, x23, x24, x25, _, _, _, _, _, _, x2lt⟩ := K2_12.out
  obtain ⟨x60, x61, x62, x63, x64, x65, _, _, _, _, _, _, x6lt⟩ := K6_12.out
  obtain ⟨x70, x71, x72, x73, x74, x75, _, _, _, _, _, _, x7lt⟩ := K7_12.out
  obtain ⟨x80, x81, x82, x83, x84, x85, _, _, _, _, _, _, x8lt⟩ := K8_12.out
  go_wp2_with fail
  refine (markS_any (W6.heap.size) (W7.heap.size) pr pc AG cG ps pr pc BG dG qs (1) W12 RG_12.out (show W7.heap.size ≤ W12.heap.size by omega) (by omega) (by omega) (by omega) (by omega)).mono ?_
  rintro e W13 ⟨rfl, hrm, hsp⟩
  clear x20 x21 x22 x23 x24 x25 x2lt x60 x61 x62 x63 x64 x65 x6lt x70 x71 x72 x73 x74 x75 x7lt x80 x81 x82 x83 x84 x85 x8lt
  have s13 := hsp.size
  have K2_13 := Lib.hid (K2_12.out.span hsp (show w.heap.size < W6.heap.size ∨ W7.heap.size ≤ w.heap.size by omega))
  have K6_13 := Lib.hid (K6_12.out.span hsp (show W3.heap.size < W6.heap.size ∨ W7.heap.size ≤ W3.heap.size by omega))
  have K7_13 := Lib.hid (K7_12.out.span hsp (show W5.heap.size < W6.heap.size ∨ W7.heap.size ≤ W5.heap.size by omega))
  have K8_13 := Lib.hid (K8_12.out.span hsp (show W7.heap.size < W6.heap.size ∨ W7.heap.size ≤ W7.heap.size by omega))
  have RW_13 := Lib.hid (RW_12.out.span hsp (show W3.heap.size ≤ W6.heap.size ∨ W7.heap.size ≤ W2.heap.size by omega))
  have HB_13 := Lib.hid (Span.below HB_12.out hsp (show w.heap.size ≤ W6.heap.size by omega) (show w.heap.size ≤ W12.heap.size by omega))
  clear K2_12 K6_12 K7_12 K8_12 RW_12 RG_12 HB_12 hsp
  have RM_13 := Lib.hid (show RowS W13 (W6.heap.size) (W7.heap.size) (.slice AG (marks 1 ps.length).length cG) (.slice BG (marks (1 + (ps.length : Int)) qs.length).length dG) (marks 1 ps.length) (marks (1 + (ps.length : Int)) qs.length) by rw [marks_length, marks_length]; exact hrm)
  clear hrm
  have hdm : decide (1 + (ps.length : Int) + (qs.length : Int) < 0) = false := by simp; omega
  obtain ⟨x20, x21, x22, x23, x24, x25, _, _, _, _, _, _, x2lt⟩ := K2_13.out
  obtain ⟨x60, x61, x62, x63, x64, x65, _, _, _, _, _, _, x6lt⟩ := K6_13.out
  obtain ⟨x70, x71, x72, x73, x74, x75, _, _, _, _, _, _, x7lt⟩ := K7_13.out
  obtain ⟨x80, x81, x82, x83, x84, x85, _, _, _, _, _, _, x8lt⟩ := K8_13.out
  go_wp2_with fail
  refine (heldS_same (W7.heap.size) pr pc AG cG ps.length pr pc BG dG qs.length 1 W13 RM_13.out.sl1 RM_13.out.sl2 (show W7.heap.size ≤ W13.heap.size by omega) (by omega) (by omega) (by omega) (by omega)).mono ?_
  rintro e W14 ⟨rfl, hb⟩
  clear x20 x21 x22 x23 x24 x25 x2lt x60 x61 x62 x63 x64 x65 x6lt x70 x71 x72 x73 x74 x75 x7lt x80 x81 x82 x83 x84 x85 x8lt
  have s14 := hb.size
  have K2_14 := Lib.hid (K2_13.out.below hb (show w.heap.size < W13.heap.size by omega))
  have K6_14 := Lib.hid (K6_13.out.below hb (show W3.heap.size < W13.heap.size by omega))
  have K7_14 := Lib.hid (K7_13.out.below hb (show W5.heap.size < W13.heap.size by omega))
  have K8_14 := Lib.hid (K8_13.out.below hb (show W7.heap.size < W13.heap.size by omega))
  have RW_14 := Lib.hid (RW_13.out.below hb (show W3.heap.size ≤ W13.heap.size by omega))
  have RM_14 := Lib.hid (RM_13.out.below hb (show W7.heap.size ≤ W13.heap.size by omega))
  have HB_14 := Lib.hid (HB_13.out.trans (hb.mono (show w.heap.size ≤ W13.heap.size by omega)))
  clear K2_13 K6_13 K7_13 K8_13 RW_13 RM_13 HB_13 hb
  obtain ⟨x20, x21, x22, x23, x24, x25, _, _, _, _, _, _, x2lt⟩ := K2_14.out
  obtain ⟨x60, x61, x62, x63, x64, x65, _, _, _, _, _, _, x6lt⟩ := K6_14.out
  obtain ⟨x70, x71, x72, x73, x74, x75, _, _, _, _, _, _, x7lt⟩ := K7_14.out
  obtain ⟨x80, x81, x82, x83, x84, x85, _, _, _, _, _, _, x8lt⟩ := K8_14.out
  go_wp2_with fail
  refine (toS_any r c A cap _ w.heap.size zs r2 c2 A2 cap2 _ w.heap.size ks W14 (HS.out.below HB_14.out (Nat.le_refl _)) (show w.heap.size ≤ W14.heap.size by omega) rfl (by omega) (HT.out.below HB_14.out (Nat.le_refl _)) (show w.heap.size ≤ W14.heap.size by omega) rfl (by omega)).mono ?_
  rintro e W15 ⟨sv15, tv15, rfl, hr, hb⟩
  obtain ⟨Ab, cb, Bb, db, rfl, rfl, hcp1, hcp2⟩ := hr.form
  have HCPb := Lib.hid (And.intro hcp1 hcp2)
  clear hcp1 hcp2
  clear x20 x21 x22 x23 x24 x25 x2lt x60 x61 x62 x63 x64 x65 x6lt x70 x71 x72 x73 x74 x75 x7lt x80 x81 x82 x83 x84 x85 x8lt
  have s15 := hb.size
  have K2_15 := Lib.hid (K2_14.out.below hb (show w.heap.size < W14.heap.size by omega))
  have K6_15 := Lib.hid (K6_14.out.below hb (show W3.heap.size < W14.heap.size by omega))
  have K7_15 := Lib.hid (K7_14.out.below hb (show W5.heap.size < W14.heap.size by omega))
  have K8_15 := Lib.hid (K8_14.out.below hb (show W7.heap.size < W14.heap.size by omega))
  have RW_15 := Lib.hid (RW_14.out.below hb (show W3.heap.size ≤ W14.heap.size by omega))
  have RM_15 := Lib.hid (RM_14.out.below hb (show W7.heap.size ≤ W14.heap.size by omega))
  have HB_15 := Lib.hid (HB_14.out.trans (hb.mono (show w.heap.size ≤ W14.heap.size by omega)))
  clear K2_14 K6_14 K7_14 K8_14 RW_14 RM_14 HB_14 hb
  have Rb_15 := Lib.hid hr
  clear hr
  obtain ⟨x20, x21, x22, x23, x24, x25, _, _, _, _, _, _, x2lt⟩ := K2_15.out
  obtain ⟨x60, x61, x62, x63, x64, x65, _, _, _, _, _, _, x6lt⟩ := K6_15.out
  obtain ⟨x70, x71, x72, x73, x74, x75, _, _, _, _, _, _, x7lt⟩ := K7_15.out
  obtain ⟨x80, x81, x82, x83, x84, x85, _, _, _, _, _, _, x8lt⟩ := K8_15.out
  go_wp2_with fail
  refine (implSP_any r c Ab cb _ W15.heap.size zs r2 c2 Bb db _ W15.heap.size ks l W15 (Rb_15.out.sl1.more (show W15.heap.size ≤ W15.heap.size by omega)) (Nat.le_refl _) rfl (by omega) (Rb_15.out.sl2.more (show W15.heap.size ≤ W15.heap.size by omega)) (Nat.le_refl _) rfl (by omega)).mono ?_
  rintro e W16 ⟨sv16, tv16, rfl, hr, hb⟩
  rw [HP.out.1, HP.out.2.1]
  rw [HP.out.2.2.1, HP.out.2.2.2] at hr
  obtain ⟨AH, cH, BH, dH, rfl, rfl, hcp1, hcp2⟩ := hr.form
  have HCPH := Lib.hid (And.intro hcp1 hcp2)
  clear hcp1 hcp2
  clear x20 x21 x22 x23 x24 x25 x2lt x60 x61 x62 x63 x64 x65 x6lt x70 x71 x72 x73 x74 x75 x7lt x80 x81 x82 x83 x84 x85 x8lt
  have s16 := hb.size
  have K2_16 := Lib.hid (K2_15.out.below hb (show w.heap.size < W15.heap.size by omega))
  have K6_16 := Lib.hid (K6_15.out.below hb (show W3.heap.size < W15.heap.size by omega))
  have K7_16 := Lib.hid (K7_15.out.below hb (show W5.heap.size < W15.heap.size by omega))
  have K8_16 := Lib.hid (K8_15.out.below hb (show W7.heap.size < W15.heap.size by omega))
  have RW_16 := Lib.hid (RW_15.out.below hb (show W3.heap.size ≤ W15.heap.size by omega))
  have RM_16 := Lib.hid (RM_15.out.below hb (show W7.heap.size ≤ W15.heap.size by omega))
  have Rb_16 := Lib.hid (Rb_15.out.below hb (show W15.heap.size ≤ W15.heap.size by omega))
  have HB_16 := Lib.hid (HB_15.out.trans (hb.mono (show w.heap.size ≤ W15.heap.size by omega)))
  clear K2_15 K6_15 K7_15 K8_15 RW_15 RM_15 Rb_15 HB_15 hb
  have RH_16 := Lib.hid hr
  clear hr
  have kn := Cell6.new W16 (.int .i64 pr) (.int .i64 pc) (.slice AH ps.length cH) (.int .i64 pr) (.int .i64 pc) (.slice BH qs.length dH) 43
  obtain ⟨W17, hW17⟩ : ∃ W, W16.alloc (.cells #[.int .i64 pr, .int .i64 pc, .slice AH ps.length cH, .int .i64 pr, .int .i64 pc, .slice BH qs.length dH] 43) = W := ⟨_, rfl⟩
  rw [hW17] at kn
  have z17 : W17.heap.size = W16.heap.size + 1 := by rw [← hW17]; simp
  have hal : Below W16.heap.size W16 W17 := hW17 ▸ (Below.refl _ _).alloc (Nat.le_refl _) _
  have s17 := hal.size
  have K2_17 := Lib.hid (K2_16.out.below hal (show w.heap.size < W16.heap.size by omega))
  have K6_17 := Lib.hid (K6_16.out.below hal (show W3.heap.size < W16.heap.size by omega))
  have K7_17 := Lib.hid (K7_16.out.below hal (show W5.heap.size < W16.heap.size by omega))
  have K8_17 := Lib.hid (K8_16.out.below hal (show W7.heap.size < W16.heap.size by omega))
  have RW_17 := Lib.hid (RW_16.out.below hal (show W3.heap.size ≤ W16.heap.size by omega))
  have RM_17 := Lib.hid (RM_16.out.below hal (show W7.heap.size ≤ W16.heap.size by omega))
  have Rb_17 := Lib.hid (Rb_16.out.below hal (show W15.heap.size ≤ W16.heap.size by omega))
  have RH_17 := Lib.hid (RH_16.out.below hal (show W16.heap.size ≤ W16.heap.size by omega))
  have HB_17 := Lib.hid (HB_16.out.trans (hal.mono (show w.heap.size ≤ W16.heap.size by omega)))
  clear K2_16 K6_16 K7_16 K8_16 RW_16 RM_16 Rb_16 RH_16 HB_16 hal
  have K12_17 := Lib.hid kn
  clear kn
  obtain ⟨x20, x21, x22, x23, x24, x25, _, _, _, _, _, _, x2lt⟩ := K2_17.out
  obtain ⟨x60, x61, x62, x63, x64, x65, _, _, _, _, _, _, x6lt⟩ := K6_17.out
  obtain ⟨x70, x71, x72, x73, x74, x75, _, _, _, _, _, _, x7lt⟩ := K7_17.out
  obtain ⟨x80, x81, x82, x83, x84, x85, _, _, _, _, _, _, x8lt⟩ := K8_17.out
  obtain ⟨x120, x121, x122, x123, x124, x125, _, _, _, _, _, _, x12lt⟩ := K12_17.out
  go_wp2_with fail
  refine (eqS_same pr pc AH AW cH cW ps pr pc BH BW dH dW qs W17 (RH_17.out.sl1.more (show W16.heap.size ≤ W17.heap.size by omega)) (RW_17.out.sl1.more (show W3.heap.size ≤ W17.heap.size by omega)) (RH_17.out.sl2.more (show W16.heap.size ≤ W17.heap.size by omega)) (RW_17.out.sl2.more (show W3.heap.size ≤ W17.heap.size by omega)) (by omega) (by omega)).mono ?_
  rintro e W18 ⟨rfl, hb⟩
  clear x20 x21 x22 x23 x24 x25 x2lt x60 x61 x62 x63 x64 x65 x6lt x70 x71 x72 x73 x74 x75 x7lt x80 x81 x82 x83 x84 x85 x8lt x120 x121 x122 x123 x124 x125 x12lt
  have s18 := hb.size
  have K2_18 := Lib.hid (K2_17.out.below hb (show w.heap.size < W17.heap.size by omega))
  have K6_18 := Lib.hid (K6_17.out.below hb (show W3.heap.size < W17.heap.size by omega))
  have K7_18 := Lib.hid (K7_17.out.below hb (show W5.heap.size < W17.heap.size by omega))
  have K8_18 := Lib.hid (K8_17.out.below hb (show W7.heap.size < W17.heap.size by omega))
  have K12_18 := Lib.hid (K12_17.out.below hb (show W16.heap.size < W17.heap.size by omega))
  have RW_18 := Lib.hid (RW_17.out.below hb (show W3.heap.size ≤ W17.heap.size by omega))
  have RM_18 := Lib.hid (RM_17.out.below hb (show W7.heap.size ≤ W17.heap.size by omega))
  have RH_18 := Lib.hid (RH_17.out.below hb (show W16.heap.size ≤ W17.heap.size by omega))
  have HB_18 := Lib.hid (HB_17.out.trans (hb.mono (show w.heap.size ≤ W17.heap.size by omega)))
  clear K2_17 K6_17 K7_17 K8_17 K12_17 RW_17 RM_17 RH_17 HB_17 hb
  obtain ⟨x20, x21, x22, x23, x24, x25, _, _, _, _, _, _, x2lt⟩ := K2_18.out
  obtain ⟨x60, x61, x62, x63, x64, x65, _, _, _, _, _, _, x6lt⟩ := K6_18.out
  obtain ⟨x70, x71, x72, x73, x74, x75, _, _, _, _, _, _, x7lt⟩ := K7_18.out
  obtain ⟨x80, x81, x82, x83, x84, x85, _, _, _, _, _, _, x8lt⟩ := K8_18.out
  obtain ⟨x120, x121, x122, x123, x124, x125, _, _, _, _, _, _, x12lt⟩ := K12_18.out
  go_wp2_with fail
  refine (heldS_same (W7.heap.size) pr pc AG cG ps.length pr pc BG dG qs.length 1 W18 RM_18.out.sl1 RM_18.out.sl2 (show W7.heap.size ≤ W18.heap.size by omega) (by omega) (by omega) (by omega) (by omega)).mono ?_
  rintro e W19 ⟨rfl, hb⟩
  clear x20 x21 x22 x23 x24 x25 x2lt x60 x61 x62 x63 x64 x65 x6lt x70 x71 x72 x73 x74 x75 x7lt x80 x81 x82 x83 x84 x85 x8lt x120 x121 x122 x123 x124 x125 x12lt
  have s19 := hb.size
  have K2_19 := Lib.hid (K2_18.out.below hb (show w.heap.size < W18.heap.size by omega))
  have K6_19 := Lib.hid (K6_18.out.below hb (show W3.heap.size < W18.heap.size by omega))
  have K7_19 := Lib.hid (K7_18.out.below hb (show W5.heap.size < W18.heap.size by omega))
  have K8_19 := Lib.hid (K8_18.out.below hb (show W7.heap.size < W18.heap.size by omega))
  have K12_19 := Lib.hid (K12_18.out.below hb (show W16.heap.size < W18.heap.size by omega))
  have RW_19 := Lib.hid (RW_18.out.below hb (show W3.heap.size ≤ W18.heap.size by omega))
  have RM_19 := Lib.hid (RM_18.out.below hb (show W7.heap.size ≤ W18.heap.size by omega))
  have RH_19 := Lib.hid (RH_18.out.below hb (show W16.heap.size ≤ W18.heap.size by omega))
  have HB_19 := Lib.hid (HB_18.out.trans (hb.mono (show w.heap.size ≤ W18.heap.size by omega)))
  clear K2_18 K6_18 K7_18 K8_18 K12_18 RW_18 RM_18 RH_18 HB_18 hb
  obtain ⟨x20, x21, x22, x23, x24, x25, _, _, _, _, _, _, x2lt⟩ := K2_19.out
  obtain ⟨x60, x61, x62, x63, x64, x65, _, _, _, _, _, _, x6lt⟩ := K6_19.out
  obtain ⟨x70, x71, x72, x73, x74, x75, _, _, _, _, _, _, x7lt⟩ := K7_19.out
  obtain ⟨x80, x81, x82, x83, x84, x85, _, _, _, _, _, _, x8lt⟩ := K8_19.out
  obtain ⟨x120, x121, x122, x123, x124, x125, _, _, _, _, _, _, x12lt⟩ := K12_19.out
  go_wp2
  go_ret
  exact ⟨rfl, HB_19.out⟩
end Go.Proofs.Ytakjmdjjpalaiaa
