/- The walk of the exact law FnExactCellsMatrix. (Printed by gen_LawH.py.) -/
import Derived.Test.YtdebnbgjnmoleaaFnsH5
import Derived.Test.YtdebnbgjnmoleaaListsC2
import Derived.Test.YtdebnbgjnmoleaaCameC
import Derived.Test.YtdebnbgjnmoleaaCameM
import Derived.Test.YtdebnbgjnmoleaaDrw
namespace Go.Proofs.Ytdebnbgjnmoleaa
open Go.RowKit
theorem Cell3.span {lo hi b : Nat} {w w' : World} {x y z : Value} (h : Cell3 w b x y z) (k : Span lo hi w w') (hd : b < lo ∨ hi ≤ b) : Cell3 w' b x y z := by
  have hb := k.block b h.lt hd
  exact ⟨(World.cell?_of_block (a := ⟨b, 0, none⟩) hb).trans h.c0, (World.cell?_of_block (a := ⟨b, 1, none⟩) hb).trans h.c1, (World.cell?_of_block (a := ⟨b, 2, none⟩) hb).trans h.c2, (World.frozen?_of_block (a := ⟨b, 0, none⟩) hb).trans h.f0, (World.frozen?_of_block (a := ⟨b, 1, none⟩) hb).trans h.f1, (World.frozen?_of_block (a := ⟨b, 2, none⟩) hb).trans h.f2, Nat.lt_of_lt_of_le h.lt k.size⟩
set_option maxRecDepth 20000 in
set_option maxHeartbeats 3200000 in
theorem walk_FnExactCellsMatrix (w W0 : World) (r c : Int) (Ac : Option Addr) (nc capc : Nat) (h0 : CameC w Ac nc capc) (hb0 : Below w.heap.size w W0) :
    Calls Try.prog 5 #[.int .i64 r, .int .i64 c, .slice Ac nc capc] W0 fun e w' => e = .returned (.bool true) ∧ Below w.heap.size w w' := by
  obtain ⟨ts, rfl, hnc0, hcm0, hs0⟩ := h0
  unfold maxLen at hcm0
  have HS0 := Lib.hid hs0
  clear hs0
  have s0 := hb0.size
  have HB_0 := Lib.hid hb0
  clear hb0
  go_enter Try.func5, Try.ntmps5
  have hsz := szC_any Ac ts.length capc (1048576) W0 (by omega) (by omega) (by omega)
  by_cases hn0 : (1048576 : Int) < ts.length
  · rw [if_pos hn0] at hsz
    go_wp2_with fail
    refine hsz.mono ?_
    rintro e w1 ⟨rfl, rfl⟩
    clear hsz
    go_wp2
    go_ret
    exact ⟨rfl, HB_0.out⟩
  rw [if_neg hn0] at hsz
  have hd0 : decide (1048576 - (ts.length : Int) < 0) = false := by simp; omega
  go_wp2_with fail
  refine hsz.mono ?_
  rintro e w1 ⟨rfl, rfl⟩
  clear hsz
  have hpl := cmZ_len r c ts
  obtain ⟨pr, hpr⟩ : ∃ x, cmR r c ts = x := ⟨_, rfl⟩
  obtain ⟨pc, hpc⟩ : ∃ x, cmC r c ts = x := ⟨_, rfl⟩
  obtain ⟨ps, hps⟩ : ∃ x, cmZ r c ts = x := ⟨_, rfl⟩
  obtain ⟨bb, hbb⟩ : ∃ x, cmB r c ts = x := ⟨_, rfl⟩
  rw [hps] at hpl
  have HP := Lib.hid (And.intro hpr (And.intro hpc (And.intro hps hbb)))
  clear hpr hpc hps hbb
  go_wp2_with fail
  refine (toCellS_any Ac capc ts W0 ((HS0.out.below HB_0.out (Nat.le_refl _)).more (show w.heap.size ≤ W0.heap.size by omega)) (by omega)).mono ?_
  rintro e W1 ⟨sv1, rfl, hr, hb⟩
  obtain ⟨Aa, ca, rfl, hcp1, hcp2, _⟩ := hr.form
  have HCPa := Lib.hid (And.intro hcp1 hcp2)
  clear hcp1 hcp2
  have s1 := hb.size
  have HB_1 := Lib.hid (HB_0.out.trans (hb.mono (show w.heap.size ≤ W0.heap.size by omega)))
  clear HB_0 hb
  have Ra_1 := Lib.hid hr
  clear hr
  go_wp2_with fail
  refine (specCM_any r c Aa ca W1.heap.size ts W1 (Ra_1.out.sl.2.more (show W1.heap.size ≤ W1.heap.size by omega)) (Nat.le_refl _) (by omega)).mono ?_
  rintro e W2 ⟨sv2, rfl, hr, hb⟩
  rw [HP.out.1, HP.out.2.1, HP.out.2.2.2]
  rw [HP.out.2.2.1] at hr
  obtain ⟨AW, cW, rfl, hcp1, hcp2, _⟩ := hr.form
  have HCPW := Lib.hid (And.intro hcp1 hcp2)
  clear hcp1 hcp2
  have s2 := hb.size
  have Ra_2 := Lib.hid (Ra_1.out.below hb (show W1.heap.size ≤ W1.heap.size by omega))
  have HB_2 := Lib.hid (HB_1.out.trans (hb.mono (show w.heap.size ≤ W1.heap.size by omega)))
  clear Ra_1 HB_1 hb
  have RW_2 := Lib.hid hr
  clear hr
  have kn := Cell3.new W2 (.int .i64 pr) (.int .i64 pc) (.slice AW ps.length cW) 28
  obtain ⟨W3, hW3⟩ : ∃ W, W2.alloc (.cells #[.int .i64 pr, .int .i64 pc, .slice AW ps.length cW] 28) = W := ⟨_, rfl⟩
  rw [hW3] at kn
  have z3 : W3.heap.size = W2.heap.size + 1 := by rw [← hW3]; simp
  have hal : Below W2.heap.size W2 W3 := hW3 ▸ (Below.refl _ _).alloc (Nat.le_refl _) _
  have s3 := hal.size
  have Ra_3 := Lib.hid (Ra_2.out.below hal (show W1.heap.size ≤ W2.heap.size by omega))
  have RW_3 := Lib.hid (RW_2.out.below hal (show W2.heap.size ≤ W2.heap.size by omega))
  have HB_3 := Lib.hid (HB_2.out.trans (hal.mono (show w.heap.size ≤ W2.heap.size by omega)))
  clear Ra_2 RW_2 HB_2 hal
  have K6_3 := Lib.hid kn
  clear kn
  obtain ⟨x60, x61, x62, _, _, _, x6lt⟩ := K6_3.out
  go_wp2_with fail
  refine (toCellS_any Ac capc ts W3 ((HS0.out.below HB_3.out (Nat.le_refl _)).more (show w.heap.size ≤ W3.heap.size by omega)) (by omega)).mono ?_
  rintro e W4 ⟨sv4, rfl, hr, hb⟩
  obtain ⟨AX, cX, rfl, hcp1, hcp2, _⟩ := hr.form
  have HCPX := Lib.hid (And.intro hcp1 hcp2)
  clear hcp1 hcp2
  clear x60 x61 x62 x6lt
  have s4 := hb.size
  have K6_4 := Lib.hid (K6_3.out.below hb (show W2.heap.size < W3.heap.size by omega))
  have RW_4 := Lib.hid (RW_3.out.below hb (show W2.heap.size ≤ W3.heap.size by omega))
  have HB_4 := Lib.hid (HB_3.out.trans (hb.mono (show w.heap.size ≤ W3.heap.size by omega)))
  clear K6_3 RW_3 HB_3 hb
  have RX_4 := Lib.hid hr
  clear hr
  obtain ⟨x60, x61, x62, _, _, _, x6lt⟩ := K6_4.out
  go_wp2_with fail
  refine (implCM_any r c AX cX W4.heap.size ts W4 (RX_4.out.sl.2.more (show W4.heap.size ≤ W4.heap.size by omega)) (Nat.le_refl _) (by omega)).mono ?_
  rintro e W5 ⟨sv5, rfl, hr, hb⟩
  rw [HP.out.1, HP.out.2.1, HP.out.2.2.2]
  rw [HP.out.2.2.1] at hr
  obtain ⟨AG, cG, rfl, hcp1, hcp2, _⟩ := hr.form
  have HCPG := Lib.hid (And.intro hcp1 hcp2)
  clear hcp1 hcp2
  clear x60 x61 x62 x6lt
  have s5 := hb.size
  have K6_5 := Lib.hid (K6_4.out.below hb (show W2.heap.size < W4.heap.size by omega))
  have RW_5 := Lib.hid (RW_4.out.below hb (show W2.heap.size ≤ W4.heap.size by omega))
  have RX_5 := Lib.hid (RX_4.out.below hb (show W4.heap.size ≤ W4.heap.size by omega))
  have HB_5 := Lib.hid (HB_4.out.trans (hb.mono (show w.heap.size ≤ W4.heap.size by omega)))
  clear K6_4 RW_4 RX_4 HB_4 hb
  have RG_5 := Lib.hid hr
  clear hr
  have kn := Cell3.new W5 (.int .i64 pr) (.int .i64 pc) (.slice AG ps.length cG) 28
  obtain ⟨W6, hW6⟩ : ∃ W, W5.alloc (.cells #[.int .i64 pr, .int .i64 pc, .slice AG ps.length cG] 28) = W := ⟨_, rfl⟩
  rw [hW6] at kn
  have z6 : W6.heap.size = W5.heap.size + 1 := by rw [← hW6]; simp
  have hal : Below W5.heap.size W5 W6 := hW6 ▸ (Below.refl _ _).alloc (Nat.le_refl _) _
  have s6 := hal.size
  have K6_6 := Lib.hid (K6_5.out.below hal (show W2.heap.size < W5.heap.size by omega))
  have RW_6 := Lib.hid (RW_5.out.below hal (show W2.heap.size ≤ W5.heap.size by omega))
  have RX_6 := Lib.hid (RX_5.out.below hal (show W4.heap.size ≤ W5.heap.size by omega))
  have RG_6 := Lib.hid (RG_5.out.below hal (show W5.heap.size ≤ W5.heap.size by omega))
  have HB_6 := Lib.hid (HB_5.out.trans (hal.mono (show w.heap.size ≤ W5.heap.size by omega)))
  clear K6_5 RW_5 RX_5 RG_5 HB_5 hal
  have K8_6 := Lib.hid kn
  clear kn
  obtain ⟨x60, x61, x62, _, _, _, x6lt⟩ := K6_6.out
  obtain ⟨x80, x81, x82, _, _, _, x8lt⟩ := K8_6.out
  go_wp2_with fail
  refine (eqM_same pr pc AG AW cG cW ps W6 (RG_6.out.sl_now.more (show W5.heap.size ≤ W6.heap.size by omega)) (RW_6.out.sl_now.more (show W2.heap.size ≤ W6.heap.size by omega)) (by omega)).mono ?_
  rintro e W7 ⟨rfl, hb⟩
  clear x60 x61 x62 x6lt x80 x81 x82 x8lt
  have s7 := hb.size
  have K6_7 := Lib.hid (K6_6.out.below hb (show W2.heap.size < W6.heap.size by omega))
  have K8_7 := Lib.hid (K8_6.out.below hb (show W5.heap.size < W6.heap.size by omega))
  have RW_7 := Lib.hid (RW_6.out.below hb (show W2.heap.size ≤ W6.heap.size by omega))
  have RX_7 := Lib.hid (RX_6.out.below hb (show W4.heap.size ≤ W6.heap.size by omega))
  have RG_7 := Lib.hid (RG_6.out.below hb (show W5.heap.size ≤ W6.heap.size by omega))
  have HB_7 := Lib.hid (HB_6.out.trans (hb.mono (show w.heap.size ≤ W6.heap.size by omega)))
  clear K6_6 K8_6 RW_6 RX_6 RG_6 HB_6 hb
  obtain ⟨x60, x61, x62, _, _, _, x6lt⟩ := K6_7.out
  obtain ⟨x80, x81, x82, _, _, _, x8lt⟩ := K8_7.out
  go_wp2_with fail
  refine (toCellS_any Ac capc ts W7 ((HS0.out.below HB_7.out (Nat.le_refl _)).more (show w.heap.size ≤ W7.heap.size by omega)) (by omega)).mono ?_
  rintro e W8 ⟨sv8, rfl, hr, hb⟩
  obtain ⟨At, ct, rfl, hcp1, hcp2, _⟩ := hr.form
  have HCPt := Lib.hid (And.intro hcp1 hcp2)
  clear hcp1 hcp2
  clear x60 x61 x62 x6lt x80 x81 x82 x8lt
  have s8 := hb.size
  have K6_8 := Lib.hid (K6_7.out.below hb (show W2.heap.size < W7.heap.size by omega))
  have K8_8 := Lib.hid (K8_7.out.below hb (show W5.heap.size < W7.heap.size by omega))
  have RW_8 := Lib.hid (RW_7.out.below hb (show W2.heap.size ≤ W7.heap.size by omega))
  have RX_8 := Lib.hid (RX_7.out.below hb (show W4.heap.size ≤ W7.heap.size by omega))
  have RG_8 := Lib.hid (RG_7.out.below hb (show W5.heap.size ≤ W7.heap.size by omega))
  have HB_8 := Lib.hid (HB_7.out.trans (hb.mono (show w.heap.size ≤ W7.heap.size by omega)))
  clear K6_7 K8_7 RW_7 RX_7 RG_7 HB_7 hb
  have Rt_8 := Lib.hid hr
  clear hr
  obtain ⟨x60, x61, x62, _, _, _, x6lt⟩ := K6_8.out
  obtain ⟨x80, x81, x82, _, _, _, x8lt⟩ := K8_8.out
  go_wp2_with fail
  refine (eqCellS_same AX At cX ct ts W8 (RX_8.out.sl.2.more (show W4.heap.size ≤ W8.heap.size by omega)) (Rt_8.out.sl.2.more (show W8.heap.size ≤ W8.heap.size by omega)) (by omega)).mono ?_
  rintro e W9 ⟨rfl, hb⟩
  clear x60 x61 x62 x6lt x80 x81 x82 x8lt
  have s9 := hb.size
  have K6_9 := Lib.hid (K6_8.out.below hb (show W2.heap.size < W8.heap.size by omega))
  have K8_9 := Lib.hid (K8_8.out.below hb (show W5.heap.size < W8.heap.size by omega))
  have RW_9 := Lib.hid (RW_8.out.below hb (show W2.heap.size ≤ W8.heap.size by omega))
  have RX_9 := Lib.hid (RX_8.out.below hb (show W4.heap.size ≤ W8.heap.size by omega))
  have RG_9 := Lib.hid (RG_8.out.below hb (show W5.heap.size ≤ W8.heap.size by omega))
  have Rt_9 := Lib.hid (Rt_8.out.below hb (show W8.heap.size ≤ W8.heap.size by omega))
  have HB_9 := Lib.hid (HB_8.out.trans (hb.mono (show w.heap.size ≤ W8.heap.size by omega)))
  clear K6_8 K8_8 RW_8 RX_8 RG_8 Rt_8 HB_8 hb
  obtain ⟨x60, x61, x62, _, _, _, x6lt⟩ := K6_9.out
  obtain ⟨x80, x81, x82, _, _, _, x8lt⟩ := K8_9.out
  go_wp2_with fail
  refine (markC_any (W3.heap.size) (W4.heap.size) AX cX ts.length (fl ts) (1) W9 RX_9.out (by omega) (by omega) (by omega)).mono ?_
  rintro e W10 ⟨rfl, hrm, hgr⟩
  have hsp := Span.of_grown (lo := W3.heap.size) (hi := W4.heap.size) hgr (fun g e => RX_9.out.block_lt g e)
  clear hgr
  clear x60 x61 x62 x6lt x80 x81 x82 x8lt
  have s10 := hsp.size
  have K6_10 := Lib.hid (K6_9.out.span hsp (show W2.heap.size < W3.heap.size ∨ W4.heap.size ≤ W2.heap.size by omega))
  have K8_10 := Lib.hid (K8_9.out.span hsp (show W5.heap.size < W3.heap.size ∨ W4.heap.size ≤ W5.heap.size by omega))
  have RW_10 := Lib.hid (RW_9.out.span hsp (show W2.heap.size ≤ W3.heap.size ∨ W4.heap.size ≤ W1.heap.size by omega))
  have RG_10 := Lib.hid (RG_9.out.span hsp (show W5.heap.size ≤ W3.heap.size ∨ W4.heap.size ≤ W4.heap.size by omega))
  have HB_10 := Lib.hid (Span.below HB_9.out hsp (show w.heap.size ≤ W3.heap.size by omega) (show w.heap.size ≤ W9.heap.size by omega))
  clear K6_9 K8_9 RW_9 RX_9 RG_9 HB_9 hsp
  clear hrm
  have hdk : decide (1 + ((ts.length * 3 : Nat) : Int) < 0) = false := by simp; omega
  obtain ⟨x60, x61, x62, _, _, _, x6lt⟩ := K6_10.out
  obtain ⟨x80, x81, x82, _, _, _, x8lt⟩ := K8_10.out
  go_wp2_with fail
  refine (eqM_same pr pc AG AW cG cW ps W10 (RG_10.out.sl_now.more (show W5.heap.size ≤ W10.heap.size by omega)) (RW_10.out.sl_now.more (show W2.heap.size ≤ W10.heap.size by omega)) (by omega)).mono ?_
  rintro e W11 ⟨rfl, hb⟩
  clear x60 x61 x62 x6lt x80 x81 x82 x8lt
  have s11 := hb.size
  have K6_11 := Lib.hid (K6_10.out.below hb (show W2.heap.size < W10.heap.size by omega))
  have K8_11 := Lib.hid (K8_10.out.below hb (show W5.heap.size < W10.heap.size by omega))
  have RW_11 := Lib.hid (RW_10.out.below hb (show W2.heap.size ≤ W10.heap.size by omega))
  have RG_11 := Lib.hid (RG_10.out.below hb (show W5.heap.size ≤ W10.heap.size by omega))
  have HB_11 := Lib.hid (HB_10.out.trans (hb.mono (show w.heap.size ≤ W10.heap.size by omega)))
  clear K6_10 K8_10 RW_10 RG_10 HB_10 hb
  obtain ⟨x60, x61, x62, _, _, _, x6lt⟩ := K6_11.out
  obtain ⟨x80, x81, x82, _, _, _, x8lt⟩ := K8_11.out
  go_wp2_with fail
  refine (markM_any (W4.heap.size) (W5.heap.size) pr pc AG cG ps 1 W11 RG_11.out (show W5.heap.size ≤ W11.heap.size by omega) (by omega) (by omega) (by omega)).mono ?_
  rintro e W12 ⟨rfl, hrm, hsp⟩
  clear x60 x61 x62 x6lt x80 x81 x82 x8lt
  have s12 := hsp.size
  have K6_12 := Lib.hid (K6_11.out.span hsp (show W2.heap.size < W4.heap.size ∨ W5.heap.size ≤ W2.heap.size by omega))
  have K8_12 := Lib.hid (K8_11.out.span hsp (show W5.heap.size < W4.heap.size ∨ W5.heap.size ≤ W5.heap.size by omega))
  have RW_12 := Lib.hid (RW_11.out.span hsp (show W2.heap.size ≤ W4.heap.size ∨ W5.heap.size ≤ W1.heap.size by omega))
  have HB_12 := Lib.hid (Span.below HB_11.out hsp (show w.heap.size ≤ W4.heap.size by omega) (show w.heap.size ≤ W11.heap.size by omega))
  have MG_12 := Lib.hid hrm
  clear K6_11 K8_11 RW_11 RG_11 HB_11 hsp hrm
  have RM_12 := Lib.hid (show Row W12 (W4.heap.size) (W5.heap.size) (.slice AG (marks 1 ps.length).length cG) (marks 1 ps.length) by rw [marks_length]; exact MG_12.out)
  clear MG_12
  have hd12 : decide (1 + (ps.length : Int) < 0) = false := by simp; omega
  obtain ⟨x60, x61, x62, _, _, _, x6lt⟩ := K6_12.out
  obtain ⟨x80, x81, x82, _, _, _, x8lt⟩ := K8_12.out
  go_wp2_with fail
  refine (heldM_same (W5.heap.size) pr pc AG cG ps.length 1 W12 RM_12.out.sl_now (show W5.heap.size ≤ W12.heap.size by omega) (by omega) (by omega) (by omega)).mono ?_
  rintro e W13 ⟨rfl, hb⟩
  clear x60 x61 x62 x6lt x80 x81 x82 x8lt
  have s13 := hb.size
  have K6_13 := Lib.hid (K6_12.out.below hb (show W2.heap.size < W12.heap.size by omega))
  have K8_13 := Lib.hid (K8_12.out.below hb (show W5.heap.size < W12.heap.size by omega))
  have RW_13 := Lib.hid (RW_12.out.below hb (show W2.heap.size ≤ W12.heap.size by omega))
  have RM_13 := Lib.hid (RM_12.out.below hb (show W5.heap.size ≤ W12.heap.size by omega))
  have HB_13 := Lib.hid (HB_12.out.trans (hb.mono (show w.heap.size ≤ W12.heap.size by omega)))
  clear K6_12 K8_12 RW_12 RM_12 HB_12 hb
  obtain ⟨x60, x61, x62, _, _, _, x6lt⟩ := K6_13.out
  obtain ⟨x80, x81, x82, _, _, _, x8lt⟩ := K8_13.out
  go_wp2_with fail
  refine (toCellS_any Ac capc ts W13 ((HS0.out.below HB_13.out (Nat.le_refl _)).more (show w.heap.size ≤ W13.heap.size by omega)) (by omega)).mono ?_
  rintro e W14 ⟨sv14, rfl, hr, hb⟩
  obtain ⟨Ab, cb, rfl, hcp1, hcp2, _⟩ := hr.form
  have HCPb := Lib.hid (And.intro hcp1 hcp2)
  clear hcp1 hcp2
  clear x60 x61 x62 x6lt x80 x81 x82 x8lt
  have s14 := hb.size
  have K6_14 := Lib.hid (K6_13.out.below hb (show W2.heap.size < W13.heap.size by omega))
  have K8_14 := Lib.hid (K8_13.out.below hb (show W5.heap.size < W13.heap.size by omega))
  have RW_14 := Lib.hid (RW_13.out.below hb (show W2.heap.size ≤ W13.heap.size by omega))
  have RM_14 := Lib.hid (RM_13.out.below hb (show W5.heap.size ≤ W13.heap.size by omega))
  have HB_14 := Lib.hid (HB_13.out.trans (hb.mono (show w.heap.size ≤ W13.heap.size by omega)))
  clear K6_13 K8_13 RW_13 RM_13 HB_13 hb
  have Rb_14 := Lib.hid hr
  clear hr
  obtain ⟨x60, x61, x62, _, _, _, x6lt⟩ := K6_14.out
  obtain ⟨x80, x81, x82, _, _, _, x8lt⟩ := K8_14.out
  go_wp2_with fail
  refine (implCM_any r c Ab cb W14.heap.size ts W14 (Rb_14.out.sl.2.more (show W14.heap.size ≤ W14.heap.size by omega)) (Nat.le_refl _) (by omega)).mono ?_
  rintro e W15 ⟨sv15, rfl, hr, hb⟩
  rw [HP.out.1, HP.out.2.1, HP.out.2.2.2]
  rw [HP.out.2.2.1] at hr
  obtain ⟨AH, cH, rfl, hcp1, hcp2, _⟩ := hr.form
  have HCPH := Lib.hid (And.intro hcp1 hcp2)
  clear hcp1 hcp2
  clear x60 x61 x62 x6lt x80 x81 x82 x8lt
  have s15 := hb.size
  have K6_15 := Lib.hid (K6_14.out.below hb (show W2.heap.size < W14.heap.size by omega))
  have K8_15 := Lib.hid (K8_14.out.below hb (show W5.heap.size < W14.heap.size by omega))
  have RW_15 := Lib.hid (RW_14.out.below hb (show W2.heap.size ≤ W14.heap.size by omega))
  have RM_15 := Lib.hid (RM_14.out.below hb (show W5.heap.size ≤ W14.heap.size by omega))
  have Rb_15 := Lib.hid (Rb_14.out.below hb (show W14.heap.size ≤ W14.heap.size by omega))
  have HB_15 := Lib.hid (HB_14.out.trans (hb.mono (show w.heap.size ≤ W14.heap.size by omega)))
  clear K6_14 K8_14 RW_14 RM_14 Rb_14 HB_14 hb
  have RH_15 := Lib.hid hr
  clear hr
  have kn := Cell3.new W15 (.int .i64 pr) (.int .i64 pc) (.slice AH ps.length cH) 28
  obtain ⟨W16, hW16⟩ : ∃ W, W15.alloc (.cells #[.int .i64 pr, .int .i64 pc, .slice AH ps.length cH] 28) = W := ⟨_, rfl⟩
  rw [hW16] at kn
  have z16 : W16.heap.size = W15.heap.size + 1 := by rw [← hW16]; simp
  have hal : Below W15.heap.size W15 W16 := hW16 ▸ (Below.refl _ _).alloc (Nat.le_refl _) _
  have s16 := hal.size
  have K6_16 := Lib.hid (K6_15.out.below hal (show W2.heap.size < W15.heap.size by omega))
  have K8_16 := Lib.hid (K8_15.out.below hal (show W5.heap.size < W15.heap.size by omega))
  have RW_16 := Lib.hid (RW_15.out.below hal (show W2.heap.size ≤ W15.heap.size by omega))
  have RM_16 := Lib.hid (RM_15.out.below hal (show W5.heap.size ≤ W15.heap.size by omega))
  have Rb_16 := Lib.hid (Rb_15.out.below hal (show W14.heap.size ≤ W15.heap.size by omega))
  have RH_16 := Lib.hid (RH_15.out.below hal (show W15.heap.size ≤ W15.heap.size by omega))
  have HB_16 := Lib.hid (HB_15.out.trans (hal.mono (show w.heap.size ≤ W15.heap.size by omega)))
  clear K6_15 K8_15 RW_15 RM_15 Rb_15 RH_15 HB_15 hal
  have K12_16 := Lib.hid kn
  clear kn
  obtain ⟨x60, x61, x62, _, _, _, x6lt⟩ := K6_16.out
  obtain ⟨x80, x81, x82, _, _, _, x8lt⟩ := K8_16.out
  obtain ⟨x120, x121, x122, _, _, _, x12lt⟩ := K12_16.out
  go_wp2_with fail
  refine (eqM_same pr pc AH AW cH cW ps W16 (RH_16.out.sl_now.more (show W15.heap.size ≤ W16.heap.size by omega)) (RW_16.out.sl_now.more (show W2.heap.size ≤ W16.heap.size by omega)) (by omega)).mono ?_
  rintro e W17 ⟨rfl, hb⟩
  clear x60 x61 x62 x6lt x80 x81 x82 x8lt x120 x121 x122 x12lt
  have s17 := hb.size
  have K6_17 := Lib.hid (K6_16.out.below hb (show W2.heap.size < W16.heap.size by omega))
  have K8_17 := Lib.hid (K8_16.out.below hb (show W5.heap.size < W16.heap.size by omega))
  have K12_17 := Lib.hid (K12_16.out.below hb (show W15.heap.size < W16.heap.size by omega))
  have RW_17 := Lib.hid (RW_16.out.below hb (show W2.heap.size ≤ W16.heap.size by omega))
  have RM_17 := Lib.hid (RM_16.out.below hb (show W5.heap.size ≤ W16.heap.size by omega))
  have RH_17 := Lib.hid (RH_16.out.below hb (show W15.heap.size ≤ W16.heap.size by omega))
  have HB_17 := Lib.hid (HB_16.out.trans (hb.mono (show w.heap.size ≤ W16.heap.size by omega)))
  clear K6_16 K8_16 K12_16 RW_16 RM_16 RH_16 HB_16 hb
  obtain ⟨x60, x61, x62, _, _, _, x6lt⟩ := K6_17.out
  obtain ⟨x80, x81, x82, _, _, _, x8lt⟩ := K8_17.out
  obtain ⟨x120, x121, x122, _, _, _, x12lt⟩ := K12_17.out
  go_wp2_with fail
  refine (heldM_same (W5.heap.size) pr pc AG cG ps.length 1 W17 RM_17.out.sl_now (show W5.heap.size ≤ W17.heap.size by omega) (by omega) (by omega) (by omega)).mono ?_
  rintro e W18 ⟨rfl, hb⟩
  clear x60 x61 x62 x6lt x80 x81 x82 x8lt x120 x121 x122 x12lt
  have s18 := hb.size
  have K6_18 := Lib.hid (K6_17.out.below hb (show W2.heap.size < W17.heap.size by omega))
  have K8_18 := Lib.hid (K8_17.out.below hb (show W5.heap.size < W17.heap.size by omega))
  have K12_18 := Lib.hid (K12_17.out.below hb (show W15.heap.size < W17.heap.size by omega))
  have RW_18 := Lib.hid (RW_17.out.below hb (show W2.heap.size ≤ W17.heap.size by omega))
  have RM_18 := Lib.hid (RM_17.out.below hb (show W5.heap.size ≤ W17.heap.size by omega))
  have RH_18 := Lib.hid (RH_17.out.below hb (show W15.heap.size ≤ W17.heap.size by omega))
  have HB_18 := Lib.hid (HB_17.out.trans (hb.mono (show w.heap.size ≤ W17.heap.size by omega)))
  clear K6_17 K8_17 K12_17 RW_17 RM_17 RH_17 HB_17 hb
  obtain ⟨x60, x61, x62, _, _, _, x6lt⟩ := K6_18.out
  obtain ⟨x80, x81, x82, _, _, _, x8lt⟩ := K8_18.out
  obtain ⟨x120, x121, x122, _, _, _, x12lt⟩ := K12_18.out
  go_wp2
  go_ret
  exact ⟨rfl, HB_18.out⟩
theorem law_FnExactCellsMatrix (w : World) (r : Int) (_ : (Lit.int .i64 r).wf = true) (c : Int) (_ : (Lit.int .i64 c).wf = true) (Ac : Option Addr) (nc capc : Nat) (h0 : CameC w Ac nc capc) :
    Calls Try.prog 5 #[.int .i64 r, .int .i64 c, .slice Ac nc capc] w fun e w' => e = .returned (.bool true) ∧ Below w.heap.size w w' :=
  walk_FnExactCellsMatrix w w r c Ac nc capc h0 (Below.refl _ _)
end Go.Proofs.Ytdebnbgjnmoleaa
