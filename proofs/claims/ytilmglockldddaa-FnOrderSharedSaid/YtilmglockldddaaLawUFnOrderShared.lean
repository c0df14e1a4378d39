/- The walk of the law FnOrderShared. (Printed by gen_LawU.py.) -/
import Derived.Test.YtilmglockldddaaFnsO2
import Derived.Test.YtilmglockldddaaDrawS3
import Derived.Deep.RegionHeld3
namespace Go.Proofs.Ytilmglockldddaa
open Go.RowKit
theorem okM_pair {f : Int → Int → Int} (hf : ∀ a b, 0 ≤ f a b ∧ f a b ≤ 4095) {r c : Int} {zs : List Int} (ks : List Int) (h1 : OkM r c zs) : OkM r c (pairZ f zs ks) := by
  refine ⟨h1.1, h1.2.1, by rw [pairZ_len]; exact h1.2.2.1, fun j hj => ?_⟩
  rw [pairZ_get _ _ _ _ (by rw [pairZ_len] at hj; exact hj)]
  exact hf _ _
theorem addF_all (a b : Int) : 0 ≤ addF a b ∧ addF a b ≤ 4095 := by unfold addF; omega
theorem subF_all (a b : Int) : 0 ≤ subF a b ∧ subF a b ≤ 4095 := by unfold subF; omega
/-- The mask falls out. -/
theorem mask_out {xs ys gs : List Int} (h1 : ys.length = xs.length) : pairZ addF (pairZ addF xs gs) (pairZ subF ys gs) = pairZ addF xs ys := by
  apply ext_getM
  · simp only [pairZ_len]
  · intro p hp
    rw [pairZ_len, pairZ_len] at hp
    rw [pairZ_get _ _ _ _ (by rw [pairZ_len]; exact hp), pairZ_get _ _ _ _ hp, pairZ_get _ _ _ _ (by omega), pairZ_get _ _ _ _ hp]
    unfold addF subF
    omega
/-- Ordered shares. -/
theorem ord_join {r c : Int} {zs ks os : List Int} (h : OkR r c zs os) (h2 : OkM r c ks) : OkR r c (pairZ addF zs ks) os ∧ ordZ r c (pairZ addF zs ks) os = pairZ addF (ordZ r c zs os) (ordZ r c ks os) := by
  have hj : OkR r c (pairZ addF zs ks) os := ⟨okM_pair addF_all ks h.1, h.2⟩
  have hk : OkR r c ks os := ⟨h2, h.2⟩
  refine ⟨hj, ?_⟩
  unfold ordZ
  rw [if_pos h, if_pos hj, if_pos hk]
  have hl : zs.length = ks.length := by have h3 := h.1.2.2.1; have h4 := h2.2.2.1; omega
  symm
  refine eq_tab _ (by rw [pairZ_len, orderZ_len]) fun a b ha hb => ?_
  have hlt : a * c.toNat + b < r.toNat * c.toNat := ix_lt ha hb
  rw [pairZ_get _ _ _ _ (by rw [orderZ_len]; exact hlt), orderZ, orderZ, tab_at _ _ _ _ _ ha hb, tab_at _ _ _ _ _ ha hb]
  show addF (orderF c.toNat zs os a b) (orderF c.toNat ks os a b) = orderF c.toNat (pairZ addF zs ks) os a b
  unfold orderF
  show _ = (addZ zs ks).getD _ 0
  rw [addZ_get _ _ hl]
  rfl

set_option maxRecDepth 20000 in
set_option maxHeartbeats 6400000 in
theorem law_FnOrderShared (w : World) (A : Option Addr) (n c : Nat) (h0 : Code8 w A n ∧ n ≤ c ∧ c ≤ maxLen) :
    Calls Try.prog 8 #[.slice A n c] w fun e w' => e = .returned (.bool true) ∧ Below w.heap.size w w' := by
  obtain ⟨hc, hnc, hcm⟩ := h0
  have hcm' := hcm
  unfold maxLen at hcm'
  by_cases hn : 1048576 < n
  · go_enter Try.func8, Try.ntmps8
    go_wp2
    go_ret
    exact ⟨rfl, Below.refl _ _⟩
  have hd1 : decide ((1048576 : Int) < (n : Int)) = false := by simp; omega
  go_enter Try.func8, Try.ntmps8
  go_wp2_with fail
  refine (drawOS A n c w (by omega) hnc hcm hc).mono ?_
  rintro e W0 ⟨r, cc, sm, zs, r2, c2, sn, ks, Ao, co, os, sd, rfl, hra, hrb, hro, zl, kl, ol, hsd, hb⟩
  obtain ⟨Am, cm, rfl, hcp1, hcp2, _⟩ := hra.form
  have HCPAm := Lib.hid (And.intro hcp1 hcp2)
  clear hcp1 hcp2
  obtain ⟨Bm, dm, rfl, hcp1, hcp2, _⟩ := hrb.form
  have HCPBm := Lib.hid (And.intro hcp1 hcp2)
  clear hcp1 hcp2
  have s0 := hb.size
  have HB_0 := Lib.hid hb
  have Rm_0 := Lib.hid hra
  have Rn_0 := Lib.hid hrb
  clear hb hc hra hrb
  have So_0 := Lib.hid hro
  clear hro
  have hpl := osZ_len r cc zs r2 c2 ks os sd
  obtain ⟨pr, hpr⟩ : ∃ x, osR r cc zs r2 c2 ks os sd = x := ⟨_, rfl⟩
  obtain ⟨pc, hpc⟩ : ∃ x, osC r cc zs r2 c2 ks os sd = x := ⟨_, rfl⟩
  obtain ⟨ps, hps⟩ : ∃ x, osZ r cc zs r2 c2 ks os sd = x := ⟨_, rfl⟩
  obtain ⟨qs, hqs⟩ : ∃ x, osK r cc zs r2 c2 ks os sd = x := ⟨_, rfl⟩
  obtain ⟨pn, hpn⟩ : ∃ x, osN r cc zs r2 c2 ks os sd = x := ⟨_, rfl⟩
  rw [hps, hqs] at hpl
  have HP := Lib.hid (And.intro hpr (And.intro hpc (And.intro hps (And.intro hqs hpn))))
  clear hpr hpc hps hqs hpn
  have kn := Cell6.new W0 (.int .i64 r) (.int .i64 cc) (.slice Am zs.length cm) (.int .i64 r2) (.int .i64 c2) (.slice Bm ks.length dm) 47
  obtain ⟨W1, hW1⟩ : ∃ W, W0.alloc (.cells #[.int .i64 r, .int .i64 cc, .slice Am zs.length cm, .int .i64 r2, .int .i64 c2, .slice Bm ks.length dm] 47) = W := ⟨_, rfl⟩
  rw [hW1] at kn
  have z1 : W1.heap.size = W0.heap.size + 1 := by rw [← hW1]; simp
  replace z1 := And.intro (Nat.le_of_eq z1) (Nat.le_of_eq z1.symm)
  have hal : Below W0.heap.size W0 W1 := hW1 ▸ (Below.refl _ _).alloc (Nat.le_refl _) _
  have s1 := hal.size
  have Rm_1 := Lib.hid (Rm_0.out.below hal (show W0.heap.size ≤ W0.heap.size by omega))
  have Rn_1 := Lib.hid (Rn_0.out.below hal (show W0.heap.size ≤ W0.heap.size by omega))
  have So_1 := Lib.hid (So_0.out.below hal (show W0.heap.size ≤ W0.heap.size by omega))
  have HB_1 := Lib.hid (HB_0.out.trans (hal.mono (show w.heap.size ≤ W0.heap.size by omega)))
  clear Rm_0 Rn_0 So_0 HB_0 hal
  have K3_1 := Lib.hid kn
  clear kn
  obtain ⟨x30, x31, x32, x33, x34, x35, xf30, xf31, xf32, xf33, xf34, xf35, x3lt⟩ := K3_1.out
  go_wp2_with fail
  refine (implOS_any r cc Am cm _ W1.heap.size zs r2 c2 Bm dm _ W1.heap.size ks Ao co _ W0.heap.size os sd W1 (Rm_1.out.sl_now.more (show W0.heap.size ≤ W1.heap.size by omega)) (Nat.le_refl _) rfl (by omega) (Rn_1.out.sl_now.more (show W0.heap.size ≤ W1.heap.size by omega)) (Nat.le_refl _) rfl (by omega) So_1.out (by omega) rfl (by omega) HCPAm.out.1 HCPAm.out.2 HCPBm.out.1 HCPBm.out.2).mono ?_
  rintro e W2 ⟨sv2, tv2, rfl, hr, hb⟩
  rw [HP.out.1, HP.out.2.1, HP.out.2.2.2.2]
  rw [HP.out.2.2.1, HP.out.2.2.2.1] at hr
  obtain ⟨Ax, cx, Bx, dx, rfl, rfl, hcp1, hcp2⟩ := hr.form
  have HCPx := Lib.hid (And.intro hcp1 hcp2)
  clear hcp1 hcp2
  clear x30 x31 x32 x33 x34 x35 xf30 xf31 xf32 xf33 xf34 xf35 x3lt
  have s2 := hb.size
  have K3_2 := Lib.hid (K3_1.out.below hb (show W0.heap.size < W1.heap.size by omega))
  have Rm_2 := Lib.hid (Rm_1.out.below hb (show W0.heap.size ≤ W1.heap.size by omega))
  have Rn_2 := Lib.hid (Rn_1.out.below hb (show W0.heap.size ≤ W1.heap.size by omega))
  have So_2 := Lib.hid (So_1.out.below hb (show W0.heap.size ≤ W1.heap.size by omega))
  have HB_2 := Lib.hid (HB_1.out.trans (hb.mono (show w.heap.size ≤ W1.heap.size by omega)))
  clear K3_1 Rm_1 Rn_1 So_1 HB_1 hb
  have Rx_2 := Lib.hid hr
  clear hr
  have kn := Cell6.new W2 (.int .i64 pr) (.int .i64 pc) (.slice Ax ps.length cx) (.int .i64 pr) (.int .i64 pc) (.slice Bx qs.length dx) 47
  obtain ⟨W3, hW3⟩ : ∃ W, W2.alloc (.cells #[.int .i64 pr, .int .i64 pc, .slice Ax ps.length cx, .int .i64 pr, .int .i64 pc, .slice Bx qs.length dx] 47) = W := ⟨_, rfl⟩
  rw [hW3] at kn
  have z3 : W3.heap.size = W2.heap.size + 1 := by rw [← hW3]; simp
  replace z3 := And.intro (Nat.le_of_eq z3) (Nat.le_of_eq z3.symm)
  have hal : Below W2.heap.size W2 W3 := hW3 ▸ (Below.refl _ _).alloc (Nat.le_refl _) _
  have s3 := hal.size
  have K3_3 := Lib.hid (K3_2.out.below hal (show W0.heap.size < W2.heap.size by omega))
  have Rm_3 := Lib.hid (Rm_2.out.below hal (show W0.heap.size ≤ W2.heap.size by omega))
  have Rn_3 := Lib.hid (Rn_2.out.below hal (show W0.heap.size ≤ W2.heap.size by omega))
  have Rx_3 := Lib.hid (Rx_2.out.below hal (show W2.heap.size ≤ W2.heap.size by omega))
  have So_3 := Lib.hid (So_2.out.below hal (show W0.heap.size ≤ W2.heap.size by omega))
  have HB_3 := Lib.hid (HB_2.out.trans (hal.mono (show w.heap.size ≤ W2.heap.size by omega)))
  clear K3_2 Rm_2 Rn_2 Rx_2 So_2 HB_2 hal
  have K6_3 := Lib.hid kn
  clear kn
  obtain ⟨x30, x31, x32, x33, x34, x35, xf30, xf31, xf32, xf33, xf34, xf35, x3lt⟩ := K3_3.out
  obtain ⟨x60, x61, x62, x63, x64, x65, xf60, xf61, xf62, xf63, xf64, xf65, x6lt⟩ := K6_3.out
  go_wp2_with fail
  refine (specOS_any r cc Am cm _ W3.heap.size zs r2 c2 Bm dm _ W3.heap.size ks Ao co _ W0.heap.size os sd W3 (Rm_3.out.sl_now.more (show W0.heap.size ≤ W3.heap.size by omega)) (Nat.le_refl _) rfl (by omega) (Rn_3.out.sl_now.more (show W0.heap.size ≤ W3.heap.size by omega)) (Nat.le_refl _) rfl (by omega) So_3.out (by omega) rfl (by omega)).mono ?_
  rintro e W4 ⟨sv4, tv4, rfl, hr, hb⟩
  rw [HP.out.1, HP.out.2.1, HP.out.2.2.2.2]
  rw [HP.out.2.2.1, HP.out.2.2.2.1] at hr
  obtain ⟨Ay, cy, By, dy, rfl, rfl, hcp1, hcp2⟩ := hr.form
  have HCPy := Lib.hid (And.intro hcp1 hcp2)
  clear hcp1 hcp2
  clear x30 x31 x32 x33 x34 x35 xf30 xf31 xf32 xf33 xf34 xf35 x3lt x60 x61 x62 x63 x64 x65 xf60 xf61 xf62 xf63 xf64 xf65 x6lt
  have s4 := hb.size
  have K3_4 := Lib.hid (K3_3.out.below hb (show W0.heap.size < W3.heap.size by omega))
  have K6_4 := Lib.hid (K6_3.out.below hb (show W2.heap.size < W3.heap.size by omega))
  have Rm_4 := Lib.hid (Rm_3.out.below hb (show W0.heap.size ≤ W3.heap.size by omega))
  have Rn_4 := Lib.hid (Rn_3.out.below hb (show W0.heap.size ≤ W3.heap.size by omega))
  have Rx_4 := Lib.hid (Rx_3.out.below hb (show W2.heap.size ≤ W3.heap.size by omega))
  have So_4 := Lib.hid (So_3.out.below hb (show W0.heap.size ≤ W3.heap.size by omega))
  have HB_4 := Lib.hid (HB_3.out.trans (hb.mono (show w.heap.size ≤ W3.heap.size by omega)))
  clear K3_3 K6_3 Rm_3 Rn_3 Rx_3 So_3 HB_3 hb
  have Ry_4 := Lib.hid hr
  clear hr
  have kn := Cell6.new W4 (.int .i64 pr) (.int .i64 pc) (.slice Ay ps.length cy) (.int .i64 pr) (.int .i64 pc) (.slice By qs.length dy) 47
  obtain ⟨W5, hW5⟩ : ∃ W, W4.alloc (.cells #[.int .i64 pr, .int .i64 pc, .slice Ay ps.length cy, .int .i64 pr, .int .i64 pc, .slice By qs.length dy] 47) = W := ⟨_, rfl⟩
  rw [hW5] at kn
  have z5 : W5.heap.size = W4.heap.size + 1 := by rw [← hW5]; simp
  replace z5 := And.intro (Nat.le_of_eq z5) (Nat.le_of_eq z5.symm)
  have hal : Below W4.heap.size W4 W5 := hW5 ▸ (Below.refl _ _).alloc (Nat.le_refl _) _
  have s5 := hal.size
  have K3_5 := Lib.hid (K3_4.out.below hal (show W0.heap.size < W4.heap.size by omega))
  have K6_5 := Lib.hid (K6_4.out.below hal (show W2.heap.size < W4.heap.size by omega))
  have Rm_5 := Lib.hid (Rm_4.out.below hal (show W0.heap.size ≤ W4.heap.size by omega))
  have Rn_5 := Lib.hid (Rn_4.out.below hal (show W0.heap.size ≤ W4.heap.size by omega))
  have Rx_5 := Lib.hid (Rx_4.out.below hal (show W2.heap.size ≤ W4.heap.size by omega))
  have Ry_5 := Lib.hid (Ry_4.out.below hal (show W4.heap.size ≤ W4.heap.size by omega))
  have So_5 := Lib.hid (So_4.out.below hal (show W0.heap.size ≤ W4.heap.size by omega))
  have HB_5 := Lib.hid (HB_4.out.trans (hal.mono (show w.heap.size ≤ W4.heap.size by omega)))
  clear K3_4 K6_4 Rm_4 Rn_4 Rx_4 Ry_4 So_4 HB_4 hal
  have K8_5 := Lib.hid kn
  clear kn
  obtain ⟨x30, x31, x32, x33, x34, x35, xf30, xf31, xf32, xf33, xf34, xf35, x3lt⟩ := K3_5.out
  obtain ⟨x60, x61, x62, x63, x64, x65, xf60, xf61, xf62, xf63, xf64, xf65, x6lt⟩ := K6_5.out
  obtain ⟨x80, x81, x82, x83, x84, x85, xf80, xf81, xf82, xf83, xf84, xf85, x8lt⟩ := K8_5.out
  go_wp2_with fail
  refine (sameS_same pr pc Ax Ay cx cy ps pr pc Bx By dx dy qs W5 (Rx_5.out.sl1.more (show W2.heap.size ≤ W5.heap.size by omega)) (Ry_5.out.sl1.more (show W4.heap.size ≤ W5.heap.size by omega)) (Rx_5.out.sl2.more (show W2.heap.size ≤ W5.heap.size by omega)) (Ry_5.out.sl2.more (show W4.heap.size ≤ W5.heap.size by omega)) (by omega) (by omega)).mono ?_
  rintro e W6 ⟨rfl, hb⟩
  clear x30 x31 x32 x33 x34 x35 xf30 xf31 xf32 xf33 xf34 xf35 x3lt x60 x61 x62 x63 x64 x65 xf60 xf61 xf62 xf63 xf64 xf65 x6lt x80 x81 x82 x83 x84 x85 xf80 xf81 xf82 xf83 xf84 xf85 x8lt
  have s6 := hb.size
  have K3_6 := Lib.hid (K3_5.out.below hb (show W0.heap.size < W5.heap.size by omega))
  have K6_6 := Lib.hid (K6_5.out.below hb (show W2.heap.size < W5.heap.size by omega))
  have K8_6 := Lib.hid (K8_5.out.below hb (show W4.heap.size < W5.heap.size by omega))
  have Rm_6 := Lib.hid (Rm_5.out.below hb (show W0.heap.size ≤ W5.heap.size by omega))
  have Rn_6 := Lib.hid (Rn_5.out.below hb (show W0.heap.size ≤ W5.heap.size by omega))
  have Rx_6 := Lib.hid (Rx_5.out.below hb (show W2.heap.size ≤ W5.heap.size by omega))
  have Ry_6 := Lib.hid (Ry_5.out.below hb (show W4.heap.size ≤ W5.heap.size by omega))
  have So_6 := Lib.hid (So_5.out.below hb (show W0.heap.size ≤ W5.heap.size by omega))
  have HB_6 := Lib.hid (HB_5.out.trans (hb.mono (show w.heap.size ≤ W5.heap.size by omega)))
  clear K3_5 K6_5 K8_5 Rm_5 Rn_5 Rx_5 Ry_5 So_5 HB_5 hb
  by_cases hok : OkS r cc zs r2 c2 ks ∧ OkR r cc zs os ∧ 1 ≤ sd ∧ sd ≤ 2147483646
  · skip
    obtain ⟨hos, hor, hs1, hs2⟩ := id hok
    obtain ⟨hm1, hm2, rfl, rfl⟩ := id hos
    have hor2 : OkR r cc ks os := ⟨hm2, hor.2⟩
    obtain ⟨j1, j2⟩ := ord_join hor hm2
    have he1 := ord_yes hor
    have he2 := ord_yes hor2
    have he3 := ord_yes j1
    have eR : pr = r := by rw [← HP.out.1]; unfold osR; rw [if_pos hok]
    have eC : pc = cc := by rw [← HP.out.2.1]; unfold osC; rw [if_pos hok]
    have eZ : ps = pairZ addF (ordZ r cc zs os) (rLs sd zs.length) := by rw [← HP.out.2.2.1]; unfold osZ; rw [if_pos hok]
    have eK : qs = pairZ subF (ordZ r cc ks os) (rLs sd zs.length) := by rw [← HP.out.2.2.2.1]; unfold osK; rw [if_pos hok]
    have eN : pn = rSd sd zs.length := by rw [← HP.out.2.2.2.2]; unfold osN; rw [if_pos hok]
    have hn0 : (pn == 0) = false := by have h := rSd_rng ⟨hs1, hs2⟩ zs.length; rw [← eN] at h; simp; omega
    have hlk : (ordZ r cc ks os).length = (ordZ r cc zs os).length := by rw [he1.2.2.2, he2.2.2.2]; have h1 := hm1.2.2.1; have h2 := hm2.2.2.1; omega
    have o1 : OkM r cc ps := by rw [eZ]; exact okM_pair addF_all _ he1.2.2.1
    have o2 : OkM r cc qs := by rw [eK]; exact okM_pair subF_all _ he2.2.2.1
    have eJ : pairZ addF ps qs = ordZ r cc (pairZ addF zs ks) os := by rw [j2, eZ, eK]; exact mask_out hlk
    have hjl := pairZ_len addF zs ks
    have hjp := pairZ_len addF ps qs
    subst eR eC
    have HV := Lib.hid (show OkS pr pc ps pr pc qs from ⟨o1, o2, rfl, rfl⟩)
    have HJ := Lib.hid (And.intro hm1 (And.intro hm2 (And.intro o1 o2)))
    obtain ⟨J1, hJ1⟩ : ∃ J, pairZ addF zs ks = J := ⟨_, rfl⟩
    obtain ⟨J2, hJ2⟩ : ∃ J, pairZ addF ps qs = J := ⟨_, rfl⟩
    rw [hJ1] at eJ hjl he3
    rw [hJ2] at eJ hjp
    have HE := Lib.hid (And.intro he3.1 (And.intro he3.2.1 eJ.symm))
    have hjl' : J1.length ≤ 1048576 := by omega
    have hjp' : J2.length ≤ 1048576 := by omega
    have HNN := Lib.hid (And.intro hJ1 hJ2)
    clear hok hos hor hor2 hm1 hm2 j1 j2 he1 he2 he3 eZ eK eN eJ hlk o1 o2 hJ1 hJ2 hjl hjp
    have hcV := Lib.hid fun wx (hx : Below W6.heap.size W6 wx) => implSMV_any pr pc Ax cx _ W6.heap.size ps pr pc Bx dx _ W6.heap.size qs wx ((Rx_6.out.sl1.more (show W2.heap.size ≤ W6.heap.size by omega)).below hx (Nat.le_refl _)) hx.size rfl (by omega) ((Rx_6.out.sl2.more (show W2.heap.size ≤ W6.heap.size by omega)).below hx (Nat.le_refl _)) hx.size rfl (by omega) true ⟨fun _ => HV.out, fun _ => rfl⟩
    have hcP := Lib.hid fun wx (hx : Below W6.heap.size W6 wx) => implJoin_yes pr pc Ax cx _ W6.heap.size ps Bx dx _ W6.heap.size qs wx ((Rx_6.out.sl1.more (show W2.heap.size ≤ W6.heap.size by omega)).below hx (Nat.le_refl _)) hx.size rfl ((Rx_6.out.sl2.more (show W2.heap.size ≤ W6.heap.size by omega)).below hx (Nat.le_refl _)) hx.size rfl HJ.out.2.2.1 HJ.out.2.2.2
    have hcQ := Lib.hid fun wx (hx : Below W6.heap.size W6 wx) => implJoin_yes pr pc Am cm _ W6.heap.size zs Bm dm _ W6.heap.size ks wx ((Rm_6.out.sl_now.more (show W0.heap.size ≤ W6.heap.size by omega)).below hx (Nat.le_refl _)) hx.size rfl ((Rn_6.out.sl_now.more (show W0.heap.size ≤ W6.heap.size by omega)).below hx (Nat.le_refl _)) hx.size rfl HJ.out.1 HJ.out.2.1
    rw [HNN.out.2] at hcP
    rw [HNN.out.1] at hcQ
    have HMK := Lib.hid fun w' (hx : Below W6.heap.size W6 w') => (show (w'.cell? ⟨W2.heap.size, 0, none⟩ = some (.int .i64 pr) ∧ w'.cell? ⟨W2.heap.size, 1, none⟩ = some (.int .i64 pc) ∧ w'.cell? ⟨W2.heap.size, 2, none⟩ = some (.slice Ax ps.length cx) ∧ w'.cell? ⟨W2.heap.size, 3, none⟩ = some (.int .i64 pr) ∧ w'.cell? ⟨W2.heap.size, 4, none⟩ = some (.int .i64 pc) ∧ w'.cell? ⟨W2.heap.size, 5, none⟩ = some (.slice Bx qs.length dx)) ∧ (w'.cell? ⟨W0.heap.size, 0, none⟩ = some (.int .i64 pr) ∧ w'.cell? ⟨W0.heap.size, 1, none⟩ = some (.int .i64 pc) ∧ w'.cell? ⟨W0.heap.size, 2, none⟩ = some (.slice Am zs.length cm) ∧ w'.cell? ⟨W0.heap.size, 3, none⟩ = some (.int .i64 pr) ∧ w'.cell? ⟨W0.heap.size, 4, none⟩ = some (.int .i64 pc) ∧ w'.cell? ⟨W0.heap.size, 5, none⟩ = some (.slice Bm ks.length dm)) from (by have h6 := K6_6.out.below hx (show W2.heap.size < W6.heap.size by omega); have h3 := K3_6.out.below hx (show W0.heap.size < W6.heap.size by omega); exact ⟨⟨h6.c0, h6.c1, h6.c2, h6.c3, h6.c4, h6.c5⟩, ⟨h3.c0, h3.c1, h3.c2, h3.c3, h3.c4, h3.c5⟩⟩))
    have hcur : Below W6.heap.size W6 W6.drew := Below.of_drew _
    obtain ⟨x30, x31, x32, x33, x34, x35, xf30, xf31, xf32, xf33, xf34, xf35, x3lt⟩ := K3_6.out
    obtain ⟨x60, x61, x62, x63, x64, x65, xf60, xf61, xf62, xf63, xf64, xf65, x6lt⟩ := K6_6.out
    obtain ⟨x80, x81, x82, x83, x84, x85, xf80, xf81, xf82, xf83, xf84, xf85, x8lt⟩ := K8_6.out
    go_wp2
    go_region_held3 (fun w' => (w'.cell? ⟨W2.heap.size, 0, none⟩ = some (.int .i64 pr) ∧ w'.cell? ⟨W2.heap.size, 1, none⟩ = some (.int .i64 pc) ∧ w'.cell? ⟨W2.heap.size, 2, none⟩ = some (.slice Ax ps.length cx) ∧ w'.cell? ⟨W2.heap.size, 3, none⟩ = some (.int .i64 pr) ∧ w'.cell? ⟨W2.heap.size, 4, none⟩ = some (.int .i64 pc) ∧ w'.cell? ⟨W2.heap.size, 5, none⟩ = some (.slice Bx qs.length dx)) ∧ (w'.cell? ⟨W0.heap.size, 0, none⟩ = some (.int .i64 pr) ∧ w'.cell? ⟨W0.heap.size, 1, none⟩ = some (.int .i64 pc) ∧ w'.cell? ⟨W0.heap.size, 2, none⟩ = some (.slice Am zs.length cm) ∧ w'.cell? ⟨W0.heap.size, 3, none⟩ = some (.int .i64 pr) ∧ w'.cell? ⟨W0.heap.size, 4, none⟩ = some (.int .i64 pc) ∧ w'.cell? ⟨W0.heap.size, 5, none⟩ = some (.slice Bm ks.length dm)))
      (first | with_reducible exact HMK.out _ hcur | fail)
      (first
        | (go_simp; go_at_call 35; (with_reducible refine (hcV.out W6.drew hcur).mono ?_); rintro e Wv ⟨rfl, hbv⟩; have hcur := hcur.trans (hbv.mono hcur.size))
        | (go_simp; go_at_call 36; (with_reducible refine (hcP.out Wv hcur).mono ?_); clear hcP; rintro e Wp ⟨svp, rfl, hrp, hbp⟩; obtain ⟨Ap, cp, rfl, _, _, _⟩ := hrp.form; have hcur := hcur.trans (hbp.mono hcur.size); have hsp := hrp.sl_now)
        | (go_simp; go_at_call 36; (with_reducible refine (hcQ.out Wp hcur).mono ?_); rintro e Wq ⟨svq, rfl, hrq, hbq⟩; obtain ⟨Aj, cj, rfl, hqc1, hqc2, _⟩ := hrq.form; have hcur := hcur.trans (hbq.mono hcur.size); have hsp := (hsp.below hbq (Nat.le_refl _)).more hbq.size; have hsq := hrq.sl_now)
        | (go_simp; go_at_call 18; (with_reducible refine (implOrd_any pr pc Aj cj _ Wq.heap.size J1 Ao co _ W0.heap.size os Wq hsq (Nat.le_refl _) rfl (by omega) (So_6.out.below hcur (show W0.heap.size ≤ W6.heap.size by omega)) (Nat.le_trans (show W0.heap.size ≤ W6.heap.size by omega) hcur.size) rfl (by omega) hqc1 hqc2).mono ?_); rintro e Ws ⟨svs, rfl, hrs, hbs⟩; rw [HE.out.1, HE.out.2.1]; rw [HE.out.2.2] at hrs; obtain ⟨Ar, cr, rfl, _, _, _⟩ := hrs.form; have hcur := hcur.trans (hbs.mono hcur.size); have hsp := (hsp.below hbs (Nat.le_refl _)).more hbs.size)
        | (go_simp; go_at_call 24; (with_reducible refine (sameM_same pr pc Ap Ar cp cr J2 Ws hsp hrs.sl_now (by omega)).mono ?_); rintro e Wb ⟨rfl, hbb⟩; have hcur := hcur.trans (hbb.mono hcur.size))
        | fail)
    clear x30 x31 x32 x33 x34 x35 xf30 xf31 xf32 xf33 xf34 xf35 x3lt x60 x61 x62 x63 x64 x65 xf60 xf61 xf62 xf63 xf64 xf65 x6lt x80 x81 x82 x83 x84 x85 xf80 xf81 xf82 xf83 xf84 xf85 x8lt
    obtain ⟨W7, hWn⟩ : ∃ W, W = Wb := ⟨_, rfl⟩
    subst hWn
    clear HMK hbv hrp hbp hrq hbq hrs hbs hbb
    have s7 := hcur.size
    have K3_7 := Lib.hid (K3_6.out.below hcur (show W0.heap.size < W6.heap.size by omega))
    have K6_7 := Lib.hid (K6_6.out.below hcur (show W2.heap.size < W6.heap.size by omega))
    have K8_7 := Lib.hid (K8_6.out.below hcur (show W4.heap.size < W6.heap.size by omega))
    have Rm_7 := Lib.hid (Rm_6.out.below hcur (show W0.heap.size ≤ W6.heap.size by omega))
    have Rn_7 := Lib.hid (Rn_6.out.below hcur (show W0.heap.size ≤ W6.heap.size by omega))
    have Rx_7 := Lib.hid (Rx_6.out.below hcur (show W2.heap.size ≤ W6.heap.size by omega))
    have Ry_7 := Lib.hid (Ry_6.out.below hcur (show W4.heap.size ≤ W6.heap.size by omega))
    have So_7 := Lib.hid (So_6.out.below hcur (show W0.heap.size ≤ W6.heap.size by omega))
    have HB_7 := Lib.hid (HB_6.out.trans (hcur.mono (show w.heap.size ≤ W6.heap.size by omega)))
    clear K3_6 K6_6 K8_6 Rm_6 Rn_6 Rx_6 Ry_6 So_6 HB_6 hcur
    obtain ⟨x30, x31, x32, x33, x34, x35, xf30, xf31, xf32, xf33, xf34, xf35, x3lt⟩ := K3_7.out
    obtain ⟨x60, x61, x62, x63, x64, x65, xf60, xf61, xf62, xf63, xf64, xf65, x6lt⟩ := K6_7.out
    obtain ⟨x80, x81, x82, x83, x84, x85, xf80, xf81, xf82, xf83, xf84, xf85, x8lt⟩ := K8_7.out
    go_wp2
    go_ret
    exact ⟨rfl, HB_7.out⟩
  · skip
    have e1 : pr = 0 := by rw [← HP.out.1]; unfold osR; rw [if_neg hok]
    have e2 : pn = 0 := by rw [← HP.out.2.2.2.2]; unfold osN; rw [if_neg hok]
    subst e1 e2
    clear hok HP
    obtain ⟨x30, x31, x32, x33, x34, x35, xf30, xf31, xf32, xf33, xf34, xf35, x3lt⟩ := K3_6.out
    obtain ⟨x60, x61, x62, x63, x64, x65, xf60, xf61, xf62, xf63, xf64, xf65, x6lt⟩ := K6_6.out
    obtain ⟨x80, x81, x82, x83, x84, x85, xf80, xf81, xf82, xf83, xf84, xf85, x8lt⟩ := K8_6.out
    go_wp2_with fail
    refine (alive_any _).mono ?_
    rintro e w' ⟨rfl, rfl⟩
    go_wp2
    go_ret
    exact ⟨rfl, HB_6.out⟩
end Go.Proofs.Ytilmglockldddaa
