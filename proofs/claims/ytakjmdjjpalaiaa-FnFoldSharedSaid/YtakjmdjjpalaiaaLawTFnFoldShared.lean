/- The walk of the law FnFoldShared. (Printed by gen_LawT.py.) -/
import Derived.Test.YtakjmdjjpalaiaaFnsS4
import Derived.Test.YtakjmdjjpalaiaaDrawS2
import Derived.Deep.RegionHeld3
namespace Go.Proofs.Ytakjmdjjpalaiaa
open Go.RowKit
theorem okM_add {r c : Int} {zs ks : List Int} (h1 : OkM r c zs) (h2 : OkM r c ks) : OkM r c (pairZ addF zs ks) := by
  have hl : zs.length = ks.length := by have := h1.2.2.1; have := h2.2.2.1; omega
  refine ⟨h1.1, h1.2.1, by rw [pairZ_len]; exact h1.2.2.1, fun j hj => ?_⟩
  rw [pairZ_get _ _ _ _ (by rw [pairZ_len] at hj; exact hj)]
  unfold addF
  omega
theorem okM_tab {p q : Nat} {L : List Int} (h1 : 1 ≤ p ∧ p ≤ 5) (h2 : 1 ≤ q ∧ q ≤ 5) (hl : L.length = p * q) (hr : ∀ j, 0 ≤ L.getD j 0 ∧ L.getD j 0 ≤ 4095) : OkM (p : Int) (q : Int) L :=
  ⟨by omega, by omega, by rw [hl]; simp, fun j _ => hr j⟩
/-- Folded shares. -/
theorem fld_join {r c kr kc : Int} {zs ks ys : List Int} (h : OkF r c zs kr kc ys) (h2 : OkM r c ks) : fldR r c (pairZ addF zs ks) kr kc ys = fldR r c zs kr kc ys ∧ fldC r c (pairZ addF zs ks) kr kc ys = fldC r c zs kr kc ys ∧ fldZ r c (pairZ addF zs ks) kr kc ys = pairZ addF (fldZ r c zs kr kc ys) (fldZ r c ks kr kc ys) ∧
    OkM (fldR r c zs kr kc ys) (fldC r c zs kr kc ys) (fldZ r c zs kr kc ys) ∧ OkM (fldR r c zs kr kc ys) (fldC r c zs kr kc ys) (fldZ r c ks kr kc ys) := by
  have hk : OkF r c ks kr kc ys := ⟨h2, h.2⟩
  have hj : OkF r c (pairZ addF zs ks) kr kc ys := ⟨okM_add h.1 h2, h.2⟩
  have hl : zs.length = ks.length := by have := h.1.2.2.1; have := h2.2.2.1; omega
  have e1 : ∀ {L : List Int}, OkF r c L kr kc ys → fldR r c L kr kc ys = ((r.toNat - kr.toNat + 1 : Nat) : Int) := fun hL => by unfold fldR; rw [if_pos hL]
  have e2 : ∀ {L : List Int}, OkF r c L kr kc ys → fldC r c L kr kc ys = ((c.toNat - kc.toNat + 1 : Nat) : Int) := fun hL => by unfold fldC; rw [if_pos hL]
  have e3 : ∀ {L : List Int}, OkF r c L kr kc ys → fldZ r c L kr kc ys = foldZ kr.toNat kc.toNat r.toNat c.toNat L ys := fun hL => by unfold fldZ; rw [if_pos hL]
  rw [e1 h, e1 hj, e2 h, e2 hj, e3 h, e3 hj, e3 hk]
  have hr5 := h.1.1
  have hc5 := h.1.2.1
  have hkr5 := h.2.1.1
  have hkc5 := h.2.1.2.1
  have hle := h.2.2
  have hrg : ∀ (L : List Int) (j : Nat), 0 ≤ (foldZ kr.toNat kc.toNat r.toNat c.toNat L ys).getD j 0 ∧ (foldZ kr.toNat kc.toNat r.toNat c.toNat L ys).getD j 0 ≤ 4095 := fun L j => by
    have := tab_rng (r := r.toNat - kr.toNat + 1) (c := c.toNat - kc.toNat + 1) (f := fun a b => foldS kr.toNat kc.toNat c.toNat L ys a b (kr.toNat * kc.toNat) % 4096) (fun a b _ _ => by omega)
    exact getD_rng this j
  refine ⟨rfl, rfl, ?_, okM_tab ⟨by omega, by omega⟩ ⟨by omega, by omega⟩ (by rw [foldZ, tab_len]) (hrg zs), okM_tab ⟨by omega, by omega⟩ ⟨by omega, by omega⟩ (by rw [foldZ, tab_len]) (hrg ks)⟩
  exact (fold_add kr.toNat kc.toNat r.toNat c.toNat zs ks ys hl).symm
set_option maxRecDepth 20000 in
set_option maxHeartbeats 6400000 in
theorem law_FnFoldShared (w : World) (A : Option Addr) (n c : Nat) (h0 : Code8 w A n ∧ n ≤ c ∧ c ≤ maxLen) :
    Calls Try.prog 12 #[.slice A n c] w fun e w' => e = .returned (.bool true) ∧ Below w.heap.size w w' := by
  obtain ⟨hc, hnc, hcm⟩ := h0
  have hcm' := hcm
  unfold maxLen at hcm'
  by_cases hn : 1048576 < n
  · go_enter Try.func12, Try.ntmps12
    go_wp2
    go_ret
    exact ⟨rfl, Below.refl _ _⟩
  have hd1 : decide ((1048576 : Int) < (n : Int)) = false := by simp; omega
  go_enter Try.func12, Try.ntmps12
  go_wp2_with fail
  refine (drawFS A n c w (by omega) hnc hcm hc).mono ?_
  rintro e W0 ⟨r, cc, sm, zs, r2, c2, sn, ks, kr, kc, sk, ys, rfl, hra, hrb, hrk, zl, kl, yl, hb⟩
  obtain ⟨Am, cm, rfl, hcp1, hcp2, _⟩ := hra.form
  have HCPAm := Lib.hid (And.intro hcp1 hcp2)
  clear hcp1 hcp2
  obtain ⟨Bm, dm, rfl, hcp1, hcp2, _⟩ := hrb.form
  have HCPBm := Lib.hid (And.intro hcp1 hcp2)
  clear hcp1 hcp2
  obtain ⟨Ck, ek, rfl, hcp1, hcp2, _⟩ := hrk.form
  have HCPCk := Lib.hid (And.intro hcp1 hcp2)
  clear hcp1 hcp2
  have s0 := hb.size
  have HB_0 := Lib.hid hb
  have Rm_0 := Lib.hid hra
  have Rn_0 := Lib.hid hrb
  have Rk_0 := Lib.hid hrk
  clear hb hc hra hrb hrk
  obtain ⟨pr, hpr⟩ : ∃ x, shfR r cc zs r2 c2 ks kr kc ys = x := ⟨_, rfl⟩
  obtain ⟨pc, hpc⟩ : ∃ x, shfC r cc zs r2 c2 ks kr kc ys = x := ⟨_, rfl⟩
  obtain ⟨ps, hps⟩ : ∃ x, shfZ r cc zs r2 c2 ks kr kc ys = x := ⟨_, rfl⟩
  obtain ⟨qs, hqs⟩ : ∃ x, shfK r cc zs r2 c2 ks kr kc ys = x := ⟨_, rfl⟩
  have hpl := shfZ_len r cc zs r2 c2 ks kr kc ys (by omega) (by omega) (by omega)
  rw [hps, hqs] at hpl
  have HP := Lib.hid (And.intro hpr (And.intro hpc (And.intro hps hqs)))
  clear hpr hpc hps hqs
  have kn := (Cell6.new W0 (.int .i64 r) (.int .i64 cc) (.slice Am zs.length cm) (.int .i64 r2) (.int .i64 c2) (.slice Bm ks.length dm) 43).alloc (.cells #[.int .i64 kr, .int .i64 kc, .slice Ck ys.length ek] 26)
  have kn2 := Cell3.new (W0.alloc (.cells #[.int .i64 r, .int .i64 cc, .slice Am zs.length cm, .int .i64 r2, .int .i64 c2, .slice Bm ks.length dm] 43)) (.int .i64 kr) (.int .i64 kc) (.slice Ck ys.length ek) 26
  simp only [World.size_alloc] at kn2
  obtain ⟨W1, hW1⟩ : ∃ W, (W0.alloc (.cells #[.int .i64 r, .int .i64 cc, .slice Am zs.length cm, .int .i64 r2, .int .i64 c2, .slice Bm ks.length dm] 43)).alloc (.cells #[.int .i64 kr, .int .i64 kc, .slice Ck ys.length ek] 26) = W := ⟨_, rfl⟩
  rw [hW1] at kn kn2
  have z1 : W1.heap.size = W0.heap.size + 2 := by rw [← hW1]; simp
  have hal : Below W0.heap.size W0 W1 := hW1 ▸ ((Below.refl _ _).alloc (Nat.le_refl _) _).alloc (by simp) _
  have s1 := hal.size
  have Rm_1 := Lib.hid (Rm_0.out.below hal (show W0.heap.size ≤ W0.heap.size by omega))
  have Rn_1 := Lib.hid (Rn_0.out.below hal (show W0.heap.size ≤ W0.heap.size by omega))
  have Rk_1 := Lib.hid (Rk_0.out.below hal (show W0.heap.size ≤ W0.heap.size by omega))
  have HB_1 := Lib.hid (HB_0.out.trans (hal.mono (show w.heap.size ≤ W0.heap.size by omega)))
  clear Rm_0 Rn_0 Rk_0 HB_0 hal
  have K3_1 := Lib.hid kn
  have K4_1 := Lib.hid kn2
  clear kn kn2
  obtain ⟨x30, x31, x32, x33, x34, x35, xf30, xf31, xf32, xf33, xf34, xf35, x3lt⟩ := K3_1.out
  obtain ⟨x40, x41, x42, xf40, xf41, xf42, x4lt⟩ := K4_1.out
  go_wp2_with fail
  refine (implSF_any r cc Am cm _ W1.heap.size zs r2 c2 Bm dm _ W1.heap.size ks kr kc Ck ek _ W1.heap.size ys W1 (Rm_1.out.sl_now.more (show W0.heap.size ≤ W1.heap.size by omega)) (Nat.le_refl _) rfl (by omega) (Rn_1.out.sl_now.more (show W0.heap.size ≤ W1.heap.size by omega)) (Nat.le_refl _) rfl (by omega) (Rk_1.out.sl_now.more (show W0.heap.size ≤ W1.heap.size by omega)) (Nat.le_refl _) rfl (by omega) HCPCk.out.1 HCPCk.out.2 HCPAm.out.1 HCPAm.out.2 HCPBm.out.1 HCPBm.out.2).mono ?_
  rintro e W2 ⟨sv2, tv2, rfl, hr, hb⟩
  rw [HP.out.1, HP.out.2.1]
  rw [HP.out.2.2.1, HP.out.2.2.2] at hr
  obtain ⟨Ax, cx, Bx, dx, rfl, rfl, hcp1, hcp2⟩ := hr.form
  have HCPx := Lib.hid (And.intro hcp1 hcp2)
  clear hcp1 hcp2
  clear x30 x31 x32 x33 x34 x35 xf30 xf31 xf32 xf33 xf34 xf35 x3lt x40 x41 x42 xf40 xf41 xf42 x4lt
  have s2 := hb.size
  have K3_2 := Lib.hid (K3_1.out.below hb (show W0.heap.size < W1.heap.size by omega))
  have K4_2 := Lib.hid (K4_1.out.below hb (show W0.heap.size + 1 < W1.heap.size by omega))
  have Rm_2 := Lib.hid (Rm_1.out.below hb (show W0.heap.size ≤ W1.heap.size by omega))
  have Rn_2 := Lib.hid (Rn_1.out.below hb (show W0.heap.size ≤ W1.heap.size by omega))
  have Rk_2 := Lib.hid (Rk_1.out.below hb (show W0.heap.size ≤ W1.heap.size by omega))
  have HB_2 := Lib.hid (HB_1.out.trans (hb.mono (show w.heap.size ≤ W1.heap.size by omega)))
  clear K3_1 K4_1 Rm_1 Rn_1 Rk_1 HB_1 hb
  have Rx_2 := Lib.hid hr
  clear hr
  have kn := Cell6.new W2 (.int .i64 pr) (.int .i64 pc) (.slice Ax ps.length cx) (.int .i64 pr) (.int .i64 pc) (.slice Bx qs.length dx) 43
  obtain ⟨W3, hW3⟩ : ∃ W, W2.alloc (.cells #[.int .i64 pr, .int .i64 pc, .slice Ax ps.length cx, .int .i64 pr, .int .i64 pc, .slice Bx qs.length dx] 43) = W := ⟨_, rfl⟩
  rw [hW3] at kn
  have z3 : W3.heap.size = W2.heap.size + 1 := by rw [← hW3]; simp
  have hal : Below W2.heap.size W2 W3 := hW3 ▸ (Below.refl _ _).alloc (Nat.le_refl _) _
  have s3 := hal.size
  have K3_3 := Lib.hid (K3_2.out.below hal (show W0.heap.size < W2.heap.size by omega))
  have K4_3 := Lib.hid (K4_2.out.below hal (show W0.heap.size + 1 < W2.heap.size by omega))
  have Rm_3 := Lib.hid (Rm_2.out.below hal (show W0.heap.size ≤ W2.heap.size by omega))
  have Rn_3 := Lib.hid (Rn_2.out.below hal (show W0.heap.size ≤ W2.heap.size by omega))
  have Rk_3 := Lib.hid (Rk_2.out.below hal (show W0.heap.size ≤ W2.heap.size by omega))
  have Rx_3 := Lib.hid (Rx_2.out.below hal (show W2.heap.size ≤ W2.heap.size by omega))
  have HB_3 := Lib.hid (HB_2.out.trans (hal.mono (show w.heap.size ≤ W2.heap.size by omega)))
  clear K3_2 K4_2 Rm_2 Rn_2 Rk_2 Rx_2 HB_2 hal
  have K5_3 := Lib.hid kn
  clear kn
  have HMK := Lib.hid fun w' (hx : Below W3.heap.size W3 w') => (show (w'.cell? ⟨W2.heap.size, 0, none⟩ = some (.int .i64 pr) ∧ w'.cell? ⟨W2.heap.size, 1, none⟩ = some (.int .i64 pc) ∧ w'.cell? ⟨W2.heap.size, 2, none⟩ = some (.slice Ax ps.length cx) ∧ w'.cell? ⟨W2.heap.size, 3, none⟩ = some (.int .i64 pr) ∧ w'.cell? ⟨W2.heap.size, 4, none⟩ = some (.int .i64 pc) ∧ w'.cell? ⟨W2.heap.size, 5, none⟩ = some (.slice Bx qs.length dx)) ∧ (w'.cell? ⟨W0.heap.size, 0, none⟩ = some (.int .i64 r) ∧ w'.cell? ⟨W0.heap.size, 1, none⟩ = some (.int .i64 cc) ∧ w'.cell? ⟨W0.heap.size, 2, none⟩ = some (.slice Am zs.length cm) ∧ w'.cell? ⟨W0.heap.size, 3, none⟩ = some (.int .i64 r2) ∧ w'.cell? ⟨W0.heap.size, 4, none⟩ = some (.int .i64 c2) ∧ w'.cell? ⟨W0.heap.size, 5, none⟩ = some (.slice Bm ks.length dm)) ∧ (w'.cell? ⟨W0.heap.size + 1, 0, none⟩ = some (.int .i64 kr) ∧ w'.cell? ⟨W0.heap.size + 1, 1, none⟩ = some (.int .i64 kc) ∧ w'.cell? ⟨W0.heap.size + 1, 2, none⟩ = some (.slice Ck ys.length ek)) from (by have h5 := K5_3.out.below hx (show W2.heap.size < W3.heap.size by omega); have h3 := K3_3.out.below hx (show W0.heap.size < W3.heap.size by omega); have h4 := K4_3.out.below hx (show W0.heap.size + 1 < W3.heap.size by omega); exact ⟨⟨h5.c0, h5.c1, h5.c2, h5.c3, h5.c4, h5.c5⟩, ⟨h3.c0, h3.c1, h3.c2, h3.c3, h3.c4, h3.c5⟩, ⟨h4.c0, h4.c1, h4.c2⟩⟩))
  have hcur : Below W3.heap.size W3 W3.drew := Below.of_drew _
  obtain ⟨x30, x31, x32, x33, x34, x35, xf30, xf31, xf32, xf33, xf34, xf35, x3lt⟩ := K3_3.out
  obtain ⟨x40, x41, x42, xf40, xf41, xf42, x4lt⟩ := K4_3.out
  obtain ⟨x50, x51, x52, x53, x54, x55, xf50, xf51, xf52, xf53, xf54, xf55, x5lt⟩ := K5_3.out
  go_wp2
  go_region_held3 (fun w' => (w'.cell? ⟨W2.heap.size, 0, none⟩ = some (.int .i64 pr) ∧ w'.cell? ⟨W2.heap.size, 1, none⟩ = some (.int .i64 pc) ∧ w'.cell? ⟨W2.heap.size, 2, none⟩ = some (.slice Ax ps.length cx) ∧ w'.cell? ⟨W2.heap.size, 3, none⟩ = some (.int .i64 pr) ∧ w'.cell? ⟨W2.heap.size, 4, none⟩ = some (.int .i64 pc) ∧ w'.cell? ⟨W2.heap.size, 5, none⟩ = some (.slice Bx qs.length dx)) ∧ (w'.cell? ⟨W0.heap.size, 0, none⟩ = some (.int .i64 r) ∧ w'.cell? ⟨W0.heap.size, 1, none⟩ = some (.int .i64 cc) ∧ w'.cell? ⟨W0.heap.size, 2, none⟩ = some (.slice Am zs.length cm) ∧ w'.cell? ⟨W0.heap.size, 3, none⟩ = some (.int .i64 r2) ∧ w'.cell? ⟨W0.heap.size, 4, none⟩ = some (.int .i64 c2) ∧ w'.cell? ⟨W0.heap.size, 5, none⟩ = some (.slice Bm ks.length dm)) ∧ (w'.cell? ⟨W0.heap.size + 1, 0, none⟩ = some (.int .i64 kr) ∧ w'.cell? ⟨W0.heap.size + 1, 1, none⟩ = some (.int .i64 kc) ∧ w'.cell? ⟨W0.heap.size + 1, 2, none⟩ = some (.slice Ck ys.length ek)))
    (first | with_reducible exact HMK.out _ hcur | fail)
    (first
      | (go_simp; go_at_call 46; (with_reducible refine (specSF_any r cc Am cm _ W3.heap.size zs r2 c2 Bm dm _ W3.heap.size ks kr kc Ck ek _ W3.heap.size ys W3.drew ((Rm_3.out.sl_now.more (show W0.heap.size ≤ W3.heap.size by omega)).below hcur (Nat.le_refl _)) hcur.size rfl (by omega) ((Rn_3.out.sl_now.more (show W0.heap.size ≤ W3.heap.size by omega)).below hcur (Nat.le_refl _)) hcur.size rfl (by omega) ((Rk_3.out.sl_now.more (show W0.heap.size ≤ W3.heap.size by omega)).below hcur (Nat.le_refl _)) hcur.size rfl (by omega)).mono ?_); rintro e Wa ⟨sva, tva, rfl, hra, hba⟩; rw [HP.out.1, HP.out.2.1]; rw [HP.out.2.2.1, HP.out.2.2.2] at hra; obtain ⟨Aq, cq, Bq, dq, rfl, rfl, _, _⟩ := hra.form; have hcur := hcur.trans (hba.mono hcur.size))
      | (go_simp; go_at_call 38; (with_reducible refine (sameS_same pr pc Ax Aq cx cq ps pr pc Bx Bq dx dq qs Wa (((Rx_3.out.sl1.more (show W2.heap.size ≤ W3.heap.size by omega)).below hcur (Nat.le_refl _)).more hcur.size) hra.sl1 (((Rx_3.out.sl2.more (show W2.heap.size ≤ W3.heap.size by omega)).below hcur (Nat.le_refl _)).more hcur.size) hra.sl2 (by omega) (by omega)).mono ?_); rintro e Wb ⟨rfl, hbb⟩; have hcur := hcur.trans (hbb.mono hcur.size))
      | fail)
  clear x30 x31 x32 x33 x34 x35 xf30 xf31 xf32 xf33 xf34 xf35 x3lt x40 x41 x42 xf40 xf41 xf42 x4lt x50 x51 x52 x53 x54 x55 xf50 xf51 xf52 xf53 xf54 xf55 x5lt
  obtain ⟨W4, hWn⟩ : ∃ W, W = Wb := ⟨_, rfl⟩
  subst hWn
  clear HMK hra hba hbb
  have s4 := hcur.size
  have K3_4 := Lib.hid (K3_3.out.below hcur (show W0.heap.size < W3.heap.size by omega))
  have K4_4 := Lib.hid (K4_3.out.below hcur (show W0.heap.size + 1 < W3.heap.size by omega))
  have K5_4 := Lib.hid (K5_3.out.below hcur (show W2.heap.size < W3.heap.size by omega))
  have Rm_4 := Lib.hid (Rm_3.out.below hcur (show W0.heap.size ≤ W3.heap.size by omega))
  have Rn_4 := Lib.hid (Rn_3.out.below hcur (show W0.heap.size ≤ W3.heap.size by omega))
  have Rk_4 := Lib.hid (Rk_3.out.below hcur (show W0.heap.size ≤ W3.heap.size by omega))
  have Rx_4 := Lib.hid (Rx_3.out.below hcur (show W2.heap.size ≤ W3.heap.size by omega))
  have HB_4 := Lib.hid (HB_3.out.trans (hcur.mono (show w.heap.size ≤ W3.heap.size by omega)))
  clear K3_3 K4_3 K5_3 Rm_3 Rn_3 Rk_3 Rx_3 HB_3 hcur
  by_cases hok : OkS r cc zs r2 c2 ks ∧ OkF r cc zs kr kc ys
  · skip
    obtain ⟨hos, hob⟩ := hok
    obtain ⟨hm1, hm2, rfl, rfl⟩ := id hos
    obtain ⟨j1, j2, j3, j4, j5⟩ := fld_join hob hm2
    have eR : pr = fldR r cc zs kr kc ys := by rw [← HP.out.1]; unfold shfR; rw [if_pos hos]
    have eC : pc = fldC r cc zs kr kc ys := by rw [← HP.out.2.1]; unfold shfC; rw [if_pos hos]
    have eZ : ps = fldZ r cc zs kr kc ys := by rw [← HP.out.2.2.1]; unfold shfZ; rw [if_pos hos]
    have eK : qs = fldZ r cc ks kr kc ys := by rw [← HP.out.2.2.2]; unfold shfK; rw [if_pos hos]
    rw [← eR, ← eC, ← eZ] at j4
    rw [← eR, ← eC, ← eK] at j5
    rw [← eR] at j1
    rw [← eC] at j2
    rw [← eZ, ← eK] at j3
    have HV := Lib.hid (show OkS pr pc ps pr pc qs from ⟨j4, j5, rfl, rfl⟩)
    have HJ := Lib.hid (And.intro hm1 (And.intro hm2 (And.intro j4 j5)))
    have HE := Lib.hid (And.intro j1 (And.intro j2 j3))
    have hjl := pairZ_len addF zs ks
    have hjp := pairZ_len addF ps qs
    obtain ⟨J1, hJ1⟩ : ∃ J, pairZ addF zs ks = J := ⟨_, rfl⟩
    obtain ⟨J2, hJ2⟩ : ∃ J, pairZ addF ps qs = J := ⟨_, rfl⟩
    rw [hJ1] at HE hjl
    rw [hJ2] at HE hjp
    have hjl' : J1.length ≤ 1048576 := by omega
    have hjp' : J2.length ≤ 1048576 := by omega
    have HN := Lib.hid (And.intro hJ1 hJ2)
    clear hos hob hm1 hm2 j1 j2 j3 j4 j5 eR eC eZ eK hJ1 hJ2 hjl hjp
    obtain ⟨x30, x31, x32, x33, x34, x35, xf30, xf31, xf32, xf33, xf34, xf35, x3lt⟩ := K3_4.out
    obtain ⟨x40, x41, x42, xf40, xf41, xf42, x4lt⟩ := K4_4.out
    obtain ⟨x50, x51, x52, x53, x54, x55, xf50, xf51, xf52, xf53, xf54, xf55, x5lt⟩ := K5_4.out
    go_wp2_with fail
    refine (implSMV_any pr pc Ax cx _ W4.heap.size ps pr pc Bx dx _ W4.heap.size qs W4 (Rx_4.out.sl1.more (show W2.heap.size ≤ W4.heap.size by omega)) (Nat.le_refl _) rfl (by omega) (Rx_4.out.sl2.more (show W2.heap.size ≤ W4.heap.size by omega)) (Nat.le_refl _) rfl (by omega) true ⟨fun _ => HV.out, fun _ => rfl⟩).mono ?_
    rintro e W5 ⟨rfl, hb⟩
    clear x30 x31 x32 x33 x34 x35 xf30 xf31 xf32 xf33 xf34 xf35 x3lt x40 x41 x42 xf40 xf41 xf42 x4lt x50 x51 x52 x53 x54 x55 xf50 xf51 xf52 xf53 xf54 xf55 x5lt
    have s5 := hb.size
    have K3_5 := Lib.hid (K3_4.out.below hb (show W0.heap.size < W4.heap.size by omega))
    have K4_5 := Lib.hid (K4_4.out.below hb (show W0.heap.size + 1 < W4.heap.size by omega))
    have K5_5 := Lib.hid (K5_4.out.below hb (show W2.heap.size < W4.heap.size by omega))
    have Rm_5 := Lib.hid (Rm_4.out.below hb (show W0.heap.size ≤ W4.heap.size by omega))
    have Rn_5 := Lib.hid (Rn_4.out.below hb (show W0.heap.size ≤ W4.heap.size by omega))
    have Rk_5 := Lib.hid (Rk_4.out.below hb (show W0.heap.size ≤ W4.heap.size by omega))
    have Rx_5 := Lib.hid (Rx_4.out.below hb (show W2.heap.size ≤ W4.heap.size by omega))
    have HB_5 := Lib.hid (HB_4.out.trans (hb.mono (show w.heap.size ≤ W4.heap.size by omega)))
    clear K3_4 K4_4 K5_4 Rm_4 Rn_4 Rk_4 Rx_4 HB_4 hb
    have hcP := Lib.hid fun wx (hx : Below W5.heap.size W5 wx) => implJoin_yes pr pc Ax cx _ W5.heap.size ps Bx dx _ W5.heap.size qs wx ((Rx_5.out.sl1.more (show W2.heap.size ≤ W5.heap.size by omega)).below hx (Nat.le_refl _)) hx.size rfl ((Rx_5.out.sl2.more (show W2.heap.size ≤ W5.heap.size by omega)).below hx (Nat.le_refl _)) hx.size rfl HJ.out.2.2.1 HJ.out.2.2.2
    have hcQ := Lib.hid fun wx (hx : Below W5.heap.size W5 wx) => implJoin_yes r cc Am cm _ W5.heap.size zs Bm dm _ W5.heap.size ks wx ((Rm_5.out.sl_now.more (show W0.heap.size ≤ W5.heap.size by omega)).below hx (Nat.le_refl _)) hx.size rfl ((Rn_5.out.sl_now.more (show W0.heap.size ≤ W5.heap.size by omega)).below hx (Nat.le_refl _)) hx.size rfl HJ.out.1 HJ.out.2.1
    rw [HN.out.2] at hcP
    rw [HN.out.1] at hcQ
    have HMK := Lib.hid fun w' (hx : Below W5.heap.size W5 w') => (show (w'.cell? ⟨W2.heap.size, 0, none⟩ = some (.int .i64 pr) ∧ w'.cell? ⟨W2.heap.size, 1, none⟩ = some (.int .i64 pc) ∧ w'.cell? ⟨W2.heap.size, 2, none⟩ = some (.slice Ax ps.length cx) ∧ w'.cell? ⟨W2.heap.size, 3, none⟩ = some (.int .i64 pr) ∧ w'.cell? ⟨W2.heap.size, 4, none⟩ = some (.int .i64 pc) ∧ w'.cell? ⟨W2.heap.size, 5, none⟩ = some (.slice Bx qs.length dx)) ∧ (w'.cell? ⟨W0.heap.size, 0, none⟩ = some (.int .i64 r) ∧ w'.cell? ⟨W0.heap.size, 1, none⟩ = some (.int .i64 cc) ∧ w'.cell? ⟨W0.heap.size, 2, none⟩ = some (.slice Am zs.length cm) ∧ w'.cell? ⟨W0.heap.size, 3, none⟩ = some (.int .i64 r) ∧ w'.cell? ⟨W0.heap.size, 4, none⟩ = some (.int .i64 cc) ∧ w'.cell? ⟨W0.heap.size, 5, none⟩ = some (.slice Bm ks.length dm)) ∧ (w'.cell? ⟨W0.heap.size + 1, 0, none⟩ = some (.int .i64 kr) ∧ w'.cell? ⟨W0.heap.size + 1, 1, none⟩ = some (.int .i64 kc) ∧ w'.cell? ⟨W0.heap.size + 1, 2, none⟩ = some (.slice Ck ys.length ek)) from (by have h5 := K5_5.out.below hx (show W2.heap.size < W5.heap.size by omega); have h3 := K3_5.out.below hx (show W0.heap.size < W5.heap.size by omega); have h4 := K4_5.out.below hx (show W0.heap.size + 1 < W5.heap.size by omega); exact ⟨⟨h5.c0, h5.c1, h5.c2, h5.c3, h5.c4, h5.c5⟩, ⟨h3.c0, h3.c1, h3.c2, h3.c3, h3.c4, h3.c5⟩, ⟨h4.c0, h4.c1, h4.c2⟩⟩))
    have hcur : Below W5.heap.size W5 W5.drew := Below.of_drew _
    obtain ⟨x30, x31, x32, x33, x34, x35, xf30, xf31, xf32, xf33, xf34, xf35, x3lt⟩ := K3_5.out
    obtain ⟨x40, x41, x42, xf40, xf41, xf42, x4lt⟩ := K4_5.out
    obtain ⟨x50, x51, x52, x53, x54, x55, xf50, xf51, xf52, xf53, xf54, xf55, x5lt⟩ := K5_5.out
    go_wp2
    go_region_held3 (fun w' => (w'.cell? ⟨W2.heap.size, 0, none⟩ = some (.int .i64 pr) ∧ w'.cell? ⟨W2.heap.size, 1, none⟩ = some (.int .i64 pc) ∧ w'.cell? ⟨W2.heap.size, 2, none⟩ = some (.slice Ax ps.length cx) ∧ w'.cell? ⟨W2.heap.size, 3, none⟩ = some (.int .i64 pr) ∧ w'.cell? ⟨W2.heap.size, 4, none⟩ = some (.int .i64 pc) ∧ w'.cell? ⟨W2.heap.size, 5, none⟩ = some (.slice Bx qs.length dx)) ∧ (w'.cell? ⟨W0.heap.size, 0, none⟩ = some (.int .i64 r) ∧ w'.cell? ⟨W0.heap.size, 1, none⟩ = some (.int .i64 cc) ∧ w'.cell? ⟨W0.heap.size, 2, none⟩ = some (.slice Am zs.length cm) ∧ w'.cell? ⟨W0.heap.size, 3, none⟩ = some (.int .i64 r) ∧ w'.cell? ⟨W0.heap.size, 4, none⟩ = some (.int .i64 cc) ∧ w'.cell? ⟨W0.heap.size, 5, none⟩ = some (.slice Bm ks.length dm)) ∧ (w'.cell? ⟨W0.heap.size + 1, 0, none⟩ = some (.int .i64 kr) ∧ w'.cell? ⟨W0.heap.size + 1, 1, none⟩ = some (.int .i64 kc) ∧ w'.cell? ⟨W0.heap.size + 1, 2, none⟩ = some (.slice Ck ys.length ek)))
      (first | with_reducible exact HMK.out _ hcur | fail)
      (first
        | (go_simp; go_at_call 40; (with_reducible refine (hcP.out W5.drew hcur).mono ?_); clear hcP; rintro e Wp ⟨svp, rfl, hrp, hbp⟩; obtain ⟨Ap, cp, rfl, _, _, _⟩ := hrp.form; have hcur := hcur.trans (hbp.mono hcur.size); have hsp := hrp.sl_now)
        | (go_simp; go_at_call 40; (with_reducible refine (hcQ.out Wp hcur).mono ?_); rintro e Wq ⟨svq, rfl, hrq, hbq⟩; obtain ⟨Aj, cj, rfl, hqc1, hqc2, _⟩ := hrq.form; have hcur := hcur.trans (hbq.mono hcur.size); have hsp := (hsp.below hbq (Nat.le_refl _)).more hbq.size; have hsq := hrq.sl_now)
        | (go_simp; go_at_call 42; (with_reducible refine (implFold_any r cc Aj cj _ Wq.heap.size J1 kr kc Ck ek _ W5.heap.size ys Wq hsq (Nat.le_refl _) rfl (by omega) ((Rk_5.out.sl_now.more (show W0.heap.size ≤ W5.heap.size by omega)).below hcur (Nat.le_refl _)) hcur.size rfl (by omega) hqc1 hqc2 HCPCk.out.1 HCPCk.out.2).mono ?_); rintro e Ws ⟨svs, rfl, hrs, hbs⟩; rw [HE.out.1, HE.out.2.1]; rw [HE.out.2.2] at hrs; obtain ⟨Ar, cr, rfl, _, _, _⟩ := hrs.form; have hcur := hcur.trans (hbs.mono hcur.size); have hsp := (hsp.below hbs (Nat.le_refl _)).more hbs.size)
        | (go_simp; go_at_call 23; (with_reducible refine (sameM_same pr pc Ap Ar cp cr J2 Ws hsp hrs.sl_now (by omega)).mono ?_); rintro e Wb ⟨rfl, hbb⟩; have hcur := hcur.trans (hbb.mono hcur.size))
        | fail)
    clear x30 x31 x32 x33 x34 x35 xf30 xf31 xf32 xf33 xf34 xf35 x3lt x40 x41 x42 xf40 xf41 xf42 x4lt x50 x51 x52 x53 x54 x55 xf50 xf51 xf52 xf53 xf54 xf55 x5lt
    obtain ⟨W6, hWn⟩ : ∃ W, W = Wb := ⟨_, rfl⟩
    subst hWn
    clear HMK hrp hbp hrq hbq hrs hbs hbb
    have s6 := hcur.size
    have K3_6 := Lib.hid (K3_5.out.below hcur (show W0.heap.size < W5.heap.size by omega))
    have K4_6 := Lib.hid (K4_5.out.below hcur (show W0.heap.size + 1 < W5.heap.size by omega))
    have K5_6 := Lib.hid (K5_5.out.below hcur (show W2.heap.size < W5.heap.size by omega))
    have Rm_6 := Lib.hid (Rm_5.out.below hcur (show W0.heap.size ≤ W5.heap.size by omega))
    have Rn_6 := Lib.hid (Rn_5.out.below hcur (show W0.heap.size ≤ W5.heap.size by omega))
    have Rk_6 := Lib.hid (Rk_5.out.below hcur (show W0.heap.size ≤ W5.heap.size by omega))
    have Rx_6 := Lib.hid (Rx_5.out.below hcur (show W2.heap.size ≤ W5.heap.size by omega))
    have HB_6 := Lib.hid (HB_5.out.trans (hcur.mono (show w.heap.size ≤ W5.heap.size by omega)))
    clear K3_5 K4_5 K5_5 Rm_5 Rn_5 Rk_5 Rx_5 HB_5 hcur
    obtain ⟨x30, x31, x32, x33, x34, x35, xf30, xf31, xf32, xf33, xf34, xf35, x3lt⟩ := K3_6.out
    obtain ⟨x40, x41, x42, xf40, xf41, xf42, x4lt⟩ := K4_6.out
    obtain ⟨x50, x51, x52, x53, x54, x55, xf50, xf51, xf52, xf53, xf54, xf55, x5lt⟩ := K5_6.out
    go_wp2
    go_ret
    exact ⟨rfl, HB_6.out⟩
  · skip
    have e1 : pr = 0 := by
      rw [← HP.out.1]
      unfold shfR
      split
      · rename_i hs
        unfold fldR
        rw [if_neg (fun hb => hok ⟨hs, hb⟩)]
      · rfl
    subst e1
    clear hok
    obtain ⟨x30, x31, x32, x33, x34, x35, xf30, xf31, xf32, xf33, xf34, xf35, x3lt⟩ := K3_4.out
    obtain ⟨x40, x41, x42, xf40, xf41, xf42, x4lt⟩ := K4_4.out
    obtain ⟨x50, x51, x52, x53, x54, x55, xf50, xf51, xf52, xf53, xf54, xf55, x5lt⟩ := K5_4.out
    go_wp2_with fail
    refine (implSMV_any 0 pc Ax cx _ W4.heap.size ps 0 pc Bx dx _ W4.heap.size qs W4 (Rx_4.out.sl1.more (show W2.heap.size ≤ W4.heap.size by omega)) (Nat.le_refl _) rfl (by omega) (Rx_4.out.sl2.more (show W2.heap.size ≤ W4.heap.size by omega)) (Nat.le_refl _) rfl (by omega) false ⟨fun e => (by simp at e), fun e => absurd e.1.1.1 (by omega)⟩).mono ?_
    rintro e W5 ⟨rfl, hb⟩
    clear x30 x31 x32 x33 x34 x35 xf30 xf31 xf32 xf33 xf34 xf35 x3lt x40 x41 x42 xf40 xf41 xf42 x4lt x50 x51 x52 x53 x54 x55 xf50 xf51 xf52 xf53 xf54 xf55 x5lt
    have s5 := hb.size
    have K3_5 := Lib.hid (K3_4.out.below hb (show W0.heap.size < W4.heap.size by omega))
    have K4_5 := Lib.hid (K4_4.out.below hb (show W0.heap.size + 1 < W4.heap.size by omega))
    have K5_5 := Lib.hid (K5_4.out.below hb (show W2.heap.size < W4.heap.size by omega))
    have Rm_5 := Lib.hid (Rm_4.out.below hb (show W0.heap.size ≤ W4.heap.size by omega))
    have Rn_5 := Lib.hid (Rn_4.out.below hb (show W0.heap.size ≤ W4.heap.size by omega))
    have Rk_5 := Lib.hid (Rk_4.out.below hb (show W0.heap.size ≤ W4.heap.size by omega))
    have Rx_5 := Lib.hid (Rx_4.out.below hb (show W2.heap.size ≤ W4.heap.size by omega))
    have HB_5 := Lib.hid (HB_4.out.trans (hb.mono (show w.heap.size ≤ W4.heap.size by omega)))
    clear K3_4 K4_4 K5_4 Rm_4 Rn_4 Rk_4 Rx_4 HB_4 hb
    clear HP
    obtain ⟨x30, x31, x32, x33, x34, x35, xf30, xf31, xf32, xf33, xf34, xf35, x3lt⟩ := K3_5.out
    obtain ⟨x40, x41, x42, xf40, xf41, xf42, x4lt⟩ := K4_5.out
    obtain ⟨x50, x51, x52, x53, x54, x55, xf50, xf51, xf52, xf53, xf54, xf55, x5lt⟩ := K5_5.out
    go_wp2_with fail
    refine (alive_any _).mono ?_
    rintro e w' ⟨rfl, rfl⟩
    go_wp2
    go_ret
    exact ⟨rfl, HB_5.out⟩
end Go.Proofs.Ytakjmdjjpalaiaa
