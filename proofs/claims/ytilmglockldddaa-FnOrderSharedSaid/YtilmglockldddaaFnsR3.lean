/- Contracts: shares of a matrix, the reference's. (Printed by gen_R3.py.) -/
import Derived.Test.YtilmglockldddaaFnsR1
import Derived.Test.YtilmglockldddaaFnsR2
import Derived.Deep.RegionHeld3
namespace Go.Proofs.Ytilmglockldddaa
open Go.RowKit
theorem okM_rls {r c : Int} {zs : List Int} (s : Int) (h : OkM r c zs) : OkM r c (rLs s zs.length) :=
  ⟨h.1, h.2.1, by rw [rLs_len]; exact h.2.2.1, fun j hj => by rw [rLs_len] at hj; exact rLs_rng s _ j hj⟩

set_option maxHeartbeats 1600000 in
theorem specSplit_yes (r c s : Int) (A : Option Addr) (cap n B : Nat) (zs : List Int) (w : World) (hs : Sl w B A zs) (hB : B ≤ w.heap.size) (e : n = zs.length) (hm : OkM r c zs) (hsd : 1 ≤ s ∧ s ≤ 2147483646) :
    Calls Try.prog 77 #[matV r c (.slice A n cap), .int .i64 s] w fun e w' => ∃ v v2, e = .returned (.tuple #[smV r c v r c v2, .int .i64 (rSd s zs.length)]) ∧ RowS w' w.heap.size w'.heap.size v v2 (rLs s zs.length) (pairZ subF zs (rLs s zs.length)) ∧ Below w.heap.size w w' := by
  subst e
  have hn := hm.len
  have hr1 := hm.1
  have hc1 := hm.2.1
  have hP := hm.2.2.1
  have HM := Lib.hid hm
  have HM2 := Lib.hid (okM_rls s hm)
  have HRM := Lib.hid fun wx => specRM_yes r c s zs.length wx hm.1 hm.2.1 hsd hm.2.2.1.symm (by omega)
  have HYL := Lib.hid (rLs_len s zs.length)
  obtain ⟨q, hq⟩ : ∃ q, rSd s zs.length = q := ⟨_, rfl⟩
  obtain ⟨ys, hys⟩ : ∃ ys, rLs s zs.length = ys := ⟨_, rfl⟩
  rw [hq, hys] at HRM
  rw [hys] at HM2 HYL
  rw [hq, hys]
  obtain ⟨hs1, hs2⟩ := hsd
  obtain ⟨qs, hqs⟩ : ∃ qs, pairZ subF zs ys = qs := ⟨_, rfl⟩
  rw [hqs]
  have HQ := Lib.hid hqs
  have hyl : ys.length ≤ 25 := by rw [HYL.out]; omega
  clear hm hq hys hqs hP
  have q0 := (Cell3.new (w) (.int .i64 r) (.int .i64 c) (.slice A zs.length cap) 33).alloc (.cells #[.int .i64 0, .int .i64 0, .slice none 0 0, .int .i64 0, .int .i64 0, .slice none 0 0] 47)
  have q2 := Cell6.new (w.alloc (.cells #[.int .i64 r, .int .i64 c, .slice A zs.length cap] 33)) (.int .i64 0) (.int .i64 0) (.slice none 0 0) (.int .i64 0) (.int .i64 0) (.slice none 0 0) 47
  have hb : Below w.heap.size w ((w.alloc (.cells #[.int .i64 r, .int .i64 c, .slice A zs.length cap] 33)).alloc (.cells #[.int .i64 0, .int .i64 0, .slice none 0 0, .int .i64 0, .int .i64 0, .slice none 0 0] 47)) := ((Below.refl _ _).alloc (Nat.le_refl _) _).alloc (by simp) _
  have hsz : ((w.alloc (.cells #[.int .i64 r, .int .i64 c, .slice A zs.length cap] 33)).alloc (.cells #[.int .i64 0, .int .i64 0, .slice none 0 0, .int .i64 0, .int .i64 0, .slice none 0 0] 47)).heap.size = w.heap.size + 2 := by simp
  simp only [World.size_alloc] at q2
  obtain ⟨W0, hW⟩ : ∃ W, (w.alloc (.cells #[.int .i64 r, .int .i64 c, .slice A zs.length cap] 33)).alloc (.cells #[.int .i64 0, .int .i64 0, .slice none 0 0, .int .i64 0, .int .i64 0, .slice none 0 0] 47) = W := ⟨_, rfl⟩
  rw [hW] at q0 q2 hb hsz
  have K0_0 := Lib.hid q0
  have K2_0 := Lib.hid q2
  have Sa_0 := Lib.hid (hs.below hb hB)
  have HB_0 := Lib.hid hb
  clear hb q0 q2 hs
  go_enter Try.func77, Try.ntmps77
  obtain ⟨x00, x01, x02, xf00, xf01, xf02, x0lt⟩ := K0_0.out
  obtain ⟨x20, x21, x22, x23, x24, x25, xf20, xf21, xf22, xf23, xf24, xf25, x2lt⟩ := K2_0.out
  go_wp2_with fail
  refine (ownM_any r c A cap _ B zs W0 Sa_0.out (by omega) rfl (by omega)).mono ?_
  rintro e W1 ⟨sv1, rfl, hr, hb⟩
  obtain ⟨Ax, cx, rfl, hcp1, hcp2, _⟩ := hr.form
  have HCPx := Lib.hid (And.intro hcp1 hcp2)
  clear hcp1 hcp2
  clear x00 x01 x02 xf00 xf01 xf02 x0lt x20 x21 x22 x23 x24 x25 xf20 xf21 xf22 xf23 xf24 xf25 x2lt
  have s1 := hb.size
  have K0_1 := Lib.hid (K0_0.out.below hb (show w.heap.size < W0.heap.size by omega))
  have K2_1 := Lib.hid (K2_0.out.below hb (show w.heap.size + 1 < W0.heap.size by omega))
  have Sa_1 := Lib.hid (Sa_0.out.below hb (show B ≤ W0.heap.size by omega))
  have HB_1 := Lib.hid (HB_0.out.trans (hb.mono (show w.heap.size ≤ W0.heap.size by omega)))
  clear K0_0 K2_0 Sa_0 HB_0 hb hW
  have Rx_1 := Lib.hid hr
  clear hr
  have K0_2 := Lib.hid (((K0_1.out.set0 (.int .i64 r)).set1 (.int .i64 c)).set2 (.slice Ax zs.length cx))
  have K2_2 := Lib.hid (((K2_1.out.far (a := ⟨w.heap.size, 0, none⟩) (show w.heap.size + 1 ≠ w.heap.size by omega) (.int .i64 r)).far (a := ⟨w.heap.size, 1, none⟩) (show w.heap.size + 1 ≠ w.heap.size by omega) (.int .i64 c)).far (a := ⟨w.heap.size, 2, none⟩) (show w.heap.size + 1 ≠ w.heap.size by omega) (.slice Ax zs.length cx))
  have Rx_2 := Lib.hid (((Rx_1.out.grown (set_grown _ (w.heap.size) 0 (.int .i64 r)) (fun g e => by cases e; omega)).grown (set_grown _ (w.heap.size) 1 (.int .i64 c)) (fun g e => by cases e; omega)).grown (set_grown _ (w.heap.size) 2 (.slice Ax zs.length cx)) (fun g e => by cases e; omega))
  have Sa_2 := Lib.hid (((Sa_1.out.keep (w' := (W1.setCell ⟨w.heap.size, 0, none⟩ (.int .i64 r))) (fun p hp => World.cell?_setCell_other _ _ _ _ (fun e => by rw [← e] at hp; exact absurd (show w.heap.size < B from hp) (by omega)))).keep (w' := ((W1.setCell ⟨w.heap.size, 0, none⟩ (.int .i64 r)).setCell ⟨w.heap.size, 1, none⟩ (.int .i64 c))) (fun p hp => World.cell?_setCell_other _ _ _ _ (fun e => by rw [← e] at hp; exact absurd (show w.heap.size < B from hp) (by omega)))).keep (w' := (((W1.setCell ⟨w.heap.size, 0, none⟩ (.int .i64 r)).setCell ⟨w.heap.size, 1, none⟩ (.int .i64 c)).setCell ⟨w.heap.size, 2, none⟩ (.slice Ax zs.length cx))) (fun p hp => World.cell?_setCell_other _ _ _ _ (fun e => by rw [← e] at hp; exact absurd (show w.heap.size < B from hp) (by omega))))
  have HB_2 := Lib.hid (((HB_1.out.setCell (p := ⟨w.heap.size, 0, none⟩) (show w.heap.size ≤ w.heap.size by omega) (.int .i64 r)).setCell (p := ⟨w.heap.size, 1, none⟩) (show w.heap.size ≤ w.heap.size by omega) (.int .i64 c)).setCell (p := ⟨w.heap.size, 2, none⟩) (show w.heap.size ≤ w.heap.size by omega) (.slice Ax zs.length cx))
  have z2 : (((W1.setCell ⟨w.heap.size, 0, none⟩ (.int .i64 r)).setCell ⟨w.heap.size, 1, none⟩ (.int .i64 c)).setCell ⟨w.heap.size, 2, none⟩ (.slice Ax zs.length cx)).heap.size = W1.heap.size := by simp
  obtain ⟨x00, x01, x02, xf00, xf01, xf02, x0lt⟩ := K0_1.out
  obtain ⟨x20, x21, x22, x23, x24, x25, xf20, xf21, xf22, xf23, xf24, xf25, x2lt⟩ := K2_1.out
  go_wp2_with fail
  obtain ⟨W2, hW2⟩ : ∃ W, (((W1.setCell ⟨w.heap.size, 0, none⟩ (.int .i64 r)).setCell ⟨w.heap.size, 1, none⟩ (.int .i64 c)).setCell ⟨w.heap.size, 2, none⟩ (.slice Ax zs.length cx)) = W := ⟨_, rfl⟩
  rw [hW2] at K0_2 K2_2 Rx_2 Sa_2 HB_2 z2 ⊢
  clear x00 x01 x02 xf00 xf01 xf02 x0lt x20 x21 x22 x23 x24 x25 xf20 xf21 xf22 xf23 xf24 xf25 x2lt
  clear hW2 K0_1 K2_1 Rx_1 Sa_1 HB_1
  refine (specMV_yes r c Ax cx _ W2.heap.size zs W2 (Rx_2.out.sl_now.more (show W1.heap.size ≤ W2.heap.size by omega)) (Nat.le_refl _) rfl (by omega) HM.out).mono ?_
  rintro e W3 ⟨rfl, hb⟩
  have s3 := hb.size
  have K0_3 := Lib.hid (K0_2.out.below hb (show w.heap.size < W2.heap.size by omega))
  have K2_3 := Lib.hid (K2_2.out.below hb (show w.heap.size + 1 < W2.heap.size by omega))
  have Rx_3 := Lib.hid (Rx_2.out.below hb (show W1.heap.size ≤ W2.heap.size by omega))
  have Sa_3 := Lib.hid (Sa_2.out.below hb (show B ≤ W2.heap.size by omega))
  have HB_3 := Lib.hid (HB_2.out.trans (hb.mono (show w.heap.size ≤ W2.heap.size by omega)))
  clear K0_2 K2_2 Rx_2 Sa_2 HB_2 hb
  obtain ⟨x00, x01, x02, xf00, xf01, xf02, x0lt⟩ := K0_3.out
  obtain ⟨x20, x21, x22, x23, x24, x25, xf20, xf21, xf22, xf23, xf24, xf25, x2lt⟩ := K2_3.out
  go_wp2_with fail
  refine (l1In_yes _ _ _ _ hs1 hs2).mono ?_
  rintro e w' ⟨rfl, rfl⟩
  go_wp2_with fail
  refine (HRM.out _).mono ?_
  rintro e W4 ⟨sv4, rfl, hr, hb⟩
  obtain ⟨Ag, cg, rfl, hcp1, hcp2, _⟩ := hr.form
  have HCPg := Lib.hid (And.intro hcp1 hcp2)
  clear hcp1 hcp2
  clear x00 x01 x02 xf00 xf01 xf02 x0lt x20 x21 x22 x23 x24 x25 xf20 xf21 xf22 xf23 xf24 xf25 x2lt
  have s4 := hb.size
  have K0_4 := Lib.hid (K0_3.out.below hb (show w.heap.size < W3.heap.size by omega))
  have K2_4 := Lib.hid (K2_3.out.below hb (show w.heap.size + 1 < W3.heap.size by omega))
  have Rx_4 := Lib.hid (Rx_3.out.below hb (show W1.heap.size ≤ W3.heap.size by omega))
  have Sa_4 := Lib.hid (Sa_3.out.below hb (show B ≤ W3.heap.size by omega))
  have HB_4 := Lib.hid (HB_3.out.trans (hb.mono (show w.heap.size ≤ W3.heap.size by omega)))
  clear K0_3 K2_3 Rx_3 Sa_3 HB_3 hb
  have Rg_4 := Lib.hid hr
  clear hr
  have kn := Cell3.new W4 (.int .i64 r) (.int .i64 c) (.slice Ag ys.length cg) 33
  obtain ⟨W5, hW5⟩ : ∃ W, W4.alloc (.cells #[.int .i64 r, .int .i64 c, .slice Ag ys.length cg] 33) = W := ⟨_, rfl⟩
  rw [hW5] at kn
  have z5 : W5.heap.size = W4.heap.size + 1 := by rw [← hW5]; simp
  have hal : Below W4.heap.size W4 W5 := hW5 ▸ (Below.refl _ _).alloc (Nat.le_refl _) _
  have s5 := hal.size
  have K0_5 := Lib.hid (K0_4.out.below hal (show w.heap.size < W4.heap.size by omega))
  have K2_5 := Lib.hid (K2_4.out.below hal (show w.heap.size + 1 < W4.heap.size by omega))
  have Rx_5 := Lib.hid (Rx_4.out.below hal (show W1.heap.size ≤ W4.heap.size by omega))
  have Rg_5 := Lib.hid (Rg_4.out.below hal (show W4.heap.size ≤ W4.heap.size by omega))
  have Sa_5 := Lib.hid (Sa_4.out.below hal (show B ≤ W4.heap.size by omega))
  have HB_5 := Lib.hid (HB_4.out.trans (hal.mono (show w.heap.size ≤ W4.heap.size by omega)))
  clear K0_4 K2_4 Rx_4 Rg_4 Sa_4 HB_4 hal
  have K6_5 := Lib.hid kn
  clear kn
  have hcS := Lib.hid fun wx (hx : Below W5.heap.size W5 wx) => specSub_yes r c Ax cx _ W5.heap.size zs Ag cg _ W5.heap.size ys wx ((Rx_5.out.sl_now.more (show W1.heap.size ≤ W5.heap.size by omega)).below hx (Nat.le_refl _)) hx.size rfl ((Rg_5.out.sl_now.more (show W4.heap.size ≤ W5.heap.size by omega)).below hx (Nat.le_refl _)) hx.size rfl HM.out HM2.out
  rw [HQ.out] at hcS
  have HMK := Lib.hid fun w' (hx : Below W5.heap.size W5 w') => (show (w'.cell? ⟨W4.heap.size, 0, none⟩ = some (.int .i64 r) ∧ w'.cell? ⟨W4.heap.size, 1, none⟩ = some (.int .i64 c) ∧ w'.cell? ⟨W4.heap.size, 2, none⟩ = some (.slice Ag ys.length cg)) ∧ (w'.cell? ⟨w.heap.size, 0, none⟩ = some (.int .i64 r) ∧ w'.cell? ⟨w.heap.size, 1, none⟩ = some (.int .i64 c) ∧ w'.cell? ⟨w.heap.size, 2, none⟩ = some (.slice Ax zs.length cx)) from (by have h6 := (K6_5.out.below hx (show W4.heap.size < W5.heap.size by omega)); have h0 := (K0_5.out.below hx (show w.heap.size < W5.heap.size by omega)); exact ⟨⟨h6.c0, h6.c1, h6.c2⟩, ⟨h0.c0, h0.c1, h0.c2⟩⟩))
  have HM2 := Lib.hid fun w' (hx : Below W5.heap.size W5 w') (v0 v1 v2 v3 v4 v5 : Value) => (show (((((((w'.setCell ⟨w.heap.size + 1, 0, none⟩ v0).setCell ⟨w.heap.size + 1, 1, none⟩ v1).setCell ⟨w.heap.size + 1, 2, none⟩ v2).setCell ⟨w.heap.size + 1, 3, none⟩ v3).setCell ⟨w.heap.size + 1, 4, none⟩ v4).setCell ⟨w.heap.size + 1, 5, none⟩ v5).cell? ⟨W4.heap.size, 0, none⟩ = some (.int .i64 r) ∧ ((((((w'.setCell ⟨w.heap.size + 1, 0, none⟩ v0).setCell ⟨w.heap.size + 1, 1, none⟩ v1).setCell ⟨w.heap.size + 1, 2, none⟩ v2).setCell ⟨w.heap.size + 1, 3, none⟩ v3).setCell ⟨w.heap.size + 1, 4, none⟩ v4).setCell ⟨w.heap.size + 1, 5, none⟩ v5).cell? ⟨W4.heap.size, 1, none⟩ = some (.int .i64 c) ∧ ((((((w'.setCell ⟨w.heap.size + 1, 0, none⟩ v0).setCell ⟨w.heap.size + 1, 1, none⟩ v1).setCell ⟨w.heap.size + 1, 2, none⟩ v2).setCell ⟨w.heap.size + 1, 3, none⟩ v3).setCell ⟨w.heap.size + 1, 4, none⟩ v4).setCell ⟨w.heap.size + 1, 5, none⟩ v5).cell? ⟨W4.heap.size, 2, none⟩ = some (.slice Ag ys.length cg)) ∧ (((((((w'.setCell ⟨w.heap.size + 1, 0, none⟩ v0).setCell ⟨w.heap.size + 1, 1, none⟩ v1).setCell ⟨w.heap.size + 1, 2, none⟩ v2).setCell ⟨w.heap.size + 1, 3, none⟩ v3).setCell ⟨w.heap.size + 1, 4, none⟩ v4).setCell ⟨w.heap.size + 1, 5, none⟩ v5).cell? ⟨w.heap.size, 0, none⟩ = some (.int .i64 r) ∧ ((((((w'.setCell ⟨w.heap.size + 1, 0, none⟩ v0).setCell ⟨w.heap.size + 1, 1, none⟩ v1).setCell ⟨w.heap.size + 1, 2, none⟩ v2).setCell ⟨w.heap.size + 1, 3, none⟩ v3).setCell ⟨w.heap.size + 1, 4, none⟩ v4).setCell ⟨w.heap.size + 1, 5, none⟩ v5).cell? ⟨w.heap.size, 1, none⟩ = some (.int .i64 c) ∧ ((((((w'.setCell ⟨w.heap.size + 1, 0, none⟩ v0).setCell ⟨w.heap.size + 1, 1, none⟩ v1).setCell ⟨w.heap.size + 1, 2, none⟩ v2).setCell ⟨w.heap.size + 1, 3, none⟩ v3).setCell ⟨w.heap.size + 1, 4, none⟩ v4).setCell ⟨w.heap.size + 1, 5, none⟩ v5).cell? ⟨w.heap.size, 2, none⟩ = some (.slice Ax zs.length cx)) from (by have h6 := (((((((K6_5.out.below hx (show W4.heap.size < W5.heap.size by omega)).far (a := ⟨w.heap.size + 1, 0, none⟩) (show W4.heap.size ≠ w.heap.size + 1 by omega) v0).far (a := ⟨w.heap.size + 1, 1, none⟩) (show W4.heap.size ≠ w.heap.size + 1 by omega) v1).far (a := ⟨w.heap.size + 1, 2, none⟩) (show W4.heap.size ≠ w.heap.size + 1 by omega) v2).far (a := ⟨w.heap.size + 1, 3, none⟩) (show W4.heap.size ≠ w.heap.size + 1 by omega) v3).far (a := ⟨w.heap.size + 1, 4, none⟩) (show W4.heap.size ≠ w.heap.size + 1 by omega) v4).far (a := ⟨w.heap.size + 1, 5, none⟩) (show W4.heap.size ≠ w.heap.size + 1 by omega) v5); have h0 := (((((((K0_5.out.below hx (show w.heap.size < W5.heap.size by omega)).far (a := ⟨w.heap.size + 1, 0, none⟩) (show w.heap.size ≠ w.heap.size + 1 by omega) v0).far (a := ⟨w.heap.size + 1, 1, none⟩) (show w.heap.size ≠ w.heap.size + 1 by omega) v1).far (a := ⟨w.heap.size + 1, 2, none⟩) (show w.heap.size ≠ w.heap.size + 1 by omega) v2).far (a := ⟨w.heap.size + 1, 3, none⟩) (show w.heap.size ≠ w.heap.size + 1 by omega) v3).far (a := ⟨w.heap.size + 1, 4, none⟩) (show w.heap.size ≠ w.heap.size + 1 by omega) v4).far (a := ⟨w.heap.size + 1, 5, none⟩) (show w.heap.size ≠ w.heap.size + 1 by omega) v5); exact ⟨⟨h6.c0, h6.c1, h6.c2⟩, ⟨h0.c0, h0.c1, h0.c2⟩⟩))
  have hcur : Below W5.heap.size W5 W5.drew := Below.of_drew _
  obtain ⟨x00, x01, x02, xf00, xf01, xf02, x0lt⟩ := K0_5.out
  obtain ⟨x20, x21, x22, x23, x24, x25, xf20, xf21, xf22, xf23, xf24, xf25, x2lt⟩ := K2_5.out
  obtain ⟨x60, x61, x62, xf60, xf61, xf62, x6lt⟩ := K6_5.out
  go_wp2
  go_region_held3 (fun w' => (w'.cell? ⟨W4.heap.size, 0, none⟩ = some (.int .i64 r) ∧ w'.cell? ⟨W4.heap.size, 1, none⟩ = some (.int .i64 c) ∧ w'.cell? ⟨W4.heap.size, 2, none⟩ = some (.slice Ag ys.length cg)) ∧ (w'.cell? ⟨w.heap.size, 0, none⟩ = some (.int .i64 r) ∧ w'.cell? ⟨w.heap.size, 1, none⟩ = some (.int .i64 c) ∧ w'.cell? ⟨w.heap.size, 2, none⟩ = some (.slice Ax zs.length cx)))
    (first | with_reducible exact HMK.out _ hcur | with_reducible exact HM2.out _ hcur _ _ _ _ _ _ | fail)
    (first
      | (go_simp; go_at_call 57; (with_reducible refine (hcS.out _ hcur).mono ?_); rintro e Wn ⟨svb, rfl, hr, hbb⟩; obtain ⟨Ah, ch, rfl, _, _, _⟩ := hr.form; have hcur := hcur.trans (hbb.mono hcur.size); obtain ⟨y0, y1, y2, y3, y4, y5, yf0, yf1, yf2, yf3, yf4, yf5, ylt⟩ := K2_5.out.below hcur (show w.heap.size + 1 < W5.heap.size by omega))
      | fail)
  clear x00 x01 x02 xf00 xf01 xf02 x0lt x20 x21 x22 x23 x24 x25 xf20 xf21 xf22 xf23 xf24 xf25 x2lt x60 x61 x62 xf60 xf61 xf62 x6lt
  obtain ⟨W6, hWn⟩ : ∃ W, W = Wn := ⟨_, rfl⟩
  subst hWn
  clear y0 y1 y2 y3 y4 y5 yf0 yf1 yf2 yf3 yf4 yf5 ylt HMK HM2
  have s6 := hcur.size
  have K0_6 := Lib.hid (K0_5.out.below hcur (show w.heap.size < W5.heap.size by omega))
  have K2_6 := Lib.hid (K2_5.out.below hcur (show w.heap.size + 1 < W5.heap.size by omega))
  have K6_6 := Lib.hid (K6_5.out.below hcur (show W4.heap.size < W5.heap.size by omega))
  have Rx_6 := Lib.hid (Rx_5.out.below hcur (show W1.heap.size ≤ W5.heap.size by omega))
  have Rg_6 := Lib.hid (Rg_5.out.below hcur (show W4.heap.size ≤ W5.heap.size by omega))
  have Sa_6 := Lib.hid (Sa_5.out.below hcur (show B ≤ W5.heap.size by omega))
  have HB_6 := Lib.hid (HB_5.out.trans (hcur.mono (show w.heap.size ≤ W5.heap.size by omega)))
  clear K0_5 K2_5 K6_5 Rx_5 Rg_5 Sa_5 HB_5 hcur
  have Rh_6 := Lib.hid (hr.wider (show W5.heap.size ≤ W5.drew.heap.size from Nat.le_refl _) (Nat.le_refl _))
  clear hr hbb hcS
  have K0_7 := Lib.hid ((((((K0_6.out.far (a := ⟨w.heap.size + 1, 0, none⟩) (show w.heap.size ≠ w.heap.size + 1 by omega) (.int .i64 r)).far (a := ⟨w.heap.size + 1, 1, none⟩) (show w.heap.size ≠ w.heap.size + 1 by omega) (.int .i64 c)).far (a := ⟨w.heap.size + 1, 2, none⟩) (show w.heap.size ≠ w.heap.size + 1 by omega) (.slice Ag ys.length cg)).far (a := ⟨w.heap.size + 1, 3, none⟩) (show w.heap.size ≠ w.heap.size + 1 by omega) (.int .i64 r)).far (a := ⟨w.heap.size + 1, 4, none⟩) (show w.heap.size ≠ w.heap.size + 1 by omega) (.int .i64 c)).far (a := ⟨w.heap.size + 1, 5, none⟩) (show w.heap.size ≠ w.heap.size + 1 by omega) (.slice Ah qs.length ch))
  have K2_7 := Lib.hid ((((((K2_6.out.set0 (.int .i64 r)).set1 (.int .i64 c)).set2 (.slice Ag ys.length cg)).set3 (.int .i64 r)).set4 (.int .i64 c)).set5 (.slice Ah qs.length ch))
  have K6_7 := Lib.hid ((((((K6_6.out.far (a := ⟨w.heap.size + 1, 0, none⟩) (show W4.heap.size ≠ w.heap.size + 1 by omega) (.int .i64 r)).far (a := ⟨w.heap.size + 1, 1, none⟩) (show W4.heap.size ≠ w.heap.size + 1 by omega) (.int .i64 c)).far (a := ⟨w.heap.size + 1, 2, none⟩) (show W4.heap.size ≠ w.heap.size + 1 by omega) (.slice Ag ys.length cg)).far (a := ⟨w.heap.size + 1, 3, none⟩) (show W4.heap.size ≠ w.heap.size + 1 by omega) (.int .i64 r)).far (a := ⟨w.heap.size + 1, 4, none⟩) (show W4.heap.size ≠ w.heap.size + 1 by omega) (.int .i64 c)).far (a := ⟨w.heap.size + 1, 5, none⟩) (show W4.heap.size ≠ w.heap.size + 1 by omega) (.slice Ah qs.length ch))
  have Rx_7 := Lib.hid ((((((Rx_6.out.grown (set_grown _ (w.heap.size + 1) 0 (.int .i64 r)) (fun g e => by cases e; omega)).grown (set_grown _ (w.heap.size + 1) 1 (.int .i64 c)) (fun g e => by cases e; omega)).grown (set_grown _ (w.heap.size + 1) 2 (.slice Ag ys.length cg)) (fun g e => by cases e; omega)).grown (set_grown _ (w.heap.size + 1) 3 (.int .i64 r)) (fun g e => by cases e; omega)).grown (set_grown _ (w.heap.size + 1) 4 (.int .i64 c)) (fun g e => by cases e; omega)).grown (set_grown _ (w.heap.size + 1) 5 (.slice Ah qs.length ch)) (fun g e => by cases e; omega))
  have Rg_7 := Lib.hid ((((((Rg_6.out.grown (set_grown _ (w.heap.size + 1) 0 (.int .i64 r)) (fun g e => by cases e; omega)).grown (set_grown _ (w.heap.size + 1) 1 (.int .i64 c)) (fun g e => by cases e; omega)).grown (set_grown _ (w.heap.size + 1) 2 (.slice Ag ys.length cg)) (fun g e => by cases e; omega)).grown (set_grown _ (w.heap.size + 1) 3 (.int .i64 r)) (fun g e => by cases e; omega)).grown (set_grown _ (w.heap.size + 1) 4 (.int .i64 c)) (fun g e => by cases e; omega)).grown (set_grown _ (w.heap.size + 1) 5 (.slice Ah qs.length ch)) (fun g e => by cases e; omega))
  have Rh_7 := Lib.hid ((((((Rh_6.out.grown (set_grown _ (w.heap.size + 1) 0 (.int .i64 r)) (fun g e => by cases e; omega)).grown (set_grown _ (w.heap.size + 1) 1 (.int .i64 c)) (fun g e => by cases e; omega)).grown (set_grown _ (w.heap.size + 1) 2 (.slice Ag ys.length cg)) (fun g e => by cases e; omega)).grown (set_grown _ (w.heap.size + 1) 3 (.int .i64 r)) (fun g e => by cases e; omega)).grown (set_grown _ (w.heap.size + 1) 4 (.int .i64 c)) (fun g e => by cases e; omega)).grown (set_grown _ (w.heap.size + 1) 5 (.slice Ah qs.length ch)) (fun g e => by cases e; omega))
  have Sa_7 := Lib.hid ((((((Sa_6.out.keep (w' := (W6.setCell ⟨w.heap.size + 1, 0, none⟩ (.int .i64 r))) (fun p hp => World.cell?_setCell_other _ _ _ _ (fun e => by rw [← e] at hp; exact absurd (show w.heap.size + 1 < B from hp) (by omega)))).keep (w' := ((W6.setCell ⟨w.heap.size + 1, 0, none⟩ (.int .i64 r)).setCell ⟨w.heap.size + 1, 1, none⟩ (.int .i64 c))) (fun p hp => World.cell?_setCell_other _ _ _ _ (fun e => by rw [← e] at hp; exact absurd (show w.heap.size + 1 < B from hp) (by omega)))).keep (w' := (((W6.setCell ⟨w.heap.size + 1, 0, none⟩ (.int .i64 r)).setCell ⟨w.heap.size + 1, 1, none⟩ (.int .i64 c)).setCell ⟨w.heap.size + 1, 2, none⟩ (.slice Ag ys.length cg))) (fun p hp => World.cell?_setCell_other _ _ _ _ (fun e => by rw [← e] at hp; exact absurd (show w.heap.size + 1 < B from hp) (by omega)))).keep (w' := ((((W6.setCell ⟨w.heap.size + 1, 0, none⟩ (.int .i64 r)).setCell ⟨w.heap.size + 1, 1, none⟩ (.int .i64 c)).setCell ⟨w.heap.size + 1, 2, none⟩ (.slice Ag ys.length cg)).setCell ⟨w.heap.size + 1, 3, none⟩ (.int .i64 r))) (fun p hp => World.cell?_setCell_other _ _ _ _ (fun e => by rw [← e] at hp; exact absurd (show w.heap.size + 1 < B from hp) (by omega)))).keep (w' := (((((W6.setCell ⟨w.heap.size + 1, 0, none⟩ (.int .i64 r)).setCell ⟨w.heap.size + 1, 1, none⟩ (.int .i64 c)).setCell ⟨w.heap.size + 1, 2, none⟩ (.slice Ag ys.length cg)).setCell ⟨w.heap.size + 1, 3, none⟩ (.int .i64 r)).setCell ⟨w.heap.size + 1, 4, none⟩ (.int .i64 c))) (fun p hp => World.cell?_setCell_other _ _ _ _ (fun e => by rw [← e] at hp; exact absurd (show w.heap.size + 1 < B from hp) (by omega)))).keep (w' := ((((((W6.setCell ⟨w.heap.size + 1, 0, none⟩ (.int .i64 r)).setCell ⟨w.heap.size + 1, 1, none⟩ (.int .i64 c)).setCell ⟨w.heap.size + 1, 2, none⟩ (.slice Ag ys.length cg)).setCell ⟨w.heap.size + 1, 3, none⟩ (.int .i64 r)).setCell ⟨w.heap.size + 1, 4, none⟩ (.int .i64 c)).setCell ⟨w.heap.size + 1, 5, none⟩ (.slice Ah qs.length ch))) (fun p hp => World.cell?_setCell_other _ _ _ _ (fun e => by rw [← e] at hp; exact absurd (show w.heap.size + 1 < B from hp) (by omega))))
  have HB_7 := Lib.hid ((((((HB_6.out.setCell (p := ⟨w.heap.size + 1, 0, none⟩) (show w.heap.size ≤ w.heap.size + 1 by omega) (.int .i64 r)).setCell (p := ⟨w.heap.size + 1, 1, none⟩) (show w.heap.size ≤ w.heap.size + 1 by omega) (.int .i64 c)).setCell (p := ⟨w.heap.size + 1, 2, none⟩) (show w.heap.size ≤ w.heap.size + 1 by omega) (.slice Ag ys.length cg)).setCell (p := ⟨w.heap.size + 1, 3, none⟩) (show w.heap.size ≤ w.heap.size + 1 by omega) (.int .i64 r)).setCell (p := ⟨w.heap.size + 1, 4, none⟩) (show w.heap.size ≤ w.heap.size + 1 by omega) (.int .i64 c)).setCell (p := ⟨w.heap.size + 1, 5, none⟩) (show w.heap.size ≤ w.heap.size + 1 by omega) (.slice Ah qs.length ch))
  have z7 : ((((((W6.setCell ⟨w.heap.size + 1, 0, none⟩ (.int .i64 r)).setCell ⟨w.heap.size + 1, 1, none⟩ (.int .i64 c)).setCell ⟨w.heap.size + 1, 2, none⟩ (.slice Ag ys.length cg)).setCell ⟨w.heap.size + 1, 3, none⟩ (.int .i64 r)).setCell ⟨w.heap.size + 1, 4, none⟩ (.int .i64 c)).setCell ⟨w.heap.size + 1, 5, none⟩ (.slice Ah qs.length ch)).heap.size = W6.heap.size := by simp
  obtain ⟨x00, x01, x02, xf00, xf01, xf02, x0lt⟩ := K0_6.out
  obtain ⟨x20, x21, x22, x23, x24, x25, xf20, xf21, xf22, xf23, xf24, xf25, x2lt⟩ := K2_6.out
  obtain ⟨x60, x61, x62, xf60, xf61, xf62, x6lt⟩ := K6_6.out
  go_wp2_with fail
  obtain ⟨W7, hW7⟩ : ∃ W, ((((((W6.setCell ⟨w.heap.size + 1, 0, none⟩ (.int .i64 r)).setCell ⟨w.heap.size + 1, 1, none⟩ (.int .i64 c)).setCell ⟨w.heap.size + 1, 2, none⟩ (.slice Ag ys.length cg)).setCell ⟨w.heap.size + 1, 3, none⟩ (.int .i64 r)).setCell ⟨w.heap.size + 1, 4, none⟩ (.int .i64 c)).setCell ⟨w.heap.size + 1, 5, none⟩ (.slice Ah qs.length ch)) = W := ⟨_, rfl⟩
  rw [hW7] at K0_7 K2_7 K6_7 Rx_7 Rg_7 Rh_7 Sa_7 HB_7 z7 ⊢
  clear x00 x01 x02 xf00 xf01 xf02 x0lt x20 x21 x22 x23 x24 x25 xf20 xf21 xf22 xf23 xf24 xf25 x2lt x60 x61 x62 xf60 xf61 xf62 x6lt
  clear hW7 K0_6 K2_6 K6_6 Rx_6 Rg_6 Rh_6 Sa_6 HB_6
  obtain ⟨z0', z1', z2', z3', z4', z5', _, _, _, _, _, _, _⟩ := K2_7.out
  refine bodyPost_ret (v := .tuple #[smV r c (.slice Ag ys.length cg) r c (.slice Ah qs.length ch), .int .i64 q]) (by simp [results, Try.results77, go_sem, z0', z1', z2', z3', z4', z5']) rfl ?_
  exact ⟨_, _, rfl, ⟨W5.heap.size, by omega, by omega, Rg_7.out.wider (by omega) (by omega), Rh_7.out.wider (by omega) (by omega)⟩, HB_7.out⟩
end Go.Proofs.Ytilmglockldddaa
