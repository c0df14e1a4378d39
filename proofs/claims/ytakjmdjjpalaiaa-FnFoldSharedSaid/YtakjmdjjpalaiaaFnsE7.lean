/- Contracts: folded matrices, the reference's. (Printed by gen_E7.py.) -/
import Derived.Test.YtakjmdjjpalaiaaFnsE6
import Derived.Test.YtakjmdjjpalaiaaFnsE4
namespace Go.Proofs.Ytakjmdjjpalaiaa
open Go.RowKit

theorem drewN_drewN (w : World) (a b : Nat) : (w.drewN a).drewN b = w.drewN (a + b) := by simp [World.drewN, Nat.add_assoc]
theorem specRing (x : Int) (w : World) (h0 : 0 ≤ x) (_ : x ≤ 4000000000000000000) : Calls Try.prog 57 #[.int .i64 x] w fun e w' => e = .returned (.int .i64 (x % 4096)) ∧ w = w' := by
  have e1 : Int.tmod x 4096 = x % 4096 := Int.tmod_eq_emod_of_nonneg h0
  have e2 : Int.tmod (x % 4096 + 4096) 4096 = x % 4096 := by rw [Int.tmod_eq_emod_of_nonneg (by omega)]; omega
  have h2 : 0 ≤ x % 4096 ∧ x % 4096 < 4096 := by omega
  obtain ⟨y, hy⟩ : ∃ y, x % 4096 = y := ⟨_, rfl⟩
  rw [hy] at e1 e2 h2 ⊢
  clear hy
  have hcall : Calls Try.prog 88 #[.int .i64 x] w fun e w' => e = .returned (.int .i64 y) ∧ w = w' := by
    go_enter Try.func88, Try.ntmps88
    go_wp2
    go_ret
    exact ⟨by first | rfl | (simp; omega), rfl⟩
  go_enter Try.func57, Try.ntmps57
  go_wp2_with fail
  refine hcall.mono ?_
  rintro e w' ⟨rfl, rfl⟩
  go_wp2
  go_ret
  exact ⟨rfl, rfl⟩
set_option maxHeartbeats 1600000 in
theorem specFold_no (r c : Int) (A : Option Addr) (cap n B : Nat) (zs : List Int) (kr kc : Int) (Ak : Option Addr) (capk nk Bk : Nat) (ks : List Int) (w : World) (hs : Sl w B A zs) (hB : B ≤ w.heap.size) (e : n = zs.length) (hn : n ≤ 1100000) (hsk : Sl w Bk Ak ks) (hBk : Bk ≤ w.heap.size) (ek : nk = ks.length) (hnk : nk ≤ 1100000) (h : ¬ OkF r c zs kr kc ks) : Calls Try.prog 41 #[matV r c (.slice A n cap), matV kr kc (.slice Ak nk capk)] w fun e w' => e = .returned (matV 0 0 (.slice none 0 0)) ∧ Below w.heap.size w w' := by
  subst e
  subst ek
  obtain ⟨W, hW⟩ : ∃ W, ((w.alloc (.cells #[.int .i64 r, .int .i64 c, .slice A zs.length cap] 26)).alloc (.cells #[.int .i64 kr, .int .i64 kc, .slice Ak ks.length capk] 26)).alloc (.cells #[.int .i64 0, .int .i64 0, .slice none 0 0] 26) = W := ⟨_, rfl⟩
  obtain ⟨q0, q2, q1, hb, hws⟩ := nest3 w r c kr kc (.slice A zs.length cap) (.slice Ak ks.length capk) W hW.symm
  have HS := Lib.hid (hs.below hb hB)
  have HK := Lib.hid (hsk.below hb hBk)
  have Q0 := Lib.hid q0
  have Q1 := Lib.hid q1
  have Q2 := Lib.hid q2
  obtain ⟨a0, a1, a2, f0, f1, f2, alt⟩ := q0
  clear hs hsk q1 q2
  go_enter Try.func41, Try.ntmps41
  go_wp2_with fail
  refine (ownM_any r c A cap _ B zs W HS.out (by omega) rfl hn).mono ?_
  rintro e w2 ⟨s2, rfl, hr2, hb2⟩
  obtain ⟨A2, c2, rfl, hnc2, hcm2, _⟩ := hr2.form
  have hz2 := hb2.size
  have k0 := Q0.out.below hb2 (by omega)
  have k1 := Q1.out.below hb2 (by omega)
  have k2 := Q2.out.below hb2 (by omega)
  have K0 := Lib.hid (((k0.set0 (.int .i64 r)).set1 (.int .i64 c)).set2 (.slice A2 zs.length c2))
  have K1 := Lib.hid (((k1.far (a := ⟨w.heap.size, 0, none⟩) (by simp; omega) (.int .i64 r)).far (a := ⟨w.heap.size, 1, none⟩) (by simp; omega) (.int .i64 c)).far (a := ⟨w.heap.size, 2, none⟩) (by simp; omega) (.slice A2 zs.length c2))
  have K2 := Lib.hid (((k2.far (a := ⟨w.heap.size, 0, none⟩) (by simp) (.int .i64 r)).far (a := ⟨w.heap.size, 1, none⟩) (by simp) (.int .i64 c)).far (a := ⟨w.heap.size, 2, none⟩) (by simp) (.slice A2 zs.length c2))
  obtain ⟨d0, d1, d2, e0, e1, e2, dlt⟩ := k2
  obtain ⟨c0, c1, c2', g0, g1, g2, clt⟩ := k0
  have R1 := hr2.grown (set_grown _ w.heap.size 0 (.int .i64 r)) (fun g e => by cases e; left; omega)
  have R2 := R1.grown (set_grown _ w.heap.size 1 (.int .i64 c)) (fun g e => by cases e; left; omega)
  have R3 := R2.grown (set_grown _ w.heap.size 2 (.slice A2 zs.length c2)) (fun g e => by cases e; left; omega)
  have B3 := (((hb.trans (hb2.mono (show w.heap.size ≤ W.heap.size by omega))).setCell (p := ⟨w.heap.size, 0, none⟩) (Nat.le_refl _) (.int .i64 r)).setCell (p := ⟨w.heap.size, 1, none⟩) (Nat.le_refl _) (.int .i64 c)).setCell (p := ⟨w.heap.size, 2, none⟩) (Nat.le_refl _) (.slice A2 zs.length c2)
  have S3 : ((((w2.setCell ⟨w.heap.size, 0, none⟩ (.int .i64 r)).setCell ⟨w.heap.size, 1, none⟩ (.int .i64 c)).setCell ⟨w.heap.size, 2, none⟩ (.slice A2 zs.length c2)).heap.size) = w2.heap.size := by simp
  have HRB := Lib.hid R3
  have HBB := Lib.hid B3
  have HK3 := Lib.hid ((((HK.out.below hb2 (by omega)).keep (w' := w2.setCell ⟨w.heap.size, 0, none⟩ (.int .i64 r)) (fun p hp => World.cell?_setCell_other _ _ _ _ (fun e => by rw [← e] at hp; exact absurd (show w.heap.size < Bk from hp) (by omega)))).keep (w' := (w2.setCell ⟨w.heap.size, 0, none⟩ (.int .i64 r)).setCell ⟨w.heap.size, 1, none⟩ (.int .i64 c)) (fun p hp => World.cell?_setCell_other _ _ _ _ (fun e => by rw [← e] at hp; exact absurd (show w.heap.size < Bk from hp) (by omega)))).keep (w' := ((w2.setCell ⟨w.heap.size, 0, none⟩ (.int .i64 r)).setCell ⟨w.heap.size, 1, none⟩ (.int .i64 c)).setCell ⟨w.heap.size, 2, none⟩ (.slice A2 zs.length c2)) (fun p hp => World.cell?_setCell_other _ _ _ _ (fun e => by rw [← e] at hp; exact absurd (show w.heap.size < Bk from hp) (by omega))))
  clear a0 a1 a2 f0 f1 f2 alt Q0 Q1 Q2 k1 R1 R2 R3 B3 hb2 hr2 hb
  go_wp2_with fail
  obtain ⟨U, hU⟩ : ∃ U, (((w2.setCell ⟨w.heap.size, 0, none⟩ (.int .i64 r)).setCell ⟨w.heap.size, 1, none⟩ (.int .i64 c)).setCell ⟨w.heap.size, 2, none⟩ (.slice A2 zs.length c2)) = U := ⟨_, rfl⟩
  rw [hU] at K0 K1 K2 HRB HBB S3 HK3 ⊢
  clear hU d0 d1 d2 e0 e1 e2 dlt c0 c1 c2' g0 g1 g2 clt
  refine (ownM_any kr kc Ak capk _ Bk ks U HK3.out (by omega) rfl hnk).mono ?_
  rintro e w3 ⟨s3, rfl, hr3, hb3⟩
  obtain ⟨A3, c3, rfl, hnc3, hcm3, _⟩ := hr3.form
  have hz3 := hb3.size
  have k0 := K0.out.below hb3 (by omega)
  have k1 := K1.out.below hb3 (by omega)
  have k2 := K2.out.below hb3 (by omega)
  have J0 := Lib.hid (((k0.far (a := ⟨w.heap.size + 1, 0, none⟩) (by simp) (.int .i64 kr)).far (a := ⟨w.heap.size + 1, 1, none⟩) (by simp) (.int .i64 kc)).far (a := ⟨w.heap.size + 1, 2, none⟩) (by simp) (.slice A3 ks.length c3))
  have J1 := Lib.hid (((k1.far (a := ⟨w.heap.size + 1, 0, none⟩) (by simp) (.int .i64 kr)).far (a := ⟨w.heap.size + 1, 1, none⟩) (by simp) (.int .i64 kc)).far (a := ⟨w.heap.size + 1, 2, none⟩) (by simp) (.slice A3 ks.length c3))
  have J2 := Lib.hid (((k2.set0 (.int .i64 kr)).set1 (.int .i64 kc)).set2 (.slice A3 ks.length c3))
  have T1 := hr3.grown (set_grown _ (w.heap.size + 1) 0 (.int .i64 kr)) (fun g e => by cases e; left; omega)
  have T2 := T1.grown (set_grown _ (w.heap.size + 1) 1 (.int .i64 kc)) (fun g e => by cases e; left; omega)
  have T3 := Lib.hid (T2.grown (set_grown _ (w.heap.size + 1) 2 (.slice A3 ks.length c3)) (fun g e => by cases e; left; omega))
  have M1 := (HRB.out.below hb3 (by omega)).grown (set_grown _ (w.heap.size + 1) 0 (.int .i64 kr)) (fun g e => by cases e; left; omega)
  have M2 := M1.grown (set_grown _ (w.heap.size + 1) 1 (.int .i64 kc)) (fun g e => by cases e; left; omega)
  have M3 := Lib.hid (M2.grown (set_grown _ (w.heap.size + 1) 2 (.slice A3 ks.length c3)) (fun g e => by cases e; left; omega))
  have N3 := Lib.hid ((((HBB.out.trans (hb3.mono (by omega))).setCell (p := ⟨w.heap.size + 1, 0, none⟩) (by simp) (.int .i64 kr)).setCell (p := ⟨w.heap.size + 1, 1, none⟩) (by simp) (.int .i64 kc)).setCell (p := ⟨w.heap.size + 1, 2, none⟩) (by simp) (.slice A3 ks.length c3))
  have S5 : ((((w3.setCell ⟨w.heap.size + 1, 0, none⟩ (.int .i64 kr)).setCell ⟨w.heap.size + 1, 1, none⟩ (.int .i64 kc)).setCell ⟨w.heap.size + 1, 2, none⟩ (.slice A3 ks.length c3)).heap.size) = w3.heap.size := by simp
  obtain ⟨d0, d1, d2, e0, e1, e2, dlt⟩ := k2
  obtain ⟨c0, c1, c2', g0, g1, g2, clt⟩ := k0
  clear k1 hb3 hr3 T1 T2 M1 M2 K0 K1 K2 HBB HRB HK3
  go_wp2_with fail
  obtain ⟨X, hX⟩ : ∃ X, (((w3.setCell ⟨w.heap.size + 1, 0, none⟩ (.int .i64 kr)).setCell ⟨w.heap.size + 1, 1, none⟩ (.int .i64 kc)).setCell ⟨w.heap.size + 1, 2, none⟩ (.slice A3 ks.length c3)) = X := ⟨_, rfl⟩
  rw [hX] at J0 J1 J2 T3 M3 N3 S5 ⊢
  clear hX d0 d1 d2 e0 e1 e2 dlt c0 c1 c2' g0 g1 g2 clt
  have HSX := Lib.hid (M3.out.sl_now.more (show w2.heap.size ≤ X.heap.size by omega))
  have HKX := Lib.hid (T3.out.sl_now.more (show w3.heap.size ≤ X.heap.size by omega))
  clear M3 T3
  by_cases hm : OkM r c zs
  · have HM := Lib.hid hm
    by_cases hk : OkM kr kc ks
    · have hl : r < kr ∨ (kr ≤ r ∧ c < kc) := by
        apply Classical.byContradiction
        intro hh
        exact h ⟨hm, hk, by omega, by omega⟩
      have HKM := Lib.hid hk
      clear h hm hk
      refine (specMV_yes r c A2 c2 _ _ zs X HSX.out (Nat.le_refl _) rfl (by omega) HM.out).mono ?_
      rintro e w4 ⟨rfl, hb4⟩
      have hs4 := hb4.size
      obtain ⟨y0, y1, y2, _, _, _, ylt⟩ := J2.out.below hb4 (by omega)
      go_wp2_with fail
      refine (specMV_yes kr kc A3 c3 _ _ ks w4 (HKX.out.below hb4 (Nat.le_refl _)) (by omega) rfl (by omega) HKM.out).mono ?_
      rintro e w5 ⟨rfl, hb5⟩
      have hbb : Below X.heap.size X w5 := hb4.trans (hb5.mono hs4)
      obtain ⟨c0, c1, c2', _, _, _, clt⟩ := J0.out.below hbb (by omega)
      clear y0 y1 y2
      obtain ⟨y0, y1, y2, _, _, _, ylt⟩ := J2.out.below hbb (by omega)
      have HP := Lib.hid (J1.out.below hbb (by omega))
      obtain ⟨b0, b1, b2, g0, g1, g2, blt⟩ := HP.out
      have HB := Lib.hid (N3.out.trans (hbb.mono (by omega)))
      clear hb4 hb5 hbb
      rcases hl with hl | ⟨hl, hl2⟩
      all_goals (
        go_wp2
        have P2 := ((HP.out.set0 (.int .i64 0)).set1 (.int .i64 0)).set2 (.slice none 0 0)
        have B4 := ((HB.out.setCell (p := ⟨w.heap.size + 1 + 1, 0, none⟩) (by simp; omega) (.int .i64 0)).setCell (p := ⟨w.heap.size + 1 + 1, 1, none⟩) (by simp; omega) (.int .i64 0)).setCell (p := ⟨w.heap.size + 1 + 1, 2, none⟩) (by simp; omega) (.slice none 0 0)
        obtain ⟨W4, hW4⟩ : ∃ W4, (((w5.setCell ⟨w.heap.size + 1 + 1, 0, none⟩ (.int .i64 0)).setCell ⟨w.heap.size + 1 + 1, 1, none⟩ (.int .i64 0)).setCell ⟨w.heap.size + 1 + 1, 2, none⟩ (.slice none 0 0)) = W4 := ⟨_, rfl⟩
        rw [hW4] at P2 B4 ⊢
        obtain ⟨z0, z1, z2, _, _, _, _⟩ := P2
        refine bodyPost_ret (v := matV 0 0 (.slice none 0 0)) (by simp [results, Try.results41, go_sem, z0, z1, z2]) rfl ?_
        exact ⟨rfl, B4⟩)
    · have HKM := Lib.hid hk
      clear h hm hk
      refine (specMV_yes r c A2 c2 _ _ zs X HSX.out (Nat.le_refl _) rfl (by omega) HM.out).mono ?_
      rintro e w4 ⟨rfl, hb4⟩
      have hs4 := hb4.size
      obtain ⟨y0, y1, y2, _, _, _, ylt⟩ := J2.out.below hb4 (by omega)
      go_wp2_with fail
      refine (specMV_no kr kc A3 c3 _ _ ks w4 (HKX.out.below hb4 (Nat.le_refl _)) (by omega) rfl (by omega) HKM.out).mono ?_
      rintro e w5 ⟨rfl, hb5⟩
      have hbb : Below X.heap.size X w5 := hb4.trans (hb5.mono hs4)
      have HP := Lib.hid (J1.out.below hbb (by omega))
      obtain ⟨b0, b1, b2, g0, g1, g2, blt⟩ := HP.out
      have HB := Lib.hid (N3.out.trans (hbb.mono (by omega)))
      clear hb4 hb5 hbb y0 y1 y2
      go_wp2
      have P2 := ((HP.out.set0 (.int .i64 0)).set1 (.int .i64 0)).set2 (.slice none 0 0)
      have B4 := ((HB.out.setCell (p := ⟨w.heap.size + 1 + 1, 0, none⟩) (by simp; omega) (.int .i64 0)).setCell (p := ⟨w.heap.size + 1 + 1, 1, none⟩) (by simp; omega) (.int .i64 0)).setCell (p := ⟨w.heap.size + 1 + 1, 2, none⟩) (by simp; omega) (.slice none 0 0)
      obtain ⟨W4, hW4⟩ : ∃ W4, (((w5.setCell ⟨w.heap.size + 1 + 1, 0, none⟩ (.int .i64 0)).setCell ⟨w.heap.size + 1 + 1, 1, none⟩ (.int .i64 0)).setCell ⟨w.heap.size + 1 + 1, 2, none⟩ (.slice none 0 0)) = W4 := ⟨_, rfl⟩
      rw [hW4] at P2 B4 ⊢
      obtain ⟨z0, z1, z2, _, _, _, _⟩ := P2
      refine bodyPost_ret (v := matV 0 0 (.slice none 0 0)) (by simp [results, Try.results41, go_sem, z0, z1, z2]) rfl ?_
      exact ⟨rfl, B4⟩
  · have HM := Lib.hid hm
    clear h hm
    refine (specMV_no r c A2 c2 _ _ zs X HSX.out (Nat.le_refl _) rfl (by omega) HM.out).mono ?_
    rintro e w4 ⟨rfl, hb4⟩
    have hs4 := hb4.size
    have HP := Lib.hid (J1.out.below hb4 (by omega))
    obtain ⟨b0, b1, b2, g0, g1, g2, blt⟩ := HP.out
    have HB := Lib.hid (N3.out.trans (hb4.mono (by omega)))
    clear hb4
    go_wp2
    have P2 := ((HP.out.set0 (.int .i64 0)).set1 (.int .i64 0)).set2 (.slice none 0 0)
    have B4 := ((HB.out.setCell (p := ⟨w.heap.size + 1 + 1, 0, none⟩) (by simp; omega) (.int .i64 0)).setCell (p := ⟨w.heap.size + 1 + 1, 1, none⟩) (by simp; omega) (.int .i64 0)).setCell (p := ⟨w.heap.size + 1 + 1, 2, none⟩) (by simp; omega) (.slice none 0 0)
    obtain ⟨W4, hW4⟩ : ∃ W4, (((w4.setCell ⟨w.heap.size + 1 + 1, 0, none⟩ (.int .i64 0)).setCell ⟨w.heap.size + 1 + 1, 1, none⟩ (.int .i64 0)).setCell ⟨w.heap.size + 1 + 1, 2, none⟩ (.slice none 0 0)) = W4 := ⟨_, rfl⟩
    rw [hW4] at P2 B4 ⊢
    obtain ⟨z0, z1, z2, _, _, _, _⟩ := P2
    refine bodyPost_ret (v := matV 0 0 (.slice none 0 0)) (by simp [results, Try.results41, go_sem, z0, z1, z2]) rfl ?_
    exact ⟨rfl, B4⟩
set_option maxRecDepth 20000 in
set_option maxHeartbeats 3200000 in
theorem specFold_yes (r c : Nat) (A : Option Addr) (cap n B : Nat) (zs : List Int) (kr kc : Nat) (Ak : Option Addr) (capk nk Bk : Nat) (ks : List Int) (w : World) (hs : Sl w B A zs) (hB : B ≤ w.heap.size) (e : n = zs.length) (hn : n ≤ 1100000) (hsk : Sl w Bk Ak ks) (hBk : Bk ≤ w.heap.size) (ek : nk = ks.length) (hnk : nk ≤ 1100000) (h : OkF r c zs kr kc ks) : Calls Try.prog 41 #[matV r c (.slice A n cap), matV kr kc (.slice Ak nk capk)] w fun e w' => ∃ s, e = .returned (matV ((r - kr + 1 : Nat) : Int) ((c - kc + 1 : Nat) : Int) s) ∧ Row w' w.heap.size w'.heap.size s (foldZ kr kc r c zs ks) ∧ Below w.heap.size w w' := by
  obtain ⟨hm, hk, hkr, hkc⟩ := h
  have hr1 := hm.1
  have hc1 := hm.2.1
  have hkr1 := hk.1
  have hkc1 := hk.2.1
  have HLEN := Lib.hid (show zs.length = r * c by have := hm.2.2.1; exact_mod_cast this)
  have HLENK := Lib.hid (show ks.length = kr * kc by have := hk.2.2.1; exact_mod_cast this)
  have HZ := Lib.hid fun p => getD_rng hm.2.2.2 p
  have HKZ := Lib.hid fun p => getD_rng hk.2.2.2 p
  have hFull : Hid (tabTo (c - kc + 1) (fun a b => foldS kr kc c zs ks a b (kr * kc) % 4096) ((r - kr + 1) * (c - kc + 1)) = foldZ kr kc r c zs ks) := rfl
  have hTS : Hid (∀ k, tabTo (c - kc + 1) (fun a b => foldS kr kc c zs ks a b (kr * kc) % 4096) (k + 1) = tabTo (c - kc + 1) (fun a b => foldS kr kc c zs ks a b (kr * kc) % 4096) k ++ [foldS kr kc c zs ks (k / (c - kc + 1)) (k % (c - kc + 1)) (kr * kc) % 4096]) := fun k => tabTo_succ _ _ k
  have hTL : Hid (∀ k, (tabTo (c - kc + 1) (fun a b => foldS kr kc c zs ks a b (kr * kc) % 4096) k).length = k) := fun k => tabTo_len _ _ k
  obtain ⟨T, hT⟩ : ∃ T, tabTo (c - kc + 1) (fun a b => foldS kr kc c zs ks a b (kr * kc) % 4096) = T := ⟨_, rfl⟩
  have hT0 : T 0 = [] := by rw [← hT]; rfl
  rw [hT] at hFull hTS hTL
  clear hT
  obtain ⟨R, hR⟩ : ∃ R : Nat, r - kr + 1 = R := ⟨_, rfl⟩
  obtain ⟨C, hC⟩ : ∃ C : Nat, c - kc + 1 = C := ⟨_, rfl⟩
  rw [hR, hC] at hFull ⊢
  rw [hC] at hTS
  have hRi : (r : Int) - (kr : Int) + 1 = (R : Int) := by omega
  have hCi : (c : Int) - (kc : Int) + 1 = (C : Int) := by omega
  have hRC := side_mul (r := R) (c := C) (by omega) (by omega)
  have hri : (R : Int) * (C : Int) = ((R * C : Nat) : Int) := by simp
  obtain ⟨N, hN⟩ : ∃ N, R * C = N := ⟨_, rfl⟩
  rw [hN] at hri hFull
  have hN1 : N ≤ 25 ∧ 1 ≤ N := by omega
  have hdkr : decide (r < kr) = false := by simp; omega
  have hdkc : decide (c < kc) = false := by simp; omega
  have HM := Lib.hid hm
  have HKM := Lib.hid hk
  have HT0 := Lib.hid hT0
  have HRC := Lib.hid (And.intro hR (And.intro hC hN))
  clear hm hk hT0 hR hC hN hRC
  subst e
  subst ek
  obtain ⟨W, hW⟩ : ∃ W, ((w.alloc (.cells #[.int .i64 r, .int .i64 c, .slice A zs.length cap] 26)).alloc (.cells #[.int .i64 kr, .int .i64 kc, .slice Ak ks.length capk] 26)).alloc (.cells #[.int .i64 0, .int .i64 0, .slice none 0 0] 26) = W := ⟨_, rfl⟩
  obtain ⟨q0, q2, q1, hb, hws⟩ := nest3 w r c kr kc (.slice A zs.length cap) (.slice Ak ks.length capk) W hW.symm
  have HS := Lib.hid (hs.below hb hB)
  have HK := Lib.hid (hsk.below hb hBk)
  have Q0 := Lib.hid q0
  have Q1 := Lib.hid q1
  have Q2 := Lib.hid q2
  obtain ⟨a0, a1, a2, f0, f1, f2, alt⟩ := q0
  clear hs hsk q1 q2
  go_enter Try.func41, Try.ntmps41
  go_wp2_with fail
  refine (ownM_any r c A cap _ B zs W HS.out (by omega) rfl hn).mono ?_
  rintro e w2 ⟨s2, rfl, hr2, hb2⟩
  obtain ⟨A2, c2, rfl, hnc2, hcm2, _⟩ := hr2.form
  have hz2 := hb2.size
  have k0 := Q0.out.below hb2 (by omega)
  have k1 := Q1.out.below hb2 (by omega)
  have k2 := Q2.out.below hb2 (by omega)
  have K0 := Lib.hid (((k0.set0 (.int .i64 r)).set1 (.int .i64 c)).set2 (.slice A2 zs.length c2))
  have K1 := Lib.hid (((k1.far (a := ⟨w.heap.size, 0, none⟩) (by simp; omega) (.int .i64 r)).far (a := ⟨w.heap.size, 1, none⟩) (by simp; omega) (.int .i64 c)).far (a := ⟨w.heap.size, 2, none⟩) (by simp; omega) (.slice A2 zs.length c2))
  have K2 := Lib.hid (((k2.far (a := ⟨w.heap.size, 0, none⟩) (by simp) (.int .i64 r)).far (a := ⟨w.heap.size, 1, none⟩) (by simp) (.int .i64 c)).far (a := ⟨w.heap.size, 2, none⟩) (by simp) (.slice A2 zs.length c2))
  obtain ⟨d0, d1, d2, e0, e1, e2, dlt⟩ := k2
  obtain ⟨c0, c1, c2', g0, g1, g2, clt⟩ := k0
  have R1 := hr2.grown (set_grown _ w.heap.size 0 (.int .i64 r)) (fun g e => by cases e; left; omega)
  have R2 := R1.grown (set_grown _ w.heap.size 1 (.int .i64 c)) (fun g e => by cases e; left; omega)
  have R3 := R2.grown (set_grown _ w.heap.size 2 (.slice A2 zs.length c2)) (fun g e => by cases e; left; omega)
  have B3 := (((hb.trans (hb2.mono (show w.heap.size ≤ W.heap.size by omega))).setCell (p := ⟨w.heap.size, 0, none⟩) (Nat.le_refl _) (.int .i64 r)).setCell (p := ⟨w.heap.size, 1, none⟩) (Nat.le_refl _) (.int .i64 c)).setCell (p := ⟨w.heap.size, 2, none⟩) (Nat.le_refl _) (.slice A2 zs.length c2)
  have S3 : ((((w2.setCell ⟨w.heap.size, 0, none⟩ (.int .i64 r)).setCell ⟨w.heap.size, 1, none⟩ (.int .i64 c)).setCell ⟨w.heap.size, 2, none⟩ (.slice A2 zs.length c2)).heap.size) = w2.heap.size := by simp
  have HRB := Lib.hid R3
  have HBB := Lib.hid B3
  have HK3 := Lib.hid ((((HK.out.below hb2 (by omega)).keep (w' := w2.setCell ⟨w.heap.size, 0, none⟩ (.int .i64 r)) (fun p hp => World.cell?_setCell_other _ _ _ _ (fun e => by rw [← e] at hp; exact absurd (show w.heap.size < Bk from hp) (by omega)))).keep (w' := (w2.setCell ⟨w.heap.size, 0, none⟩ (.int .i64 r)).setCell ⟨w.heap.size, 1, none⟩ (.int .i64 c)) (fun p hp => World.cell?_setCell_other _ _ _ _ (fun e => by rw [← e] at hp; exact absurd (show w.heap.size < Bk from hp) (by omega)))).keep (w' := ((w2.setCell ⟨w.heap.size, 0, none⟩ (.int .i64 r)).setCell ⟨w.heap.size, 1, none⟩ (.int .i64 c)).setCell ⟨w.heap.size, 2, none⟩ (.slice A2 zs.length c2)) (fun p hp => World.cell?_setCell_other _ _ _ _ (fun e => by rw [← e] at hp; exact absurd (show w.heap.size < Bk from hp) (by omega))))
  clear a0 a1 a2 f0 f1 f2 alt Q0 Q1 Q2 k1 R1 R2 R3 B3 hb2 hr2 hb
  go_wp2_with fail
  obtain ⟨U, hU⟩ : ∃ U, (((w2.setCell ⟨w.heap.size, 0, none⟩ (.int .i64 r)).setCell ⟨w.heap.size, 1, none⟩ (.int .i64 c)).setCell ⟨w.heap.size, 2, none⟩ (.slice A2 zs.length c2)) = U := ⟨_, rfl⟩
  rw [hU] at K0 K1 K2 HRB HBB S3 HK3 ⊢
  clear hU d0 d1 d2 e0 e1 e2 dlt c0 c1 c2' g0 g1 g2 clt
  refine (ownM_any kr kc Ak capk _ Bk ks U HK3.out (by omega) rfl hnk).mono ?_
  rintro e w3 ⟨s3, rfl, hr3, hb3⟩
  obtain ⟨A3, c3, rfl, hnc3, hcm3, _⟩ := hr3.form
  have hz3 := hb3.size
  have k0 := K0.out.below hb3 (by omega)
  have k1 := K1.out.below hb3 (by omega)
  have k2 := K2.out.below hb3 (by omega)
  have J0 := Lib.hid (((k0.far (a := ⟨w.heap.size + 1, 0, none⟩) (by simp) (.int .i64 kr)).far (a := ⟨w.heap.size + 1, 1, none⟩) (by simp) (.int .i64 kc)).far (a := ⟨w.heap.size + 1, 2, none⟩) (by simp) (.slice A3 ks.length c3))
  have J1 := Lib.hid (((k1.far (a := ⟨w.heap.size + 1, 0, none⟩) (by simp) (.int .i64 kr)).far (a := ⟨w.heap.size + 1, 1, none⟩) (by simp) (.int .i64 kc)).far (a := ⟨w.heap.size + 1, 2, none⟩) (by simp) (.slice A3 ks.length c3))
  have J2 := Lib.hid (((k2.set0 (.int .i64 kr)).set1 (.int .i64 kc)).set2 (.slice A3 ks.length c3))
  have T1 := hr3.grown (set_grown _ (w.heap.size + 1) 0 (.int .i64 kr)) (fun g e => by cases e; left; omega)
  have T2 := T1.grown (set_grown _ (w.heap.size + 1) 1 (.int .i64 kc)) (fun g e => by cases e; left; omega)
  have T3 := Lib.hid (T2.grown (set_grown _ (w.heap.size + 1) 2 (.slice A3 ks.length c3)) (fun g e => by cases e; left; omega))
  have M1 := (HRB.out.below hb3 (by omega)).grown (set_grown _ (w.heap.size + 1) 0 (.int .i64 kr)) (fun g e => by cases e; left; omega)
  have M2 := M1.grown (set_grown _ (w.heap.size + 1) 1 (.int .i64 kc)) (fun g e => by cases e; left; omega)
  have M3 := Lib.hid (M2.grown (set_grown _ (w.heap.size + 1) 2 (.slice A3 ks.length c3)) (fun g e => by cases e; left; omega))
  have N3 := Lib.hid ((((HBB.out.trans (hb3.mono (by omega))).setCell (p := ⟨w.heap.size + 1, 0, none⟩) (by simp) (.int .i64 kr)).setCell (p := ⟨w.heap.size + 1, 1, none⟩) (by simp) (.int .i64 kc)).setCell (p := ⟨w.heap.size + 1, 2, none⟩) (by simp) (.slice A3 ks.length c3))
  have S5 : ((((w3.setCell ⟨w.heap.size + 1, 0, none⟩ (.int .i64 kr)).setCell ⟨w.heap.size + 1, 1, none⟩ (.int .i64 kc)).setCell ⟨w.heap.size + 1, 2, none⟩ (.slice A3 ks.length c3)).heap.size) = w3.heap.size := by simp
  obtain ⟨d0, d1, d2, e0, e1, e2, dlt⟩ := k2
  obtain ⟨c0, c1, c2', g0, g1, g2, clt⟩ := k0
  clear k1 hb3 hr3 T1 T2 M1 M2 K0 K1 K2 HBB HRB HK3
  go_wp2_with fail
  obtain ⟨X, hX⟩ : ∃ X, (((w3.setCell ⟨w.heap.size + 1, 0, none⟩ (.int .i64 kr)).setCell ⟨w.heap.size + 1, 1, none⟩ (.int .i64 kc)).setCell ⟨w.heap.size + 1, 2, none⟩ (.slice A3 ks.length c3)) = X := ⟨_, rfl⟩
  rw [hX] at J0 J1 J2 T3 M3 N3 S5 ⊢
  clear hX d0 d1 d2 e0 e1 e2 dlt c0 c1 c2' g0 g1 g2 clt
  have HSX := Lib.hid (M3.out.sl_now.more (show w2.heap.size ≤ X.heap.size by omega))
  have HKX := Lib.hid (T3.out.sl_now.more (show w3.heap.size ≤ X.heap.size by omega))
  clear M3 T3
  refine (specMV_yes r c A2 c2 _ _ zs X HSX.out (Nat.le_refl _) rfl (by omega) HM.out).mono ?_
  rintro e w4 ⟨rfl, hb4⟩
  have hs4 := hb4.size
  obtain ⟨y0, y1, y2, _, _, _, ylt⟩ := J2.out.below hb4 (by omega)
  go_wp2_with fail
  refine (specMV_yes kr kc A3 c3 _ _ ks w4 (HKX.out.below hb4 (Nat.le_refl _)) (by omega) rfl (by omega) HKM.out).mono ?_
  rintro e w5 ⟨rfl, hb5⟩
  have hbb : Below X.heap.size X w5 := hb4.trans (hb5.mono hs4)
  have hs5 := hbb.size
  have k0 := J0.out.below hbb (by omega)
  have k1 := J1.out.below hbb (by omega)
  have k2 := J2.out.below hbb (by omega)
  have HS5 := Lib.hid (HSX.out.below hbb (Nat.le_refl _))
  have HK5 := Lib.hid (HKX.out.below hbb (Nat.le_refl _))
  have HB5 := Lib.hid (N3.out.trans (hbb.mono (by omega)))
  clear y0 y1 y2 hb4 hb5 hbb
  have k5 := Cell3.new w5 (.int .i64 R) (.int .i64 C) (.slice none 0 0) 26
  have hbx := World.grownBy_alloc w5 (.cells #[.int .i64 R, .int .i64 C, .slice none 0 0] 26) none
  obtain ⟨V, hV⟩ : ∃ V, w5.alloc (.cells #[.int .i64 R, .int .i64 C, .slice none 0 0] 26) = V := ⟨_, rfl⟩
  rw [hV] at k5 hbx
  have hsv : V.heap.size = w5.heap.size + 1 := by rw [← hV]; simp
  have hbv : Below w5.heap.size w5 V := hV ▸ (Below.refl _ _).alloc (Nat.le_refl _) _
  have HSV2 := Lib.hid (HS5.out.below hbv hs5)
  have HKV2 := Lib.hid (HK5.out.below hbv hs5)
  have HBV2 := Lib.hid (HB5.out.trans (hbv.mono (by omega)))
  have K0' := Lib.hid (k0.grown hbx (by simp))
  have K1' := Lib.hid (k1.grown hbx (by simp))
  have K2' := Lib.hid (k2.grown hbx (by simp))
  have K5' := Lib.hid k5
  obtain ⟨c0, c1, c2', d0, d1, d2, clt⟩ := k0
  obtain ⟨y0, y1, y2, _, _, _, ylt⟩ := k2
  obtain ⟨v0, v1, v2, p0, p1, p2, vlt⟩ := k5
  clear hbv hbx k1 HS5 HK5 HB5
  go_wp2
  clear v0 v1 v2 p0 p1 p2 c0 c1 c2' d0 d1 d2 clt vlt y0 y1 y2 ylt
  have hord : w.heap.size + 3 ≤ X.heap.size := by omega
  go_loopw [6] (fun i wr => ∃ (k : Nat) (sv : Value), k ≤ N ∧ i = .int .i64 k ∧ Cell3 wr w5.heap.size (.int .i64 R) (.int .i64 C) sv ∧ Row wr V.heap.size wr.heap.size sv (T k) ∧ Cell3 wr w.heap.size (.int .i64 r) (.int .i64 c) (.slice A2 zs.length c2) ∧ Cell3 wr (w.heap.size + 1) (.int .i64 kr) (.int .i64 kc) (.slice A3 ks.length c3) ∧ Cell3 wr (w.heap.size + 1 + 1) (.int .i64 0) (.int .i64 0) (.slice none 0 0) ∧ Sl wr X.heap.size A2 zs ∧ Sl wr X.heap.size A3 ks ∧ Below w.heap.size w wr ∧ V.heap.size ≤ wr.heap.size) (fun i _ => N - (intOf i).toNat)
  case atStart => exact ⟨0, _, Nat.zero_le _, rfl, K5'.out.set2 _, by rw [HT0.out]; exact Row.nil_ _ _ _, K0'.out.far (a := ⟨w5.heap.size, 2, none⟩) (show w.heap.size ≠ w5.heap.size by omega) _, K2'.out.far (a := ⟨w5.heap.size, 2, none⟩) (show w.heap.size + 1 ≠ w5.heap.size by omega) _, K1'.out.far (a := ⟨w5.heap.size, 2, none⟩) (show w.heap.size + 1 + 1 ≠ w5.heap.size by omega) _, HSV2.out.keep (fun p hp => World.cell?_setCell_other _ _ _ _ (fun e => by rw [← e] at hp; exact absurd (show w5.heap.size < X.heap.size from hp) (by omega))), HKV2.out.keep (fun p hp => World.cell?_setCell_other _ _ _ _ (fun e => by rw [← e] at hp; exact absurd (show w5.heap.size < X.heap.size from hp) (by omega))), HBV2.out.setCell (p := ⟨w5.heap.size, 2, none⟩) (show w.heap.size ≤ w5.heap.size by omega) _, by simp⟩
  case round =>
    obtain ⟨k, sv, hk, rfl, h5, hrow, h0, h2, h1, hsl, hslk, hbel, hsz⟩ := hrel
    obtain ⟨As, cs, hsve, _, _, _⟩ := hrow.form
    rw [hTL.out k] at hsve
    subst hsve
    by_cases hlt : k < N
    · have HT := Lib.hid (hTS.out k)
      have hC0 : 0 < C := by omega
      have hqR : k / C < R := (Nat.div_lt_iff_lt_mul hC0).2 (by have := HRC.out.2.2; omega)
      have hmC : k % C < C := Nat.mod_lt _ hC0
      have hdv := tdiv_nat k C
      have hmd := tmod_nat k C
      have hFB := Lib.hid fun n => foldS_bound (kr := kr) (kc := kc) (c := c) (a := k / C) (b := k % C) HZ.out HKZ.out n
      have hFS : Hid (∀ n, foldS kr kc c zs ks (k / C) (k % C) (n + 1) = foldS kr kc c zs ks (k / C) (k % C) n + zs.getD ((k / C + n / kc) * c + (k % C + n % kc)) 0 * ks.getD n 0) := fun n => rfl
      have hF0 : Hid (foldS kr kc c zs ks (k / C) (k % C) 0 = 0) := rfl
      obtain ⟨F, hF⟩ : ∃ F, foldS kr kc c zs ks (k / C) (k % C) = F := ⟨_, rfl⟩
      rw [hF] at hFB hFS hF0 HT
      clear hF
      obtain ⟨q, hq⟩ : ∃ q, k / C = q := ⟨_, rfl⟩
      obtain ⟨m, hmq⟩ : ∃ m, k % C = m := ⟨_, rfl⟩
      rw [hq] at hdv hqR hFS
      rw [hmq] at hmd hmC hFS
      clear hq hmq
      rw [← HLENK.out] at HT
      obtain ⟨ys, hys⟩ : ∃ ys, T k = ys := ⟨_, rfl⟩
      have hylen : ys.length = k := by rw [← hys]; exact hTL.out k
      rw [hys] at HT hrow
      clear hys
      have hkN : (k : Int) < (N : Int) := by omega
      have HROW := Lib.hid hrow
      have HSL := Lib.hid hsl
      have HKL := Lib.hid hslk
      have HBEL := Lib.hid hbel
      have H5 := Lib.hid h5
      have H0 := Lib.hid h0
      have H1 := Lib.hid h1
      have H2 := Lib.hid h2
      have HYL := Lib.hid hylen
      have hbl := Lib.hid hrow.block_lt
      obtain ⟨v0, v1, v2, _, _, _, vlt⟩ := h5
      obtain ⟨c0, c1, c2', _, _, _, clt⟩ := h0
      obtain ⟨y0, y1, y2, _, _, _, ylt⟩ := h2
      clear hrow hsl hslk hbel h1 hylen
      go_wp2
      obtain ⟨wq, hwq⟩ : ∃ wq, wq = wr := ⟨_, rfl⟩
      rw [← hwq] at HROW HSL HKL HBEL H5 H0 H1 H2 hbl hsz
      have hDq : Drew wq wr := by rw [hwq]; exact Drew.refl _
      clear hwq v0 v1 v2 c0 c1 c2' y0 y1 y2 vlt clt ylt
      go_loopw [7, 8] (fun s i wi => ∃ j : Nat, j ≤ ks.length ∧ i = .int .i64 j ∧ s = .int .i64 (F j) ∧ Drew wq wi) (fun _ i _ => ks.length - (intOf i).toNat)
      case atStart => exact ⟨0, Nat.zero_le _, rfl, by rw [hF0.out], hDq⟩
      case round =>
        clear hDq
        obtain ⟨j, hj, rfl, rfl, hDj⟩ := hrel
        obtain ⟨v0, v1, v2, _, _, _, vlt⟩ := H5.out.grown (hDj.grown none) (by simp)
        obtain ⟨c0, c1, c2', _, _, _, clt⟩ := H0.out.grown (hDj.grown none) (by simp)
        obtain ⟨y0, y1, y2, _, _, _, ylt⟩ := H2.out.grown (hDj.grown none) (by simp)
        by_cases hjlt : j < ks.length
        · have hkc0 : 0 < kc := by omega
          have hjq : j / kc < kr := (Nat.div_lt_iff_lt_mul hkc0).2 (by have := HLENK.out; omega)
          have hjm : j % kc < kc := Nat.mod_lt _ hkc0
          have hdv2 := tdiv_nat j kc
          have hmd2 := tmod_nat j kc
          have hFn := hFS.out j
          have hF1 := hFB.out j
          have hF2 := hFB.out (j + 1)
          have hjl := HKM.out.len
          obtain ⟨jq, hjqe⟩ : ∃ jq, j / kc = jq := ⟨_, rfl⟩
          obtain ⟨jm, hjme⟩ : ∃ jm, j % kc = jm := ⟨_, rfl⟩
          rw [hjqe] at hjq hdv2 hFn
          rw [hjme] at hjm hmd2 hFn
          have hrowlt : q + jq < r := by have := HRC.out.1; omega
          have hcollt : m + jm < c := by have := HRC.out.2.1; omega
          have hidx : (q + jq) * c + (m + jm) < zs.length := by rw [HLEN.out]; exact ix_lt hrowlt hcollt
          obtain ⟨b, off, hA2, hbX, hcz⟩ := (hDj.sl HSL.out).at_ hidx
          subst hA2
          obtain ⟨bk, offk, hA3, hbkX, hck⟩ := (hDj.sl HKL.out).at_ hjlt
          subst hA3
          obtain ⟨ro, hro⟩ : ∃ ro, q + jq = ro := ⟨_, rfl⟩
          obtain ⟨co, hco⟩ : ∃ co, m + jm = co := ⟨_, rfl⟩
          rw [hro] at hidx hcz hFn hrowlt
          rw [hco] at hidx hcz hFn hcollt
          have hrc : (ro : Int) * (c : Int) = ((ro * c : Nat) : Int) := by simp
          obtain ⟨rc, hrce⟩ : ∃ rc, ro * c = rc := ⟨_, rfl⟩
          rw [hrce] at hrc hidx hcz hFn
          obtain ⟨ix, hix⟩ : ∃ ix, rc + co = ix := ⟨_, rfl⟩
          rw [hix] at hidx hcz hFn
          obtain ⟨z, hze⟩ : ∃ z, zs.getD ix 0 = z := ⟨_, rfl⟩
          obtain ⟨x, hxe⟩ : ∃ x, ks.getD j 0 = x := ⟨_, rfl⟩
          obtain ⟨f1, hf1⟩ : ∃ f1, F j = f1 := ⟨_, rfl⟩
          obtain ⟨f2, hf2⟩ : ∃ f2, F (j + 1) = f2 := ⟨_, rfl⟩
          have hzr := HZ.out ix
          have hxr := HKZ.out j
          rw [hze] at hcz hFn hzr
          rw [hxe] at hck hFn hxr
          rw [hf1] at hFn hF1 ⊢
          rw [hf2] at hFn hF2
          have hyr := mul_rng hzr hxr
          obtain ⟨y, hy⟩ : ∃ y, z * x = y := ⟨_, rfl⟩
          rw [hy] at hFn hyr
          have hl25 := HM.out.len
          have hF1' : f1 ≤ 900000000 ∧ 0 ≤ f1 := by omega
          have hw1 : IntKind.i64.wrap ((q : Int) + (jq : Int)) = (ro : Int) := by rw [wrap_in (by omega) (by omega)]; omega
          have hw2 : IntKind.i64.wrap ((m : Int) + (jm : Int)) = (co : Int) := by rw [wrap_in (by omega) (by omega)]; omega
          have hw3 : IntKind.i64.wrap (rc : Int) = (rc : Int) := wrap_in (by omega) (by omega)
          have hw4 : IntKind.i64.wrap ((rc : Int) + (co : Int)) = (ix : Int) := by rw [wrap_in (by omega) (by omega)]; omega
          have hw5 : IntKind.i64.wrap y = y := wrap_in (by omega) (by omega)
          have hw6 : IntKind.i64.wrap (f1 + y) = f2 := by rw [wrap_in (by omega) (by omega)]; omega
          have hixl : (ix : Int) < (zs.length : Int) := by omega
          have hjl' : (j : Int) < (ks.length : Int) := by omega
          have HF2 := Lib.hid hf2
          have hDD := Lib.hid hDj
          clear hFn hf1 hf2 hze hxe hix hrce hro hco hjqe hjme hF2 hDj
          go_wp2
          go_quiet (fail)
          go_wp2
          go_quiet (fail)
          go_wp2
          go_quiet (fail)
          go_wp2
          go_roundw
          case rel => exact ⟨j + 1, by omega, by go_num, by rw [HF2.out], by obtain ⟨d, hd⟩ := hDD.out; subst hd; exact ⟨_, drewN_drewN _ _ _⟩⟩
          case measure => simp [intOf]; omega
        · have e : j = ks.length := by omega
          subst e
          have hF1 := hFB.out ks.length
          have hjl := HKM.out.len
          have hsc := Lib.hid fun wx => specRing (F ks.length) wx hF1.1 (by omega)
          obtain ⟨z, hze⟩ : ∃ z, F ks.length % 4096 = z := ⟨_, rfl⟩
          rw [hze] at HT hsc
          clear hF1 hze
          have HROW := Lib.hid (hDj.row HROW.out)
          have HSL := Lib.hid (hDj.sl HSL.out)
          have HKL := Lib.hid (hDj.sl HKL.out)
          have HBEL := Lib.hid (HBEL.out.trans (hDj.below _))
          have H5 := Lib.hid (H5.out.grown (hDj.grown none) (by simp))
          have H0 := Lib.hid (H0.out.grown (hDj.grown none) (by simp))
          have H1 := Lib.hid (H1.out.grown (hDj.grown none) (by simp))
          have H2 := Lib.hid (H2.out.grown (hDj.grown none) (by simp))
          have hszr : wr.heap.size = wq.heap.size := by obtain ⟨d, hd⟩ := hDj; rw [hd]; rfl
          rw [← hszr] at hbl hsz HROW
          clear hDj hszr
          have hal := World.grownBy_alloc wr (.cells #[.int .i64 z] 3) none
          have hownA := (HROW.out.grown hal (fun g e => by cases e)).wider (Nat.le_refl _) (hi' := wr.heap.size + 1) (by omega)
          have hD : Drew (wr.alloc (.cells #[.int .i64 z] 3)) (wr.alloc (.cells #[.int .i64 z] 3)).drew := ⟨1, rfl⟩
          have hownD := hD.row hownA
          have H5A := Lib.hid ((H5.out.grown hal (by simp)).grown (hD.grown none) (by simp))
          have H0A := Lib.hid ((H0.out.grown hal (by simp)).grown (hD.grown none) (by simp))
          have H1A := Lib.hid ((H1.out.grown hal (by simp)).grown (hD.grown none) (by simp))
          have HSA := Lib.hid (hD.sl (HSL.out.below (B' := wr.heap.size) ((Below.refl _ wr).alloc (Nat.le_refl _) (.cells #[.int .i64 z] 3)) (by omega)))
          have HBA := Lib.hid ((HBEL.out.alloc (by omega) (.cells #[.int .i64 z] 3)).trans (hD.below _))
          have hcz : (wr.alloc (.cells #[.int .i64 z] 3)).drew.cell? ⟨wr.heap.size, 0, none⟩ = some (.int .i64 z) := World.cell?_alloc_at _ _ _ _ rfl
          have hne : ∀ b, b < V.heap.size → some b ≠ (Value.slice As k cs).ownBlock := fun b hb e => by have := (hbl.out b e.symm).1; omega
          have HNE := Lib.hid hne
          obtain ⟨hx50, hx51, hx52, _, _, _, _⟩ := H5A.out
          obtain ⟨hx00, hx01, hx02, _, _, _, _⟩ := H0A.out
          have H2A := Lib.hid ((H2.out.grown hal (by simp)).grown (hD.grown none) (by simp))
          have HKA := Lib.hid (hD.sl (HKL.out.below (B' := wr.heap.size) ((Below.refl _ wr).alloc (Nat.le_refl _) (.cells #[.int .i64 z] 3)) (by omega)))
          clear hal hD hne
          go_wp2
          go_region_law (first  | (go_simp; go_at_call 57; refine (hsc.out _).mono ?_; rintro e w' ⟨rfl, rfl⟩)| (refine step_app1 (by rfl) (.tmp 104) (.tmp 107) (by rfl) V.heap.size (wr.heap.size + 1) (.slice As k cs) ys k (by rfl) hownD wr.heap.size z (by rfl) hcz HYL.out (by omega) (by simp; omega) ?_; intro g5 c5 w6 hr5 hg5 hat5 hlt5; obtain ⟨y3, y4, y5, g3, g4, g5', ylt⟩ := H5A.out.grown hg5 (HNE.out w5.heap.size (by omega)); obtain ⟨y0, y1, y2, _, _, _, _⟩ := H0A.out.grown hg5 (HNE.out w.heap.size (by omega))))
          all_goals (
            have J5 := Lib.hid ((H5A.out.grown hg5 (HNE.out w5.heap.size (by omega))).set2 (.slice (some ⟨g5, 0, none⟩) (k + 1) c5))
            have J0 := Lib.hid ((H0A.out.grown hg5 (HNE.out _ (by omega))).far (a := ⟨w5.heap.size, 2, none⟩) (show w.heap.size ≠ w5.heap.size by omega) (.slice (some ⟨g5, 0, none⟩) (k + 1) c5))
            have J1 := Lib.hid ((H1A.out.grown hg5 (HNE.out _ (by omega))).far (a := ⟨w5.heap.size, 2, none⟩) (show w.heap.size + 1 + 1 ≠ w5.heap.size by omega) (.slice (some ⟨g5, 0, none⟩) (k + 1) c5))
            have JS := Lib.hid ((HSA.out.keep (w' := w6) (fun p hp => World.cell?_of_block (hg5.block _ (by simp; omega) (HNE.out _ (by omega))))).keep (w' := w6.setCell ⟨w5.heap.size, 2, none⟩ (.slice (some ⟨g5, 0, none⟩) (k + 1) c5)) (fun p hp => World.cell?_setCell_other _ _ _ _ (fun e => by rw [← e] at hp; exact absurd (show w5.heap.size < X.heap.size from hp) (by omega))))
            have J2' := Lib.hid ((H2A.out.grown hg5 (HNE.out _ (by omega))).far (a := ⟨w5.heap.size, 2, none⟩) (show w.heap.size + 1 ≠ w5.heap.size by omega) (.slice (some ⟨g5, 0, none⟩) (k + 1) c5))
            have JK := Lib.hid ((HKA.out.keep (w' := w6) (fun p hp => World.cell?_of_block (hg5.block _ (by simp; omega) (HNE.out _ (by omega))))).keep (w' := w6.setCell ⟨w5.heap.size, 2, none⟩ (.slice (some ⟨g5, 0, none⟩) (k + 1) c5)) (fun p hp => World.cell?_setCell_other _ _ _ _ (fun e => by rw [← e] at hp; exact absurd (show w5.heap.size < X.heap.size from hp) (by omega))))
            have JB := Lib.hid ((HBA.out.grown hg5 (by simp; omega) (fun g e => by have := (hbl.out g e).1; omega)).setCell (p := ⟨w5.heap.size, 2, none⟩) (show w.heap.size ≤ w5.heap.size by omega) (.slice (some ⟨g5, 0, none⟩) (k + 1) c5))
            have JR := Lib.hid (hr5.grown (set_grown w6 w5.heap.size 2 (.slice (some ⟨g5, 0, none⟩) (k + 1) c5)) (fun g e => by cases e; left; omega))
            have hsz5 := hg5.size
            clear hr5 hg5 hat5 y0 y1 y2 y3 y4 y5
            go_wp2
            go_roundw
            case rel => exact ⟨k + 1, _, by omega, by go_num, J5.out, by rw [HT.out]; simpa using JR.out, J0.out, J2'.out, J1.out, JS.out, JK.out, JB.out, by simp at hsz5 ⊢; omega⟩
            case measure => simp [intOf]; omega)
    · have e : k = N := by omega
      have hE := Lib.hid e
      rw [e, hFull.out] at hrow
      have HROW := Lib.hid hrow
      have HBEL := Lib.hid hbel
      have H1 := Lib.hid h1
      obtain ⟨v0, v1, v2, p0, p1, p2, vlt⟩ := h5
      obtain ⟨b0, b1, b2, g0, g1, g2, blt⟩ := h1
      clear hrow hsl hslk hbel e
      go_wp2
      have P2 := ((H1.out.set0 (.int .i64 R)).set1 (.int .i64 C)).set2 (.slice As k cs)
      rw [hE.out] at P2
      have R2 := HROW.out.grown (set_grown _ (w.heap.size + 1 + 1) 0 (.int .i64 R)) (fun g e => by cases e; left; omega)
      have R3 := R2.grown (set_grown _ (w.heap.size + 1 + 1) 1 (.int .i64 C)) (fun g e => by cases e; left; omega)
      have R4 := R3.grown (set_grown _ (w.heap.size + 1 + 1) 2 (.slice As k cs)) (fun g e => by cases e; left; omega)
      have B4 := ((HBEL.out.setCell (p := ⟨w.heap.size + 1 + 1, 0, none⟩) (by simp; omega) (.int .i64 R)).setCell (p := ⟨w.heap.size + 1 + 1, 1, none⟩) (by simp; omega) (.int .i64 C)).setCell (p := ⟨w.heap.size + 1 + 1, 2, none⟩) (by simp; omega) (.slice As k cs)
      rw [hE.out] at R4 B4 ⊢
      have S4 : ((((wr.setCell ⟨w.heap.size + 1 + 1, 0, none⟩ (.int .i64 R)).setCell ⟨w.heap.size + 1 + 1, 1, none⟩ (.int .i64 C)).setCell ⟨w.heap.size + 1 + 1, 2, none⟩ (.slice As N cs)).heap.size) = wr.heap.size := by simp
      obtain ⟨W4, hW4⟩ : ∃ W4, (((wr.setCell ⟨w.heap.size + 1 + 1, 0, none⟩ (.int .i64 R)).setCell ⟨w.heap.size + 1 + 1, 1, none⟩ (.int .i64 C)).setCell ⟨w.heap.size + 1 + 1, 2, none⟩ (.slice As N cs)) = W4 := ⟨_, rfl⟩
      rw [hW4] at P2 R4 B4 S4 ⊢
      obtain ⟨z0, z1, z2, _, _, _, _⟩ := P2
      refine bodyPost_ret (v := matV R C (.slice As N cs)) (by simp [results, Try.results41, go_sem, z0, z1, z2]) rfl ?_
      exact ⟨_, rfl, R4.wider (by omega) (by omega), B4⟩
end Go.Proofs.Ytakjmdjjpalaiaa
