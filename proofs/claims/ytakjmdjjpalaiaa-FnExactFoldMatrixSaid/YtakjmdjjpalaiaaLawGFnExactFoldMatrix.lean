/- The walk of the exact law FnExactFoldMatrix. (Printed by gen_LawG.py.) -/
import Derived.Test.YtakjmdjjpalaiaaLawE2
namespace Go.Proofs.Ytakjmdjjpalaiaa
open Go.RowKit
theorem Cell3.span {lo hi b : Nat} {w w' : World} {x y z : Value} (h : Cell3 w b x y z) (k : Span lo hi w w') (hd : b < lo ∨ hi ≤ b) : Cell3 w' b x y z := by
  have hb := k.block b h.lt hd
  exact ⟨(World.cell?_of_block (a := ⟨b, 0, none⟩) hb).trans h.c0, (World.cell?_of_block (a := ⟨b, 1, none⟩) hb).trans h.c1, (World.cell?_of_block (a := ⟨b, 2, none⟩) hb).trans h.c2, (World.frozen?_of_block (a := ⟨b, 0, none⟩) hb).trans h.f0, (World.frozen?_of_block (a := ⟨b, 1, none⟩) hb).trans h.f1, (World.frozen?_of_block (a := ⟨b, 2, none⟩) hb).trans h.f2, Nat.lt_of_lt_of_le h.lt k.size⟩
set_option maxRecDepth 20000 in
set_option maxHeartbeats 3200000 in
theorem law_FnExactFoldMatrix (w : World) (v0 : Value) (h0 : CameM w v0) (v1 : Value) (h1 : CameM w v1) :
    Calls Try.prog 9 #[v0, v1] w fun e w' => e = .returned (.bool true) ∧ Below w.heap.size w w' := by
  obtain ⟨r, c, A, n0, cap, zs, rfl, hz0, _, _⟩ := h0
  obtain ⟨rfl, hnc0, hcm0, hs0, _⟩ := hz0
  unfold maxLen at hcm0
  obtain ⟨r2, c2, A2, n1, cap2, zs2, rfl, hz1, _, _⟩ := h1
  obtain ⟨rfl, hnc1, hcm1, hs1, _⟩ := hz1
  unfold maxLen at hcm1
  have HS0 := Lib.hid hs0
  clear hs0
  have HS1 := Lib.hid hs1
  clear hs1
  have K20 := Cell3.new w (.int .i64 r) (.int .i64 c) (.slice A zs.length cap) 24
  have K30 := Cell3.new (w.alloc (.cells #[.int .i64 r, .int .i64 c, .slice A zs.length cap] 24)) (.int .i64 r2) (.int .i64 c2) (.slice A2 zs2.length cap2) 24
  simp only [World.size_alloc] at K30
  replace K20 := K20.alloc (.cells #[.int .i64 r2, .int .i64 c2, .slice A2 zs2.length cap2] 24)
  obtain ⟨W0, hW⟩ : ∃ W, (w.alloc (.cells #[.int .i64 r, .int .i64 c, .slice A zs.length cap] 24)).alloc (.cells #[.int .i64 r2, .int .i64 c2, .slice A2 zs2.length cap2] 24) = W := ⟨_, rfl⟩
  have hb0 : Below w.heap.size w W0 := hW ▸ ((Below.refl _ _).alloc (Nat.le_refl _) _).alloc (by simp) _
  have hsW : W0.heap.size = w.heap.size + 2 := by rw [← hW]; simp
  rw [hW] at K20 K30
  have K2_0 := Lib.hid K20
  clear K20
  have K3_0 := Lib.hid K30
  clear K30
  have HB_0 := Lib.hid hb0
  clear hb0
  go_enter Try.func9, Try.ntmps9
  have hsz := szM_any r c A zs.length cap (1048576) W0 (by omega) (by omega) (by omega)
  by_cases hn0 : (1048576 : Int) < zs.length
  · rw [if_pos hn0] at hsz
    obtain ⟨a0, a1, a2, _, _, _, alt⟩ := K2_0.out
    obtain ⟨a0, a1, a2, _, _, _, alt⟩ := K3_0.out
    go_wp2_with fail
    refine hsz.mono ?_
    rintro e w1 ⟨rfl, hb1⟩
    clear hsz
    go_wp2
    go_ret
    exact ⟨rfl, HB_0.out.trans (hb1.mono (by omega))⟩
  rw [if_neg hn0] at hsz
  have hd0 : decide (1048576 - (zs.length : Int) < 0) = false := by simp; omega
  obtain ⟨x20, x21, x22, _, _, _, x2lt⟩ := K2_0.out
  obtain ⟨x30, x31, x32, _, _, _, x3lt⟩ := K3_0.out
  go_wp2_with fail
  refine hsz.mono ?_
  rintro e W1 ⟨rfl, hb⟩
  clear hsz
  clear x20 x21 x22 x2lt x30 x31 x32 x3lt
  have s1 := hb.size
  have K2_1 := Lib.hid (K2_0.out.below hb (show w.heap.size < W0.heap.size by omega))
  have K3_1 := Lib.hid (K3_0.out.below hb (show w.heap.size + 1 < W0.heap.size by omega))
  have HB_1 := Lib.hid (HB_0.out.trans (hb.mono (show w.heap.size ≤ W0.heap.size by omega)))
  clear K2_0 K3_0 HB_0 hb
  have hsz := szM_any r2 c2 A2 zs2.length cap2 (1048576 - (zs.length : Int)) W1 (by omega) (by omega) (by omega)
  by_cases hn1 : (1048576 - (zs.length : Int) : Int) < zs2.length
  · rw [if_pos hn1] at hsz
    obtain ⟨a0, a1, a2, _, _, _, alt⟩ := K2_1.out
    obtain ⟨a0, a1, a2, _, _, _, alt⟩ := K3_1.out
    go_wp2_with fail
    refine hsz.mono ?_
    rintro e w1 ⟨rfl, hb1⟩
    clear hsz
    go_wp2
    go_ret
    exact ⟨rfl, HB_1.out.trans (hb1.mono (by omega))⟩
  rw [if_neg hn1] at hsz
  have hd1 : decide (1048576 - (zs.length : Int) - (zs2.length : Int) < 0) = false := by simp; omega
  obtain ⟨x20, x21, x22, _, _, _, x2lt⟩ := K2_1.out
  obtain ⟨x30, x31, x32, _, _, _, x3lt⟩ := K3_1.out
  go_wp2_with fail
  refine hsz.mono ?_
  rintro e W2 ⟨rfl, hb⟩
  clear hsz
  clear x20 x21 x22 x2lt x30 x31 x32 x3lt
  have s2 := hb.size
  have K2_2 := Lib.hid (K2_1.out.below hb (show w.heap.size < W1.heap.size by omega))
  have K3_2 := Lib.hid (K3_1.out.below hb (show w.heap.size + 1 < W1.heap.size by omega))
  have HB_2 := Lib.hid (HB_1.out.trans (hb.mono (show w.heap.size ≤ W1.heap.size by omega)))
  clear K2_1 K3_1 HB_1 hb
  have hpl := fldZ_len r c zs r2 c2 zs2 (by omega) (by omega)
  obtain ⟨pr, hpr⟩ : ∃ x, fldR r c zs r2 c2 zs2 = x := ⟨_, rfl⟩
  obtain ⟨pc, hpc⟩ : ∃ x, fldC r c zs r2 c2 zs2 = x := ⟨_, rfl⟩
  obtain ⟨ps, hps⟩ : ∃ x, fldZ r c zs r2 c2 zs2 = x := ⟨_, rfl⟩
  rw [hps] at hpl
  have HP := Lib.hid (And.intro hpr (And.intro hpc hps))
  clear hpr hpc hps
  have hTA := Lib.hid fun wx (hx : Below W2.heap.size W2 wx) => toM_any r c A cap _ w.heap.size zs wx (HS0.out.below (HB_2.out.trans (hx.mono (show w.heap.size ≤ W2.heap.size by omega))) (Nat.le_refl _)) (Nat.le_trans (show w.heap.size ≤ W2.heap.size by omega) hx.size) rfl (by omega)
  have hTB := Lib.hid fun wx (hx : Below W2.heap.size W2 wx) => toM_any r2 c2 A2 cap2 _ w.heap.size zs2 wx (HS1.out.below (HB_2.out.trans (hx.mono (show w.heap.size ≤ W2.heap.size by omega))) (Nat.le_refl _)) (Nat.le_trans (show w.heap.size ≤ W2.heap.size by omega) hx.size) rfl (by omega)
  have HMK := Lib.hid fun w' (hx : Below W2.heap.size W2 w') => (show ((w'.cell? ⟨w.heap.size, 0, none⟩ = some (.int .i64 r) ∧ w'.cell? ⟨w.heap.size, 1, none⟩ = some (.int .i64 c) ∧ w'.cell? ⟨w.heap.size, 2, none⟩ = some (.slice A zs.length cap)) ∧ w'.cell? ⟨w.heap.size + 1, 0, none⟩ = some (.int .i64 r2) ∧ w'.cell? ⟨w.heap.size + 1, 1, none⟩ = some (.int .i64 c2) ∧ w'.cell? ⟨w.heap.size + 1, 2, none⟩ = some (.slice A2 zs2.length cap2)) from ⟨⟨(K2_2.out.below hx (show _ < W2.heap.size by omega)).c0, (K2_2.out.below hx (show _ < W2.heap.size by omega)).c1, (K2_2.out.below hx (show _ < W2.heap.size by omega)).c2⟩, (K3_2.out.below hx (show _ < W2.heap.size by omega)).c0, (K3_2.out.below hx (show _ < W2.heap.size by omega)).c1, (K3_2.out.below hx (show _ < W2.heap.size by omega)).c2⟩)
  have hcur : Below W2.heap.size W2 W2.drew := Below.of_drew _
  have hcu0 : Below W2.heap.size W2 (W2.alloc (.cells #[.int .i64 0, .int .i64 0, .slice none 0 0] 26)).drew := ((Below.refl _ _).alloc (Nat.le_refl _) _).trans (Below.of_drew _)
  have eN0 := (Cell3.new W2 (.int .i64 0) (.int .i64 0) (.slice none 0 0) 26).grown ((drew1 _).grown none) (by simp)
  go_upto_region 8 with fail
  go_cut [6] (fun sx wx => ∃ (b6 : Nat) (AW : Option Addr) (cW : Nat), sx = .pointer (some ⟨b6, 0, none⟩) ∧ W2.heap.size ≤ b6 ∧ b6 < wx.heap.size ∧ Cell3 wx b6 (.int .i64 pr) (.int .i64 pc) (.slice AW ps.length cW) ∧ Row wx W2.heap.size wx.heap.size (.slice AW ps.length cW) ps ∧ Below W2.heap.size W2 wx)
  case first =>
    go_region_held3 (fun w' => ((w'.cell? ⟨w.heap.size, 0, none⟩ = some (.int .i64 r) ∧ w'.cell? ⟨w.heap.size, 1, none⟩ = some (.int .i64 c) ∧ w'.cell? ⟨w.heap.size, 2, none⟩ = some (.slice A zs.length cap)) ∧ w'.cell? ⟨w.heap.size + 1, 0, none⟩ = some (.int .i64 r2) ∧ w'.cell? ⟨w.heap.size + 1, 1, none⟩ = some (.int .i64 c2) ∧ w'.cell? ⟨w.heap.size + 1, 2, none⟩ = some (.slice A2 zs2.length cap2)))
      (first | exact HMK.out _ hcur | exact HMK.out _ hcu0 | exact HMK.out _ (hcur.alloc hcur.size _) | exact HMK.out _ (((hcur.setCell (p := ⟨_, 0, none⟩) hb6 _).setCell (p := ⟨_, 1, none⟩) hb6 _).setCell (p := ⟨_, 2, none⟩) hb6 _) | fail)
      (first
        | (go_simp; go_at_call 17; (with_reducible refine (hTA.out W2.drew hcur).mono ?_); rintro e Wn ⟨sva, rfl, hr, hb⟩; obtain ⟨Aa0, ca0, rfl, hqa01, hqa02, _⟩ := hr.form; have hcurn := hcur.trans (hb.mono hcur.size); (try have eN := eN.below hb eN.lt); (try have hsb := (hsb.below hb (Nat.le_refl _)).more hb.size); have hsa := hr.sl_now; have hcur := hcurn; clear hr hb hcurn; obtain ⟨Wz, hWz⟩ : ∃ W, W = Wn := ⟨_, rfl⟩; subst hWz)
        | (go_simp; go_at_call 17; (with_reducible refine (hTA.out (W2.alloc (.cells #[.int .i64 0, .int .i64 0, .slice none 0 0] 26)).drew hcu0).mono ?_); rintro e Wn ⟨sva, rfl, hr, hb⟩; obtain ⟨Aa0, ca0, rfl, hqa01, hqa02, _⟩ := hr.form; have hcurn := hcu0.trans (hb.mono hcu0.size); have eN := eN0.below hb eN0.lt; have hb6 := Nat.le_refl W2.heap.size; (try have hsb := (hsb.below hb (Nat.le_refl _)).more hb.size); have hsa := hr.sl_now; have hcur := hcurn; clear hr hb hcurn; obtain ⟨Wz, hWz⟩ : ∃ W, W = Wn := ⟨_, rfl⟩; subst hWz)
        | (go_simp; go_at_call 17; (with_reducible refine (hTA.out Wz hcur).mono ?_); rintro e Wn ⟨sva, rfl, hr, hb⟩; obtain ⟨Aa0, ca0, rfl, hqa01, hqa02, _⟩ := hr.form; have hcurn := hcur.trans (hb.mono hcur.size); (try have eN := eN.below hb eN.lt); (try have hsb := (hsb.below hb (Nat.le_refl _)).more hb.size); have hsa := hr.sl_now; have hcur := hcurn; clear hr hb hcurn; obtain ⟨Wz, hWz⟩ : ∃ W, W = Wn := ⟨_, rfl⟩; subst hWz)
        | (go_simp; go_at_call 17; (with_reducible refine (hTA.out (Wz.alloc (.cells #[.int .i64 0, .int .i64 0, .slice none 0 0] 26)) (hcur.alloc hcur.size _)).mono ?_); rintro e Wn ⟨sva, rfl, hr, hb⟩; obtain ⟨Aa0, ca0, rfl, hqa01, hqa02, _⟩ := hr.form; have hcurn := (hcur.alloc hcur.size (.cells #[.int .i64 0, .int .i64 0, .slice none 0 0] 26)).trans (hb.mono (hcur.alloc hcur.size (.cells #[.int .i64 0, .int .i64 0, .slice none 0 0] 26)).size); have eN := (Cell3.new Wz (.int .i64 0) (.int .i64 0) (.slice none 0 0) 26).below hb (by simp); have hb6 := hcur.size; (try have hsb := ((hsb.below (B' := Wz.heap.size) ((Below.refl _ Wz).alloc (Nat.le_refl _) (.cells #[.int .i64 0, .int .i64 0, .slice none 0 0] 26)) (Nat.le_refl _)).below hb (by simp)).more (Nat.le_trans (by simp) hb.size)); have hsa := hr.sl_now; have hcur := hcurn; clear hr hb hcurn; obtain ⟨Wz, hWz⟩ : ∃ W, W = Wn := ⟨_, rfl⟩; subst hWz)
        | (go_simp; go_at_call 17; (with_reducible refine (hTB.out W2.drew hcur).mono ?_); rintro e Wn ⟨sva, rfl, hr, hb⟩; obtain ⟨Aa1, ca1, rfl, hqa11, hqa12, _⟩ := hr.form; have hcurn := hcur.trans (hb.mono hcur.size); (try have eN := eN.below hb eN.lt); (try have hsa := (hsa.below hb (Nat.le_refl _)).more hb.size); have hsb := hr.sl_now; have hcur := hcurn; clear hr hb hcurn; obtain ⟨Wz, hWz⟩ : ∃ W, W = Wn := ⟨_, rfl⟩; subst hWz)
        | (go_simp; go_at_call 17; (with_reducible refine (hTB.out (W2.alloc (.cells #[.int .i64 0, .int .i64 0, .slice none 0 0] 26)).drew hcu0).mono ?_); rintro e Wn ⟨sva, rfl, hr, hb⟩; obtain ⟨Aa1, ca1, rfl, hqa11, hqa12, _⟩ := hr.form; have hcurn := hcu0.trans (hb.mono hcu0.size); have eN := eN0.below hb eN0.lt; have hb6 := Nat.le_refl W2.heap.size; (try have hsa := (hsa.below hb (Nat.le_refl _)).more hb.size); have hsb := hr.sl_now; have hcur := hcurn; clear hr hb hcurn; obtain ⟨Wz, hWz⟩ : ∃ W, W = Wn := ⟨_, rfl⟩; subst hWz)
        | (go_simp; go_at_call 17; (with_reducible refine (hTB.out Wz hcur).mono ?_); rintro e Wn ⟨sva, rfl, hr, hb⟩; obtain ⟨Aa1, ca1, rfl, hqa11, hqa12, _⟩ := hr.form; have hcurn := hcur.trans (hb.mono hcur.size); (try have eN := eN.below hb eN.lt); (try have hsa := (hsa.below hb (Nat.le_refl _)).more hb.size); have hsb := hr.sl_now; have hcur := hcurn; clear hr hb hcurn; obtain ⟨Wz, hWz⟩ : ∃ W, W = Wn := ⟨_, rfl⟩; subst hWz)
        | (go_simp; go_at_call 17; (with_reducible refine (hTB.out (Wz.alloc (.cells #[.int .i64 0, .int .i64 0, .slice none 0 0] 26)) (hcur.alloc hcur.size _)).mono ?_); rintro e Wn ⟨sva, rfl, hr, hb⟩; obtain ⟨Aa1, ca1, rfl, hqa11, hqa12, _⟩ := hr.form; have hcurn := (hcur.alloc hcur.size (.cells #[.int .i64 0, .int .i64 0, .slice none 0 0] 26)).trans (hb.mono (hcur.alloc hcur.size (.cells #[.int .i64 0, .int .i64 0, .slice none 0 0] 26)).size); have eN := (Cell3.new Wz (.int .i64 0) (.int .i64 0) (.slice none 0 0) 26).below hb (by simp); have hb6 := hcur.size; (try have hsa := ((hsa.below (B' := Wz.heap.size) ((Below.refl _ Wz).alloc (Nat.le_refl _) (.cells #[.int .i64 0, .int .i64 0, .slice none 0 0] 26)) (Nat.le_refl _)).below hb (by simp)).more (Nat.le_trans (by simp) hb.size)); have hsb := hr.sl_now; have hcur := hcurn; clear hr hb hcurn; obtain ⟨Wz, hWz⟩ : ∃ W, W = Wn := ⟨_, rfl⟩; subst hWz)
        | (go_simp; go_at_call 41; (with_reducible refine (specFold_any r c Aa0 ca0 _ Wz.heap.size zs r2 c2 Aa1 ca1 _ Wz.heap.size zs2 Wz hsa (Nat.le_refl _) rfl (by omega) hsb (Nat.le_refl _) rfl (by omega)).mono ?_); rintro e Wy ⟨svy, rfl, hry, hby⟩; rw [HP.out.1, HP.out.2.1]; rw [HP.out.2.2] at hry; obtain ⟨AW, cW, rfl, _, _, _⟩ := hry.form; have hwz := hcur.size; have hcur := hcur.trans (hby.mono hcur.size); (try (have hlo := eN.lt; have eN := eN.below hby eN.lt; obtain ⟨n0, n1, n2, nf0, nf1, nf2, nlt⟩ := id eN)))
        | (go_simp; go_at_call 41; (with_reducible refine (specFold_any r c Aa0 ca0 _ Wz.heap.size zs r2 c2 Aa1 ca1 _ Wz.heap.size zs2 (Wz.alloc (.cells #[.int .i64 0, .int .i64 0, .slice none 0 0] 26)) (hsa.below ((Below.refl _ Wz).alloc (Nat.le_refl _) _) (Nat.le_refl _)) (by simp) rfl (by omega) (hsb.below ((Below.refl _ Wz).alloc (Nat.le_refl _) _) (Nat.le_refl _)) (by simp) rfl (by omega)).mono ?_); rintro e Wy ⟨svy, rfl, hry, hby⟩; rw [HP.out.1, HP.out.2.1]; rw [HP.out.2.2] at hry; obtain ⟨AW, cW, rfl, _, _, _⟩ := hry.form; have eN := (Cell3.new Wz (.int .i64 0) (.int .i64 0) (.slice none 0 0) 26).below hby (by simp); have hb6 := hcur.size; have hlo := (show Wz.heap.size < (Wz.alloc (.cells #[.int .i64 0, .int .i64 0, .slice none 0 0] 26)).heap.size by simp); have hwz := Nat.le_trans hcur.size (Nat.le_of_lt hlo); have hcur := (hcur.alloc hcur.size (.cells #[.int .i64 0, .int .i64 0, .slice none 0 0] 26)).trans (hby.mono (hcur.alloc hcur.size (.cells #[.int .i64 0, .int .i64 0, .slice none 0 0] 26)).size); obtain ⟨n0, n1, n2, nf0, nf1, nf2, nlt⟩ := id eN)
        | fail)
    all_goals (
      go_wp2_with fail
      go_meet
      first
        | exact ⟨Wy.heap.size, _, _, rfl, hcur.size, by simp, Cell3.new Wy _ _ _ _, (hry.grown (World.grownBy_alloc Wy _ none) (fun g e => by cases e)).wider hwz (by simp), hcur.alloc hcur.size _⟩
        | exact ⟨_, _, _, rfl, hb6, by simpa using eN.lt, ((eN.set0 _).set1 _).set2 _, (((hry.grown (set_grown _ _ 0 _) (fun g e => by cases e; left; exact hlo)).grown (set_grown _ _ 1 _) (fun g e => by cases e; left; exact hlo)).grown (set_grown _ _ 2 _) (fun g e => by cases e; left; exact hlo)).wider hwz (by simp), ((hcur.setCell (p := ⟨_, 0, none⟩) hb6 _).setCell (p := ⟨_, 1, none⟩) hb6 _).setCell (p := ⟨_, 2, none⟩) hb6 _⟩)
  case rest =>
    obtain ⟨W3, rfl⟩ : ∃ W, W = wc := ⟨_, rfl⟩
    obtain ⟨b6, AW, cW, rfl, hbl6, hbl6', kn, rn, hb⟩ := hcut
    clear HMK hcur hcu0 eN0 hTA hTB
    have s3 := hb.size
    have K2_3 := Lib.hid (K2_2.out.below hb (show w.heap.size < W2.heap.size by omega))
    have K3_3 := Lib.hid (K3_2.out.below hb (show w.heap.size + 1 < W2.heap.size by omega))
    have HB_3 := Lib.hid (HB_2.out.trans (hb.mono (show w.heap.size ≤ W2.heap.size by omega)))
    clear K2_2 K3_2 HB_2 hb
    have K6_3 := Lib.hid kn
    have RW_3 := Lib.hid rn
    clear kn rn
    obtain ⟨x20, x21, x22, _, _, _, x2lt⟩ := K2_3.out
    obtain ⟨x30, x31, x32, _, _, _, x3lt⟩ := K3_3.out
    obtain ⟨x60, x61, x62, _, _, _, x6lt⟩ := K6_3.out
    go_wp2_with fail
    refine (toM_any r c A cap _ w.heap.size zs W3 (HS0.out.below HB_3.out (Nat.le_refl _)) (show w.heap.size ≤ W3.heap.size by omega) rfl (by omega)).mono ?_
    rintro e W4 ⟨sv4, rfl, hr, hb⟩
    obtain ⟨AX0, cX0, rfl, hcp1, hcp2, _⟩ := hr.form
    have HCPX0 := Lib.hid (And.intro hcp1 hcp2)
    clear hcp1 hcp2
    clear x20 x21 x22 x2lt x30 x31 x32 x3lt x60 x61 x62 x6lt
    have s4 := hb.size
    have K2_4 := Lib.hid (K2_3.out.below hb (show w.heap.size < W3.heap.size by omega))
    have K3_4 := Lib.hid (K3_3.out.below hb (show w.heap.size + 1 < W3.heap.size by omega))
    have K6_4 := Lib.hid (K6_3.out.below hb (show b6 < W3.heap.size by omega))
    have RW_4 := Lib.hid (RW_3.out.below hb (show W3.heap.size ≤ W3.heap.size by omega))
    have HB_4 := Lib.hid (HB_3.out.trans (hb.mono (show w.heap.size ≤ W3.heap.size by omega)))
    clear K2_3 K3_3 K6_3 RW_3 HB_3 hb
    have RX0_4 := Lib.hid hr
    clear hr
    have kn := Cell3.new W4 (.int .i64 r) (.int .i64 c) (.slice AX0 zs.length cX0) 26
    obtain ⟨W5, hW5⟩ : ∃ W, W4.alloc (.cells #[.int .i64 r, .int .i64 c, .slice AX0 zs.length cX0] 26) = W := ⟨_, rfl⟩
    rw [hW5] at kn
    have z5 : W5.heap.size = W4.heap.size + 1 := by rw [← hW5]; simp
    have hal : Below W4.heap.size W4 W5 := hW5 ▸ (Below.refl _ _).alloc (Nat.le_refl _) _
    have s5 := hal.size
    have K2_5 := Lib.hid (K2_4.out.below hal (show w.heap.size < W4.heap.size by omega))
    have K3_5 := Lib.hid (K3_4.out.below hal (show w.heap.size + 1 < W4.heap.size by omega))
    have K6_5 := Lib.hid (K6_4.out.below hal (show b6 < W4.heap.size by omega))
    have RW_5 := Lib.hid (RW_4.out.below hal (show W3.heap.size ≤ W4.heap.size by omega))
    have RX0_5 := Lib.hid (RX0_4.out.below hal (show W4.heap.size ≤ W4.heap.size by omega))
    have HB_5 := Lib.hid (HB_4.out.trans (hal.mono (show w.heap.size ≤ W4.heap.size by omega)))
    clear K2_4 K3_4 K6_4 RW_4 RX0_4 HB_4 hal
    have K70_5 := Lib.hid kn
    clear kn
    obtain ⟨x20, x21, x22, _, _, _, x2lt⟩ := K2_5.out
    obtain ⟨x30, x31, x32, _, _, _, x3lt⟩ := K3_5.out
    obtain ⟨x60, x61, x62, _, _, _, x6lt⟩ := K6_5.out
    obtain ⟨x700, x701, x702, _, _, _, x70lt⟩ := K70_5.out
    go_wp2_with fail
    refine (toM_any r2 c2 A2 cap2 _ w.heap.size zs2 W5 (HS1.out.below HB_5.out (Nat.le_refl _)) (show w.heap.size ≤ W5.heap.size by omega) rfl (by omega)).mono ?_
    rintro e W6 ⟨sv6, rfl, hr, hb⟩
    obtain ⟨AX1, cX1, rfl, hcp1, hcp2, _⟩ := hr.form
    have HCPX1 := Lib.hid (And.intro hcp1 hcp2)
    clear hcp1 hcp2
    clear x20 x21 x22 x2lt x30 x31 x32 x3lt x60 x61 x62 x6lt x700 x701 x702 x70lt
    have s6 := hb.size
    have K2_6 := Lib.hid (K2_5.out.below hb (show w.heap.size < W5.heap.size by omega))
    have K3_6 := Lib.hid (K3_5.out.below hb (show w.heap.size + 1 < W5.heap.size by omega))
    have K6_6 := Lib.hid (K6_5.out.below hb (show b6 < W5.heap.size by omega))
    have K70_6 := Lib.hid (K70_5.out.below hb (show W4.heap.size < W5.heap.size by omega))
    have RW_6 := Lib.hid (RW_5.out.below hb (show W3.heap.size ≤ W5.heap.size by omega))
    have RX0_6 := Lib.hid (RX0_5.out.below hb (show W4.heap.size ≤ W5.heap.size by omega))
    have HB_6 := Lib.hid (HB_5.out.trans (hb.mono (show w.heap.size ≤ W5.heap.size by omega)))
    clear K2_5 K3_5 K6_5 K70_5 RW_5 RX0_5 HB_5 hb
    have RX1_6 := Lib.hid hr
    clear hr
    have kn := Cell3.new W6 (.int .i64 r2) (.int .i64 c2) (.slice AX1 zs2.length cX1) 26
    obtain ⟨W7, hW7⟩ : ∃ W, W6.alloc (.cells #[.int .i64 r2, .int .i64 c2, .slice AX1 zs2.length cX1] 26) = W := ⟨_, rfl⟩
    rw [hW7] at kn
    have z7 : W7.heap.size = W6.heap.size + 1 := by rw [← hW7]; simp
    have hal : Below W6.heap.size W6 W7 := hW7 ▸ (Below.refl _ _).alloc (Nat.le_refl _) _
    have s7 := hal.size
    have K2_7 := Lib.hid (K2_6.out.below hal (show w.heap.size < W6.heap.size by omega))
    have K3_7 := Lib.hid (K3_6.out.below hal (show w.heap.size + 1 < W6.heap.size by omega))
    have K6_7 := Lib.hid (K6_6.out.below hal (show b6 < W6.heap.size by omega))
    have K70_7 := Lib.hid (K70_6.out.below hal (show W4.heap.size < W6.heap.size by omega))
    have RW_7 := Lib.hid (RW_6.out.below hal (show W3.heap.size ≤ W6.heap.size by omega))
    have RX0_7 := Lib.hid (RX0_6.out.below hal (show W4.heap.size ≤ W6.heap.size by omega))
    have RX1_7 := Lib.hid (RX1_6.out.below hal (show W6.heap.size ≤ W6.heap.size by omega))
    have HB_7 := Lib.hid (HB_6.out.trans (hal.mono (show w.heap.size ≤ W6.heap.size by omega)))
    clear K2_6 K3_6 K6_6 K70_6 RW_6 RX0_6 RX1_6 HB_6 hal
    have K71_7 := Lib.hid kn
    clear kn
    obtain ⟨x20, x21, x22, _, _, _, x2lt⟩ := K2_7.out
    obtain ⟨x30, x31, x32, _, _, _, x3lt⟩ := K3_7.out
    obtain ⟨x60, x61, x62, _, _, _, x6lt⟩ := K6_7.out
    obtain ⟨x700, x701, x702, _, _, _, x70lt⟩ := K70_7.out
    obtain ⟨x710, x711, x712, _, _, _, x71lt⟩ := K71_7.out
    go_wp2_with fail
    refine (implFold_any r c AX0 cX0 _ W7.heap.size zs r2 c2 AX1 cX1 _ W7.heap.size zs2 W7 (RX0_7.out.sl_now.more (show W4.heap.size ≤ W7.heap.size by omega)) (Nat.le_refl _) rfl (by omega) (RX1_7.out.sl_now.more (show W6.heap.size ≤ W7.heap.size by omega)) (Nat.le_refl _) rfl (by omega) HCPX0.out.1 HCPX0.out.2 HCPX1.out.1 HCPX1.out.2).mono ?_
    rintro e W8 ⟨sv8, rfl, hr, hb⟩
    rw [HP.out.1, HP.out.2.1]
    rw [HP.out.2.2] at hr
    obtain ⟨AG, cG, rfl, hcp1, hcp2, _⟩ := hr.form
    have HCPG := Lib.hid (And.intro hcp1 hcp2)
    clear hcp1 hcp2
    clear x20 x21 x22 x2lt x30 x31 x32 x3lt x60 x61 x62 x6lt x700 x701 x702 x70lt x710 x711 x712 x71lt
    have s8 := hb.size
    have K2_8 := Lib.hid (K2_7.out.below hb (show w.heap.size < W7.heap.size by omega))
    have K3_8 := Lib.hid (K3_7.out.below hb (show w.heap.size + 1 < W7.heap.size by omega))
    have K6_8 := Lib.hid (K6_7.out.below hb (show b6 < W7.heap.size by omega))
    have K70_8 := Lib.hid (K70_7.out.below hb (show W4.heap.size < W7.heap.size by omega))
    have K71_8 := Lib.hid (K71_7.out.below hb (show W6.heap.size < W7.heap.size by omega))
    have RW_8 := Lib.hid (RW_7.out.below hb (show W3.heap.size ≤ W7.heap.size by omega))
    have RX0_8 := Lib.hid (RX0_7.out.below hb (show W4.heap.size ≤ W7.heap.size by omega))
    have RX1_8 := Lib.hid (RX1_7.out.below hb (show W6.heap.size ≤ W7.heap.size by omega))
    have HB_8 := Lib.hid (HB_7.out.trans (hb.mono (show w.heap.size ≤ W7.heap.size by omega)))
    clear K2_7 K3_7 K6_7 K70_7 K71_7 RW_7 RX0_7 RX1_7 HB_7 hb
    have RG_8 := Lib.hid hr
    clear hr
    have kn := Cell3.new W8 (.int .i64 pr) (.int .i64 pc) (.slice AG ps.length cG) 26
    obtain ⟨W9, hW9⟩ : ∃ W, W8.alloc (.cells #[.int .i64 pr, .int .i64 pc, .slice AG ps.length cG] 26) = W := ⟨_, rfl⟩
    rw [hW9] at kn
    have z9 : W9.heap.size = W8.heap.size + 1 := by rw [← hW9]; simp
    have hal : Below W8.heap.size W8 W9 := hW9 ▸ (Below.refl _ _).alloc (Nat.le_refl _) _
    have s9 := hal.size
    have K2_9 := Lib.hid (K2_8.out.below hal (show w.heap.size < W8.heap.size by omega))
    have K3_9 := Lib.hid (K3_8.out.below hal (show w.heap.size + 1 < W8.heap.size by omega))
    have K6_9 := Lib.hid (K6_8.out.below hal (show b6 < W8.heap.size by omega))
    have K70_9 := Lib.hid (K70_8.out.below hal (show W4.heap.size < W8.heap.size by omega))
    have K71_9 := Lib.hid (K71_8.out.below hal (show W6.heap.size < W8.heap.size by omega))
    have RW_9 := Lib.hid (RW_8.out.below hal (show W3.heap.size ≤ W8.heap.size by omega))
    have RX0_9 := Lib.hid (RX0_8.out.below hal (show W4.heap.size ≤ W8.heap.size by omega))
    have RX1_9 := Lib.hid (RX1_8.out.below hal (show W6.heap.size ≤ W8.heap.size by omega))
    have RG_9 := Lib.hid (RG_8.out.below hal (show W8.heap.size ≤ W8.heap.size by omega))
    have HB_9 := Lib.hid (HB_8.out.trans (hal.mono (show w.heap.size ≤ W8.heap.size by omega)))
    clear K2_8 K3_8 K6_8 K70_8 K71_8 RW_8 RX0_8 RX1_8 RG_8 HB_8 hal
    have K8_9 := Lib.hid kn
    clear kn
    obtain ⟨x20, x21, x22, _, _, _, x2lt⟩ := K2_9.out
    obtain ⟨x30, x31, x32, _, _, _, x3lt⟩ := K3_9.out
    obtain ⟨x60, x61, x62, _, _, _, x6lt⟩ := K6_9.out
    obtain ⟨x700, x701, x702, _, _, _, x70lt⟩ := K70_9.out
    obtain ⟨x710, x711, x712, _, _, _, x71lt⟩ := K71_9.out
    obtain ⟨x80, x81, x82, _, _, _, x8lt⟩ := K8_9.out
    go_wp2_with fail
    refine (eqM_same pr pc AG AW cG cW ps W9 (RG_9.out.sl_now.more (show W8.heap.size ≤ W9.heap.size by omega)) (RW_9.out.sl_now.more (show W3.heap.size ≤ W9.heap.size by omega)) (by omega)).mono ?_
    rintro e W10 ⟨rfl, hb⟩
    clear x20 x21 x22 x2lt x30 x31 x32 x3lt x60 x61 x62 x6lt x700 x701 x702 x70lt x710 x711 x712 x71lt x80 x81 x82 x8lt
    have s10 := hb.size
    have K2_10 := Lib.hid (K2_9.out.below hb (show w.heap.size < W9.heap.size by omega))
    have K3_10 := Lib.hid (K3_9.out.below hb (show w.heap.size + 1 < W9.heap.size by omega))
    have K6_10 := Lib.hid (K6_9.out.below hb (show b6 < W9.heap.size by omega))
    have K70_10 := Lib.hid (K70_9.out.below hb (show W4.heap.size < W9.heap.size by omega))
    have K71_10 := Lib.hid (K71_9.out.below hb (show W6.heap.size < W9.heap.size by omega))
    have K8_10 := Lib.hid (K8_9.out.below hb (show W8.heap.size < W9.heap.size by omega))
    have RW_10 := Lib.hid (RW_9.out.below hb (show W3.heap.size ≤ W9.heap.size by omega))
    have RX0_10 := Lib.hid (RX0_9.out.below hb (show W4.heap.size ≤ W9.heap.size by omega))
    have RX1_10 := Lib.hid (RX1_9.out.below hb (show W6.heap.size ≤ W9.heap.size by omega))
    have RG_10 := Lib.hid (RG_9.out.below hb (show W8.heap.size ≤ W9.heap.size by omega))
    have HB_10 := Lib.hid (HB_9.out.trans (hb.mono (show w.heap.size ≤ W9.heap.size by omega)))
    clear K2_9 K3_9 K6_9 K70_9 K71_9 K8_9 RW_9 RX0_9 RX1_9 RG_9 HB_9 hb
    obtain ⟨x20, x21, x22, _, _, _, x2lt⟩ := K2_10.out
    obtain ⟨x30, x31, x32, _, _, _, x3lt⟩ := K3_10.out
    obtain ⟨x60, x61, x62, _, _, _, x6lt⟩ := K6_10.out
    obtain ⟨x700, x701, x702, _, _, _, x70lt⟩ := K70_10.out
    obtain ⟨x710, x711, x712, _, _, _, x71lt⟩ := K71_10.out
    obtain ⟨x80, x81, x82, _, _, _, x8lt⟩ := K8_10.out
    go_wp2
    go_region_held3 (fun w' => (w'.cell? ⟨W4.heap.size, 0, none⟩ = some (.int .i64 r) ∧ w'.cell? ⟨W4.heap.size, 1, none⟩ = some (.int .i64 c) ∧ w'.cell? ⟨W4.heap.size, 2, none⟩ = some (.slice AX0 zs.length cX0)) ∧ w'.cell? ⟨w.heap.size, 0, none⟩ = some (.int .i64 r) ∧ w'.cell? ⟨w.heap.size, 1, none⟩ = some (.int .i64 c) ∧ w'.cell? ⟨w.heap.size, 2, none⟩ = some (.slice A zs.length cap))
      (first | exact ⟨⟨x700, x701, x702⟩, x20, x21, x22⟩ | exact ⟨⟨y0, y1, y2⟩, y3, y4, y5⟩ | exact ⟨⟨u0, u1, u2⟩, u3, u4, u5⟩)
      (first
        | (go_simp; go_at_call 17; refine (toM_any r c A cap _ w.heap.size zs W10.drew (HS0.out.below (HB_10.out.trans (Below.of_drew _)) (Nat.le_refl _)) (show w.heap.size ≤ W10.heap.size by omega) rfl (by omega)).mono ?_; rintro e Wa ⟨sva, rfl, hra, hba⟩; obtain ⟨Aq, cq, rfl, _, _, _⟩ := hra.form; have hbz : Below W10.heap.size W10 Wa := (Below.of_drew _).trans hba; have szA := hbz.size; obtain ⟨y0, y1, y2, _, _, _, _⟩ := K70_10.out.below hbz (show W4.heap.size < W10.heap.size by omega); obtain ⟨y3, y4, y5, _, _, _, _⟩ := K2_10.out.below hbz (show w.heap.size < W10.heap.size by omega))
        | (go_simp; go_at_call 19; refine (eqM_same r c AX0 Aq cX0 cq zs Wa ((RX0_10.out.below hbz (show W4.heap.size ≤ W10.heap.size by omega)).sl_now.more (show W4.heap.size ≤ Wa.heap.size by omega)) (hra.sl_now) (by omega)).mono ?_; rintro e Wb ⟨rfl, hbb⟩; have hbw : Below W10.heap.size W10 Wb := hbz.trans (hbb.mono (show W10.heap.size ≤ Wa.heap.size by omega)); obtain ⟨u0, u1, u2, _, _, _, _⟩ := K70_10.out.below hbw (show W4.heap.size < W10.heap.size by omega); obtain ⟨u3, u4, u5, _, _, _, _⟩ := K2_10.out.below hbw (show w.heap.size < W10.heap.size by omega)))
    clear y0 y1 y2 y3 y4 y5 u0 u1 u2 u3 u4 u5 hra hbz hbb hba szA
    obtain ⟨W11, hWb⟩ : ∃ W, W = Wb := ⟨_, rfl⟩
    subst hWb
    clear x20 x21 x22 x2lt x30 x31 x32 x3lt x60 x61 x62 x6lt x700 x701 x702 x70lt x710 x711 x712 x71lt x80 x81 x82 x8lt
    have s11 := hbw.size
    have K2_11 := Lib.hid (K2_10.out.below hbw (show w.heap.size < W10.heap.size by omega))
    have K3_11 := Lib.hid (K3_10.out.below hbw (show w.heap.size + 1 < W10.heap.size by omega))
    have K6_11 := Lib.hid (K6_10.out.below hbw (show b6 < W10.heap.size by omega))
    have K70_11 := Lib.hid (K70_10.out.below hbw (show W4.heap.size < W10.heap.size by omega))
    have K71_11 := Lib.hid (K71_10.out.below hbw (show W6.heap.size < W10.heap.size by omega))
    have K8_11 := Lib.hid (K8_10.out.below hbw (show W8.heap.size < W10.heap.size by omega))
    have RW_11 := Lib.hid (RW_10.out.below hbw (show W3.heap.size ≤ W10.heap.size by omega))
    have RX0_11 := Lib.hid (RX0_10.out.below hbw (show W4.heap.size ≤ W10.heap.size by omega))
    have RX1_11 := Lib.hid (RX1_10.out.below hbw (show W6.heap.size ≤ W10.heap.size by omega))
    have RG_11 := Lib.hid (RG_10.out.below hbw (show W8.heap.size ≤ W10.heap.size by omega))
    have HB_11 := Lib.hid (HB_10.out.trans (hbw.mono (show w.heap.size ≤ W10.heap.size by omega)))
    clear K2_10 K3_10 K6_10 K70_10 K71_10 K8_10 RW_10 RX0_10 RX1_10 RG_10 HB_10 hbw
    obtain ⟨x20, x21, x22, _, _, _, x2lt⟩ := K2_11.out
    obtain ⟨x30, x31, x32, _, _, _, x3lt⟩ := K3_11.out
    obtain ⟨x60, x61, x62, _, _, _, x6lt⟩ := K6_11.out
    obtain ⟨x700, x701, x702, _, _, _, x70lt⟩ := K70_11.out
    obtain ⟨x710, x711, x712, _, _, _, x71lt⟩ := K71_11.out
    obtain ⟨x80, x81, x82, _, _, _, x8lt⟩ := K8_11.out
    go_wp2
    go_region_held3 (fun w' => (w'.cell? ⟨W6.heap.size, 0, none⟩ = some (.int .i64 r2) ∧ w'.cell? ⟨W6.heap.size, 1, none⟩ = some (.int .i64 c2) ∧ w'.cell? ⟨W6.heap.size, 2, none⟩ = some (.slice AX1 zs2.length cX1)) ∧ w'.cell? ⟨w.heap.size + 1, 0, none⟩ = some (.int .i64 r2) ∧ w'.cell? ⟨w.heap.size + 1, 1, none⟩ = some (.int .i64 c2) ∧ w'.cell? ⟨w.heap.size + 1, 2, none⟩ = some (.slice A2 zs2.length cap2))
      (first | exact ⟨⟨x710, x711, x712⟩, x30, x31, x32⟩ | exact ⟨⟨y0, y1, y2⟩, y3, y4, y5⟩ | exact ⟨⟨u0, u1, u2⟩, u3, u4, u5⟩)
      (first
        | (go_simp; go_at_call 17; refine (toM_any r2 c2 A2 cap2 _ w.heap.size zs2 W11.drew (HS1.out.below (HB_11.out.trans (Below.of_drew _)) (Nat.le_refl _)) (show w.heap.size ≤ W11.heap.size by omega) rfl (by omega)).mono ?_; rintro e Wa ⟨sva, rfl, hra, hba⟩; obtain ⟨Aq, cq, rfl, _, _, _⟩ := hra.form; have hbz : Below W11.heap.size W11 Wa := (Below.of_drew _).trans hba; have szA := hbz.size; obtain ⟨y0, y1, y2, _, _, _, _⟩ := K71_11.out.below hbz (show W6.heap.size < W11.heap.size by omega); obtain ⟨y3, y4, y5, _, _, _, _⟩ := K3_11.out.below hbz (show w.heap.size + 1 < W11.heap.size by omega))
        | (go_simp; go_at_call 19; refine (eqM_same r2 c2 AX1 Aq cX1 cq zs2 Wa ((RX1_11.out.below hbz (show W6.heap.size ≤ W11.heap.size by omega)).sl_now.more (show W6.heap.size ≤ Wa.heap.size by omega)) (hra.sl_now) (by omega)).mono ?_; rintro e Wb ⟨rfl, hbb⟩; have hbw : Below W11.heap.size W11 Wb := hbz.trans (hbb.mono (show W11.heap.size ≤ Wa.heap.size by omega)); obtain ⟨u0, u1, u2, _, _, _, _⟩ := K71_11.out.below hbw (show W6.heap.size < W11.heap.size by omega); obtain ⟨u3, u4, u5, _, _, _, _⟩ := K3_11.out.below hbw (show w.heap.size + 1 < W11.heap.size by omega)))
    clear y0 y1 y2 y3 y4 y5 u0 u1 u2 u3 u4 u5 hra hbz hbb hba szA
    obtain ⟨W12, hWb⟩ : ∃ W, W = Wb := ⟨_, rfl⟩
    subst hWb
    clear x20 x21 x22 x2lt x30 x31 x32 x3lt x60 x61 x62 x6lt x700 x701 x702 x70lt x710 x711 x712 x71lt x80 x81 x82 x8lt
    have s12 := hbw.size
    have K2_12 := Lib.hid (K2_11.out.below hbw (show w.heap.size < W11.heap.size by omega))
    have K3_12 := Lib.hid (K3_11.out.below hbw (show w.heap.size + 1 < W11.heap.size by omega))
    have K6_12 := Lib.hid (K6_11.out.below hbw (show b6 < W11.heap.size by omega))
    have K70_12 := Lib.hid (K70_11.out.below hbw (show W4.heap.size < W11.heap.size by omega))
    have K71_12 := Lib.hid (K71_11.out.below hbw (show W6.heap.size < W11.heap.size by omega))
    have K8_12 := Lib.hid (K8_11.out.below hbw (show W8.heap.size < W11.heap.size by omega))
    have RW_12 := Lib.hid (RW_11.out.below hbw (show W3.heap.size ≤ W11.heap.size by omega))
    have RX0_12 := Lib.hid (RX0_11.out.below hbw (show W4.heap.size ≤ W11.heap.size by omega))
    have RX1_12 := Lib.hid (RX1_11.out.below hbw (show W6.heap.size ≤ W11.heap.size by omega))
    have RG_12 := Lib.hid (RG_11.out.below hbw (show W8.heap.size ≤ W11.heap.size by omega))
    have HB_12 := Lib.hid (HB_11.out.trans (hbw.mono (show w.heap.size ≤ W11.heap.size by omega)))
    clear K2_11 K3_11 K6_11 K70_11 K71_11 K8_11 RW_11 RX0_11 RX1_11 RG_11 HB_11 hbw
    obtain ⟨x20, x21, x22, _, _, _, x2lt⟩ := K2_12.out
    obtain ⟨x30, x31, x32, _, _, _, x3lt⟩ := K3_12.out
    obtain ⟨x60, x61, x62, _, _, _, x6lt⟩ := K6_12.out
    obtain ⟨x700, x701, x702, _, _, _, x70lt⟩ := K70_12.out
    obtain ⟨x710, x711, x712, _, _, _, x71lt⟩ := K71_12.out
    obtain ⟨x80, x81, x82, _, _, _, x8lt⟩ := K8_12.out
    go_wp2_with fail
    refine (markM_any (W3.heap.size) (W4.heap.size) r c AX0 cX0 zs (1) W12 RX0_12.out (show W4.heap.size ≤ W12.heap.size by omega) (by omega) (by omega) (by omega)).mono ?_
    rintro e W13 ⟨rfl, hrm, hsp⟩
    clear x20 x21 x22 x2lt x30 x31 x32 x3lt x60 x61 x62 x6lt x700 x701 x702 x70lt x710 x711 x712 x71lt x80 x81 x82 x8lt
    have s13 := hsp.size
    have K2_13 := Lib.hid (K2_12.out.span hsp (show w.heap.size < W3.heap.size ∨ W4.heap.size ≤ w.heap.size by omega))
    have K3_13 := Lib.hid (K3_12.out.span hsp (show w.heap.size + 1 < W3.heap.size ∨ W4.heap.size ≤ w.heap.size + 1 by omega))
    have K6_13 := Lib.hid (K6_12.out.span hsp (show b6 < W3.heap.size ∨ W4.heap.size ≤ b6 by omega))
    have K70_13 := Lib.hid (K70_12.out.span hsp (show W4.heap.size < W3.heap.size ∨ W4.heap.size ≤ W4.heap.size by omega))
    have K71_13 := Lib.hid (K71_12.out.span hsp (show W6.heap.size < W3.heap.size ∨ W4.heap.size ≤ W6.heap.size by omega))
    have K8_13 := Lib.hid (K8_12.out.span hsp (show W8.heap.size < W3.heap.size ∨ W4.heap.size ≤ W8.heap.size by omega))
    have RW_13 := Lib.hid (RW_12.out.span hsp (show W3.heap.size ≤ W3.heap.size ∨ W4.heap.size ≤ W2.heap.size by omega))
    have RX1_13 := Lib.hid (RX1_12.out.span hsp (show W6.heap.size ≤ W3.heap.size ∨ W4.heap.size ≤ W5.heap.size by omega))
    have RG_13 := Lib.hid (RG_12.out.span hsp (show W8.heap.size ≤ W3.heap.size ∨ W4.heap.size ≤ W7.heap.size by omega))
    have HB_13 := Lib.hid (Span.below HB_12.out hsp (show w.heap.size ≤ W3.heap.size by omega) (show w.heap.size ≤ W12.heap.size by omega))
    clear K2_12 K3_12 K6_12 K70_12 K71_12 K8_12 RW_12 RX0_12 RX1_12 RG_12 HB_12 hsp hrm
    obtain ⟨x20, x21, x22, _, _, _, x2lt⟩ := K2_13.out
    obtain ⟨x30, x31, x32, _, _, _, x3lt⟩ := K3_13.out
    obtain ⟨x60, x61, x62, _, _, _, x6lt⟩ := K6_13.out
    obtain ⟨x700, x701, x702, _, _, _, x70lt⟩ := K70_13.out
    obtain ⟨x710, x711, x712, _, _, _, x71lt⟩ := K71_13.out
    obtain ⟨x80, x81, x82, _, _, _, x8lt⟩ := K8_13.out
    go_wp2_with fail
    refine (markM_any (W5.heap.size) (W6.heap.size) r2 c2 AX1 cX1 zs2 (1 + (zs.length : Int)) W13 RX1_13.out (show W6.heap.size ≤ W13.heap.size by omega) (by omega) (by omega) (by omega)).mono ?_
    rintro e W14 ⟨rfl, hrm, hsp⟩
    clear x20 x21 x22 x2lt x30 x31 x32 x3lt x60 x61 x62 x6lt x700 x701 x702 x70lt x710 x711 x712 x71lt x80 x81 x82 x8lt
    have s14 := hsp.size
    have K2_14 := Lib.hid (K2_13.out.span hsp (show w.heap.size < W5.heap.size ∨ W6.heap.size ≤ w.heap.size by omega))
    have K3_14 := Lib.hid (K3_13.out.span hsp (show w.heap.size + 1 < W5.heap.size ∨ W6.heap.size ≤ w.heap.size + 1 by omega))
    have K6_14 := Lib.hid (K6_13.out.span hsp (show b6 < W5.heap.size ∨ W6.heap.size ≤ b6 by omega))
    have K70_14 := Lib.hid (K70_13.out.span hsp (show W4.heap.size < W5.heap.size ∨ W6.heap.size ≤ W4.heap.size by omega))
    have K71_14 := Lib.hid (K71_13.out.span hsp (show W6.heap.size < W5.heap.size ∨ W6.heap.size ≤ W6.heap.size by omega))
    have K8_14 := Lib.hid (K8_13.out.span hsp (show W8.heap.size < W5.heap.size ∨ W6.heap.size ≤ W8.heap.size by omega))
    have RW_14 := Lib.hid (RW_13.out.span hsp (show W3.heap.size ≤ W5.heap.size ∨ W6.heap.size ≤ W2.heap.size by omega))
    have RG_14 := Lib.hid (RG_13.out.span hsp (show W8.heap.size ≤ W5.heap.size ∨ W6.heap.size ≤ W7.heap.size by omega))
    have HB_14 := Lib.hid (Span.below HB_13.out hsp (show w.heap.size ≤ W5.heap.size by omega) (show w.heap.size ≤ W13.heap.size by omega))
    clear K2_13 K3_13 K6_13 K70_13 K71_13 K8_13 RW_13 RX1_13 RG_13 HB_13 hsp hrm
    have hdk : decide (1 + (zs.length : Int) + (zs2.length : Int) < 0) = false := by simp; omega
    obtain ⟨x20, x21, x22, _, _, _, x2lt⟩ := K2_14.out
    obtain ⟨x30, x31, x32, _, _, _, x3lt⟩ := K3_14.out
    obtain ⟨x60, x61, x62, _, _, _, x6lt⟩ := K6_14.out
    obtain ⟨x700, x701, x702, _, _, _, x70lt⟩ := K70_14.out
    obtain ⟨x710, x711, x712, _, _, _, x71lt⟩ := K71_14.out
    obtain ⟨x80, x81, x82, _, _, _, x8lt⟩ := K8_14.out
    go_wp2_with fail
    refine (eqM_same pr pc AG AW cG cW ps W14 (RG_14.out.sl_now.more (show W8.heap.size ≤ W14.heap.size by omega)) (RW_14.out.sl_now.more (show W3.heap.size ≤ W14.heap.size by omega)) (by omega)).mono ?_
    rintro e W15 ⟨rfl, hb⟩
    clear x20 x21 x22 x2lt x30 x31 x32 x3lt x60 x61 x62 x6lt x700 x701 x702 x70lt x710 x711 x712 x71lt x80 x81 x82 x8lt
    have s15 := hb.size
    have K2_15 := Lib.hid (K2_14.out.below hb (show w.heap.size < W14.heap.size by omega))
    have K3_15 := Lib.hid (K3_14.out.below hb (show w.heap.size + 1 < W14.heap.size by omega))
    have K6_15 := Lib.hid (K6_14.out.below hb (show b6 < W14.heap.size by omega))
    have K70_15 := Lib.hid (K70_14.out.below hb (show W4.heap.size < W14.heap.size by omega))
    have K71_15 := Lib.hid (K71_14.out.below hb (show W6.heap.size < W14.heap.size by omega))
    have K8_15 := Lib.hid (K8_14.out.below hb (show W8.heap.size < W14.heap.size by omega))
    have RW_15 := Lib.hid (RW_14.out.below hb (show W3.heap.size ≤ W14.heap.size by omega))
    have RG_15 := Lib.hid (RG_14.out.below hb (show W8.heap.size ≤ W14.heap.size by omega))
    have HB_15 := Lib.hid (HB_14.out.trans (hb.mono (show w.heap.size ≤ W14.heap.size by omega)))
    clear K2_14 K3_14 K6_14 K70_14 K71_14 K8_14 RW_14 RG_14 HB_14 hb
    obtain ⟨x20, x21, x22, _, _, _, x2lt⟩ := K2_15.out
    obtain ⟨x30, x31, x32, _, _, _, x3lt⟩ := K3_15.out
    obtain ⟨x60, x61, x62, _, _, _, x6lt⟩ := K6_15.out
    obtain ⟨x700, x701, x702, _, _, _, x70lt⟩ := K70_15.out
    obtain ⟨x710, x711, x712, _, _, _, x71lt⟩ := K71_15.out
    obtain ⟨x80, x81, x82, _, _, _, x8lt⟩ := K8_15.out
    go_wp2_with fail
    refine (markM_any (W7.heap.size) (W8.heap.size) pr pc AG cG ps 1 W15 RG_15.out (show W8.heap.size ≤ W15.heap.size by omega) (by omega) (by omega) (by omega)).mono ?_
    rintro e W16 ⟨rfl, hrm, hsp⟩
    clear x20 x21 x22 x2lt x30 x31 x32 x3lt x60 x61 x62 x6lt x700 x701 x702 x70lt x710 x711 x712 x71lt x80 x81 x82 x8lt
    have s16 := hsp.size
    have K2_16 := Lib.hid (K2_15.out.span hsp (show w.heap.size < W7.heap.size ∨ W8.heap.size ≤ w.heap.size by omega))
    have K3_16 := Lib.hid (K3_15.out.span hsp (show w.heap.size + 1 < W7.heap.size ∨ W8.heap.size ≤ w.heap.size + 1 by omega))
    have K6_16 := Lib.hid (K6_15.out.span hsp (show b6 < W7.heap.size ∨ W8.heap.size ≤ b6 by omega))
    have K70_16 := Lib.hid (K70_15.out.span hsp (show W4.heap.size < W7.heap.size ∨ W8.heap.size ≤ W4.heap.size by omega))
    have K71_16 := Lib.hid (K71_15.out.span hsp (show W6.heap.size < W7.heap.size ∨ W8.heap.size ≤ W6.heap.size by omega))
    have K8_16 := Lib.hid (K8_15.out.span hsp (show W8.heap.size < W7.heap.size ∨ W8.heap.size ≤ W8.heap.size by omega))
    have RW_16 := Lib.hid (RW_15.out.span hsp (show W3.heap.size ≤ W7.heap.size ∨ W8.heap.size ≤ W2.heap.size by omega))
    have HB_16 := Lib.hid (Span.below HB_15.out hsp (show w.heap.size ≤ W7.heap.size by omega) (show w.heap.size ≤ W15.heap.size by omega))
    have MG_16 := Lib.hid hrm
    clear K2_15 K3_15 K6_15 K70_15 K71_15 K8_15 RW_15 RG_15 HB_15 hsp hrm
    have RM_16 := Lib.hid (show Row W16 (W7.heap.size) (W8.heap.size) (.slice AG (marks 1 ps.length).length cG) (marks 1 ps.length) by rw [marks_length]; exact MG_16.out)
    clear MG_16
    have hd16 : decide (1 + (ps.length : Int) < 0) = false := by simp; omega
    obtain ⟨x20, x21, x22, _, _, _, x2lt⟩ := K2_16.out
    obtain ⟨x30, x31, x32, _, _, _, x3lt⟩ := K3_16.out
    obtain ⟨x60, x61, x62, _, _, _, x6lt⟩ := K6_16.out
    obtain ⟨x700, x701, x702, _, _, _, x70lt⟩ := K70_16.out
    obtain ⟨x710, x711, x712, _, _, _, x71lt⟩ := K71_16.out
    obtain ⟨x80, x81, x82, _, _, _, x8lt⟩ := K8_16.out
    go_wp2_with fail
    refine (heldM_same (W8.heap.size) pr pc AG cG ps.length 1 W16 RM_16.out.sl_now (show W8.heap.size ≤ W16.heap.size by omega) (by omega) (by omega) (by omega)).mono ?_
    rintro e W17 ⟨rfl, hb⟩
    clear x20 x21 x22 x2lt x30 x31 x32 x3lt x60 x61 x62 x6lt x700 x701 x702 x70lt x710 x711 x712 x71lt x80 x81 x82 x8lt
    have s17 := hb.size
    have K2_17 := Lib.hid (K2_16.out.below hb (show w.heap.size < W16.heap.size by omega))
    have K3_17 := Lib.hid (K3_16.out.below hb (show w.heap.size + 1 < W16.heap.size by omega))
    have K6_17 := Lib.hid (K6_16.out.below hb (show b6 < W16.heap.size by omega))
    have K70_17 := Lib.hid (K70_16.out.below hb (show W4.heap.size < W16.heap.size by omega))
    have K71_17 := Lib.hid (K71_16.out.below hb (show W6.heap.size < W16.heap.size by omega))
    have K8_17 := Lib.hid (K8_16.out.below hb (show W8.heap.size < W16.heap.size by omega))
    have RW_17 := Lib.hid (RW_16.out.below hb (show W3.heap.size ≤ W16.heap.size by omega))
    have RM_17 := Lib.hid (RM_16.out.below hb (show W8.heap.size ≤ W16.heap.size by omega))
    have HB_17 := Lib.hid (HB_16.out.trans (hb.mono (show w.heap.size ≤ W16.heap.size by omega)))
    clear K2_16 K3_16 K6_16 K70_16 K71_16 K8_16 RW_16 RM_16 HB_16 hb
    have hTA := Lib.hid fun wx (hx : Below W17.heap.size W17 wx) => toM_any r c A cap _ w.heap.size zs wx (HS0.out.below (HB_17.out.trans (hx.mono (show w.heap.size ≤ W17.heap.size by omega))) (Nat.le_refl _)) (Nat.le_trans (show w.heap.size ≤ W17.heap.size by omega) hx.size) rfl (by omega)
    have hTB := Lib.hid fun wx (hx : Below W17.heap.size W17 wx) => toM_any r2 c2 A2 cap2 _ w.heap.size zs2 wx (HS1.out.below (HB_17.out.trans (hx.mono (show w.heap.size ≤ W17.heap.size by omega))) (Nat.le_refl _)) (Nat.le_trans (show w.heap.size ≤ W17.heap.size by omega) hx.size) rfl (by omega)
    have HMK := Lib.hid fun w' (hx : Below W17.heap.size W17 w') => (show ((w'.cell? ⟨w.heap.size, 0, none⟩ = some (.int .i64 r) ∧ w'.cell? ⟨w.heap.size, 1, none⟩ = some (.int .i64 c) ∧ w'.cell? ⟨w.heap.size, 2, none⟩ = some (.slice A zs.length cap)) ∧ w'.cell? ⟨w.heap.size + 1, 0, none⟩ = some (.int .i64 r2) ∧ w'.cell? ⟨w.heap.size + 1, 1, none⟩ = some (.int .i64 c2) ∧ w'.cell? ⟨w.heap.size + 1, 2, none⟩ = some (.slice A2 zs2.length cap2)) from ⟨⟨(K2_17.out.below hx (show _ < W17.heap.size by omega)).c0, (K2_17.out.below hx (show _ < W17.heap.size by omega)).c1, (K2_17.out.below hx (show _ < W17.heap.size by omega)).c2⟩, (K3_17.out.below hx (show _ < W17.heap.size by omega)).c0, (K3_17.out.below hx (show _ < W17.heap.size by omega)).c1, (K3_17.out.below hx (show _ < W17.heap.size by omega)).c2⟩)
    have hcur : Below W17.heap.size W17 W17.drew := Below.of_drew _
    have hcu0 : Below W17.heap.size W17 (W17.alloc (.cells #[.int .i64 0, .int .i64 0, .slice none 0 0] 26)).drew := ((Below.refl _ _).alloc (Nat.le_refl _) _).trans (Below.of_drew _)
    have eN0 := (Cell3.new W17 (.int .i64 0) (.int .i64 0) (.slice none 0 0) 26).grown ((drew1 _).grown none) (by simp)
    go_upto_region 31 with fail
    go_cut [13] (fun sx wx => ∃ (b6 : Nat) (AH : Option Addr) (cH : Nat), sx = .pointer (some ⟨b6, 0, none⟩) ∧ W17.heap.size ≤ b6 ∧ b6 < wx.heap.size ∧ Cell3 wx b6 (.int .i64 pr) (.int .i64 pc) (.slice AH ps.length cH) ∧ Row wx W17.heap.size wx.heap.size (.slice AH ps.length cH) ps ∧ Below W17.heap.size W17 wx)
    case first =>
      go_region_held3 (fun w' => ((w'.cell? ⟨w.heap.size, 0, none⟩ = some (.int .i64 r) ∧ w'.cell? ⟨w.heap.size, 1, none⟩ = some (.int .i64 c) ∧ w'.cell? ⟨w.heap.size, 2, none⟩ = some (.slice A zs.length cap)) ∧ w'.cell? ⟨w.heap.size + 1, 0, none⟩ = some (.int .i64 r2) ∧ w'.cell? ⟨w.heap.size + 1, 1, none⟩ = some (.int .i64 c2) ∧ w'.cell? ⟨w.heap.size + 1, 2, none⟩ = some (.slice A2 zs2.length cap2)))
        (first | exact HMK.out _ hcur | exact HMK.out _ hcu0 | exact HMK.out _ (hcur.alloc hcur.size _) | exact HMK.out _ (((hcur.setCell (p := ⟨_, 0, none⟩) hb6 _).setCell (p := ⟨_, 1, none⟩) hb6 _).setCell (p := ⟨_, 2, none⟩) hb6 _) | fail)
        (first
          | (go_simp; go_at_call 17; (with_reducible refine (hTA.out W17.drew hcur).mono ?_); rintro e Wn ⟨sva, rfl, hr, hb⟩; obtain ⟨Ab0, cb0, rfl, hqb01, hqb02, _⟩ := hr.form; have hcurn := hcur.trans (hb.mono hcur.size); (try have eN := eN.below hb eN.lt); (try have hsb := (hsb.below hb (Nat.le_refl _)).more hb.size); have hsa := hr.sl_now; have hcur := hcurn; clear hr hb hcurn; obtain ⟨Wz, hWz⟩ : ∃ W, W = Wn := ⟨_, rfl⟩; subst hWz)
          | (go_simp; go_at_call 17; (with_reducible refine (hTA.out (W17.alloc (.cells #[.int .i64 0, .int .i64 0, .slice none 0 0] 26)).drew hcu0).mono ?_); rintro e Wn ⟨sva, rfl, hr, hb⟩; obtain ⟨Ab0, cb0, rfl, hqb01, hqb02, _⟩ := hr.form; have hcurn := hcu0.trans (hb.mono hcu0.size); have eN := eN0.below hb eN0.lt; have hb6 := Nat.le_refl W17.heap.size; (try have hsb := (hsb.below hb (Nat.le_refl _)).more hb.size); have hsa := hr.sl_now; have hcur := hcurn; clear hr hb hcurn; obtain ⟨Wz, hWz⟩ : ∃ W, W = Wn := ⟨_, rfl⟩; subst hWz)
          | (go_simp; go_at_call 17; (with_reducible refine (hTA.out Wz hcur).mono ?_); rintro e Wn ⟨sva, rfl, hr, hb⟩; obtain ⟨Ab0, cb0, rfl, hqb01, hqb02, _⟩ := hr.form; have hcurn := hcur.trans (hb.mono hcur.size); (try have eN := eN.below hb eN.lt); (try have hsb := (hsb.below hb (Nat.le_refl _)).more hb.size); have hsa := hr.sl_now; have hcur := hcurn; clear hr hb hcurn; obtain ⟨Wz, hWz⟩ : ∃ W, W = Wn := ⟨_, rfl⟩; subst hWz)
          | (go_simp; go_at_call 17; (with_reducible refine (hTA.out (Wz.alloc (.cells #[.int .i64 0, .int .i64 0, .slice none 0 0] 26)) (hcur.alloc hcur.size _)).mono ?_); rintro e Wn ⟨sva, rfl, hr, hb⟩; obtain ⟨Ab0, cb0, rfl, hqb01, hqb02, _⟩ := hr.form; have hcurn := (hcur.alloc hcur.size (.cells #[.int .i64 0, .int .i64 0, .slice none 0 0] 26)).trans (hb.mono (hcur.alloc hcur.size (.cells #[.int .i64 0, .int .i64 0, .slice none 0 0] 26)).size); have eN := (Cell3.new Wz (.int .i64 0) (.int .i64 0) (.slice none 0 0) 26).below hb (by simp); have hb6 := hcur.size; (try have hsb := ((hsb.below (B' := Wz.heap.size) ((Below.refl _ Wz).alloc (Nat.le_refl _) (.cells #[.int .i64 0, .int .i64 0, .slice none 0 0] 26)) (Nat.le_refl _)).below hb (by simp)).more (Nat.le_trans (by simp) hb.size)); have hsa := hr.sl_now; have hcur := hcurn; clear hr hb hcurn; obtain ⟨Wz, hWz⟩ : ∃ W, W = Wn := ⟨_, rfl⟩; subst hWz)
          | (go_simp; go_at_call 17; (with_reducible refine (hTB.out W17.drew hcur).mono ?_); rintro e Wn ⟨sva, rfl, hr, hb⟩; obtain ⟨Ab1, cb1, rfl, hqb11, hqb12, _⟩ := hr.form; have hcurn := hcur.trans (hb.mono hcur.size); (try have eN := eN.below hb eN.lt); (try have hsa := (hsa.below hb (Nat.le_refl _)).more hb.size); have hsb := hr.sl_now; have hcur := hcurn; clear hr hb hcurn; obtain ⟨Wz, hWz⟩ : ∃ W, W = Wn := ⟨_, rfl⟩; subst hWz)
          | (go_simp; go_at_call 17; (with_reducible refine (hTB.out (W17.alloc (.cells #[.int .i64 0, .int .i64 0, .slice none 0 0] 26)).drew hcu0).mono ?_); rintro e Wn ⟨sva, rfl, hr, hb⟩; obtain ⟨Ab1, cb1, rfl, hqb11, hqb12, _⟩ := hr.form; have hcurn := hcu0.trans (hb.mono hcu0.size); have eN := eN0.below hb eN0.lt; have hb6 := Nat.le_refl W17.heap.size; (try have hsa := (hsa.below hb (Nat.le_refl _)).more hb.size); have hsb := hr.sl_now; have hcur := hcurn; clear hr hb hcurn; obtain ⟨Wz, hWz⟩ : ∃ W, W = Wn := ⟨_, rfl⟩; subst hWz)
          | (go_simp; go_at_call 17; (with_reducible refine (hTB.out Wz hcur).mono ?_); rintro e Wn ⟨sva, rfl, hr, hb⟩; obtain ⟨Ab1, cb1, rfl, hqb11, hqb12, _⟩ := hr.form; have hcurn := hcur.trans (hb.mono hcur.size); (try have eN := eN.below hb eN.lt); (try have hsa := (hsa.below hb (Nat.le_refl _)).more hb.size); have hsb := hr.sl_now; have hcur := hcurn; clear hr hb hcurn; obtain ⟨Wz, hWz⟩ : ∃ W, W = Wn := ⟨_, rfl⟩; subst hWz)
          | (go_simp; go_at_call 17; (with_reducible refine (hTB.out (Wz.alloc (.cells #[.int .i64 0, .int .i64 0, .slice none 0 0] 26)) (hcur.alloc hcur.size _)).mono ?_); rintro e Wn ⟨sva, rfl, hr, hb⟩; obtain ⟨Ab1, cb1, rfl, hqb11, hqb12, _⟩ := hr.form; have hcurn := (hcur.alloc hcur.size (.cells #[.int .i64 0, .int .i64 0, .slice none 0 0] 26)).trans (hb.mono (hcur.alloc hcur.size (.cells #[.int .i64 0, .int .i64 0, .slice none 0 0] 26)).size); have eN := (Cell3.new Wz (.int .i64 0) (.int .i64 0) (.slice none 0 0) 26).below hb (by simp); have hb6 := hcur.size; (try have hsa := ((hsa.below (B' := Wz.heap.size) ((Below.refl _ Wz).alloc (Nat.le_refl _) (.cells #[.int .i64 0, .int .i64 0, .slice none 0 0] 26)) (Nat.le_refl _)).below hb (by simp)).more (Nat.le_trans (by simp) hb.size)); have hsb := hr.sl_now; have hcur := hcurn; clear hr hb hcurn; obtain ⟨Wz, hWz⟩ : ∃ W, W = Wn := ⟨_, rfl⟩; subst hWz)
          | (go_simp; go_at_call 42; (with_reducible refine (implFold_any r c Ab0 cb0 _ Wz.heap.size zs r2 c2 Ab1 cb1 _ Wz.heap.size zs2 Wz hsa (Nat.le_refl _) rfl (by omega) hsb (Nat.le_refl _) rfl (by omega) hqb01 hqb02 hqb11 hqb12).mono ?_); rintro e Wy ⟨svy, rfl, hry, hby⟩; rw [HP.out.1, HP.out.2.1]; rw [HP.out.2.2] at hry; obtain ⟨AH, cH, rfl, _, _, _⟩ := hry.form; have hwz := hcur.size; have hcur := hcur.trans (hby.mono hcur.size); (try (have hlo := eN.lt; have eN := eN.below hby eN.lt; obtain ⟨n0, n1, n2, nf0, nf1, nf2, nlt⟩ := id eN)))
          | (go_simp; go_at_call 42; (with_reducible refine (implFold_any r c Ab0 cb0 _ Wz.heap.size zs r2 c2 Ab1 cb1 _ Wz.heap.size zs2 (Wz.alloc (.cells #[.int .i64 0, .int .i64 0, .slice none 0 0] 26)) (hsa.below ((Below.refl _ Wz).alloc (Nat.le_refl _) _) (Nat.le_refl _)) (by simp) rfl (by omega) (hsb.below ((Below.refl _ Wz).alloc (Nat.le_refl _) _) (Nat.le_refl _)) (by simp) rfl (by omega) hqb01 hqb02 hqb11 hqb12).mono ?_); rintro e Wy ⟨svy, rfl, hry, hby⟩; rw [HP.out.1, HP.out.2.1]; rw [HP.out.2.2] at hry; obtain ⟨AH, cH, rfl, _, _, _⟩ := hry.form; have eN := (Cell3.new Wz (.int .i64 0) (.int .i64 0) (.slice none 0 0) 26).below hby (by simp); have hb6 := hcur.size; have hlo := (show Wz.heap.size < (Wz.alloc (.cells #[.int .i64 0, .int .i64 0, .slice none 0 0] 26)).heap.size by simp); have hwz := Nat.le_trans hcur.size (Nat.le_of_lt hlo); have hcur := (hcur.alloc hcur.size (.cells #[.int .i64 0, .int .i64 0, .slice none 0 0] 26)).trans (hby.mono (hcur.alloc hcur.size (.cells #[.int .i64 0, .int .i64 0, .slice none 0 0] 26)).size); obtain ⟨n0, n1, n2, nf0, nf1, nf2, nlt⟩ := id eN)
          | fail)
      all_goals (
        go_wp2_with fail
        go_meet
        first
          | exact ⟨Wy.heap.size, _, _, rfl, hcur.size, by simp, Cell3.new Wy _ _ _ _, (hry.grown (World.grownBy_alloc Wy _ none) (fun g e => by cases e)).wider hwz (by simp), hcur.alloc hcur.size _⟩
          | exact ⟨_, _, _, rfl, hb6, by simpa using eN.lt, ((eN.set0 _).set1 _).set2 _, (((hry.grown (set_grown _ _ 0 _) (fun g e => by cases e; left; exact hlo)).grown (set_grown _ _ 1 _) (fun g e => by cases e; left; exact hlo)).grown (set_grown _ _ 2 _) (fun g e => by cases e; left; exact hlo)).wider hwz (by simp), ((hcur.setCell (p := ⟨_, 0, none⟩) hb6 _).setCell (p := ⟨_, 1, none⟩) hb6 _).setCell (p := ⟨_, 2, none⟩) hb6 _⟩)
    case rest =>
      obtain ⟨W18, rfl⟩ : ∃ W, W = wc := ⟨_, rfl⟩
      obtain ⟨b12, AH, cH, rfl, hbl12, hbl12', kn, rn, hb⟩ := hcut
      clear HMK hcur hcu0 eN0 hTA hTB
      have s18 := hb.size
      have K2_18 := Lib.hid (K2_17.out.below hb (show w.heap.size < W17.heap.size by omega))
      have K3_18 := Lib.hid (K3_17.out.below hb (show w.heap.size + 1 < W17.heap.size by omega))
      have K6_18 := Lib.hid (K6_17.out.below hb (show b6 < W17.heap.size by omega))
      have K70_18 := Lib.hid (K70_17.out.below hb (show W4.heap.size < W17.heap.size by omega))
      have K71_18 := Lib.hid (K71_17.out.below hb (show W6.heap.size < W17.heap.size by omega))
      have K8_18 := Lib.hid (K8_17.out.below hb (show W8.heap.size < W17.heap.size by omega))
      have RW_18 := Lib.hid (RW_17.out.below hb (show W3.heap.size ≤ W17.heap.size by omega))
      have RM_18 := Lib.hid (RM_17.out.below hb (show W8.heap.size ≤ W17.heap.size by omega))
      have HB_18 := Lib.hid (HB_17.out.trans (hb.mono (show w.heap.size ≤ W17.heap.size by omega)))
      clear K2_17 K3_17 K6_17 K70_17 K71_17 K8_17 RW_17 RM_17 HB_17 hb
      have K12_18 := Lib.hid kn
      have RH_18 := Lib.hid rn
      clear kn rn
      obtain ⟨x20, x21, x22, _, _, _, x2lt⟩ := K2_18.out
      obtain ⟨x30, x31, x32, _, _, _, x3lt⟩ := K3_18.out
      obtain ⟨x60, x61, x62, _, _, _, x6lt⟩ := K6_18.out
      obtain ⟨x700, x701, x702, _, _, _, x70lt⟩ := K70_18.out
      obtain ⟨x710, x711, x712, _, _, _, x71lt⟩ := K71_18.out
      obtain ⟨x80, x81, x82, _, _, _, x8lt⟩ := K8_18.out
      obtain ⟨x120, x121, x122, _, _, _, x12lt⟩ := K12_18.out
      go_wp2_with fail
      refine (eqM_same pr pc AH AW cH cW ps W18 (RH_18.out.sl_now.more (show W18.heap.size ≤ W18.heap.size by omega)) (RW_18.out.sl_now.more (show W3.heap.size ≤ W18.heap.size by omega)) (by omega)).mono ?_
      rintro e W19 ⟨rfl, hb⟩
      clear x20 x21 x22 x2lt x30 x31 x32 x3lt x60 x61 x62 x6lt x700 x701 x702 x70lt x710 x711 x712 x71lt x80 x81 x82 x8lt x120 x121 x122 x12lt
      have s19 := hb.size
      have K2_19 := Lib.hid (K2_18.out.below hb (show w.heap.size < W18.heap.size by omega))
      have K3_19 := Lib.hid (K3_18.out.below hb (show w.heap.size + 1 < W18.heap.size by omega))
      have K6_19 := Lib.hid (K6_18.out.below hb (show b6 < W18.heap.size by omega))
      have K70_19 := Lib.hid (K70_18.out.below hb (show W4.heap.size < W18.heap.size by omega))
      have K71_19 := Lib.hid (K71_18.out.below hb (show W6.heap.size < W18.heap.size by omega))
      have K8_19 := Lib.hid (K8_18.out.below hb (show W8.heap.size < W18.heap.size by omega))
      have K12_19 := Lib.hid (K12_18.out.below hb (show b12 < W18.heap.size by omega))
      have RW_19 := Lib.hid (RW_18.out.below hb (show W3.heap.size ≤ W18.heap.size by omega))
      have RM_19 := Lib.hid (RM_18.out.below hb (show W8.heap.size ≤ W18.heap.size by omega))
      have RH_19 := Lib.hid (RH_18.out.below hb (show W18.heap.size ≤ W18.heap.size by omega))
      have HB_19 := Lib.hid (HB_18.out.trans (hb.mono (show w.heap.size ≤ W18.heap.size by omega)))
      clear K2_18 K3_18 K6_18 K70_18 K71_18 K8_18 K12_18 RW_18 RM_18 RH_18 HB_18 hb
      obtain ⟨x20, x21, x22, _, _, _, x2lt⟩ := K2_19.out
      obtain ⟨x30, x31, x32, _, _, _, x3lt⟩ := K3_19.out
      obtain ⟨x60, x61, x62, _, _, _, x6lt⟩ := K6_19.out
      obtain ⟨x700, x701, x702, _, _, _, x70lt⟩ := K70_19.out
      obtain ⟨x710, x711, x712, _, _, _, x71lt⟩ := K71_19.out
      obtain ⟨x80, x81, x82, _, _, _, x8lt⟩ := K8_19.out
      obtain ⟨x120, x121, x122, _, _, _, x12lt⟩ := K12_19.out
      go_wp2_with fail
      refine (heldM_same (W8.heap.size) pr pc AG cG ps.length 1 W19 RM_19.out.sl_now (show W8.heap.size ≤ W19.heap.size by omega) (by omega) (by omega) (by omega)).mono ?_
      rintro e W20 ⟨rfl, hb⟩
      clear x20 x21 x22 x2lt x30 x31 x32 x3lt x60 x61 x62 x6lt x700 x701 x702 x70lt x710 x711 x712 x71lt x80 x81 x82 x8lt x120 x121 x122 x12lt
      have s20 := hb.size
      have K2_20 := Lib.hid (K2_19.out.below hb (show w.heap.size < W19.heap.size by omega))
      have K3_20 := Lib.hid (K3_19.out.below hb (show w.heap.size + 1 < W19.heap.size by omega))
      have K6_20 := Lib.hid (K6_19.out.below hb (show b6 < W19.heap.size by omega))
      have K70_20 := Lib.hid (K70_19.out.below hb (show W4.heap.size < W19.heap.size by omega))
      have K71_20 := Lib.hid (K71_19.out.below hb (show W6.heap.size < W19.heap.size by omega))
      have K8_20 := Lib.hid (K8_19.out.below hb (show W8.heap.size < W19.heap.size by omega))
      have K12_20 := Lib.hid (K12_19.out.below hb (show b12 < W19.heap.size by omega))
      have RW_20 := Lib.hid (RW_19.out.below hb (show W3.heap.size ≤ W19.heap.size by omega))
      have RM_20 := Lib.hid (RM_19.out.below hb (show W8.heap.size ≤ W19.heap.size by omega))
      have RH_20 := Lib.hid (RH_19.out.below hb (show W18.heap.size ≤ W19.heap.size by omega))
      have HB_20 := Lib.hid (HB_19.out.trans (hb.mono (show w.heap.size ≤ W19.heap.size by omega)))
      clear K2_19 K3_19 K6_19 K70_19 K71_19 K8_19 K12_19 RW_19 RM_19 RH_19 HB_19 hb
      obtain ⟨x20, x21, x22, _, _, _, x2lt⟩ := K2_20.out
      obtain ⟨x30, x31, x32, _, _, _, x3lt⟩ := K3_20.out
      obtain ⟨x60, x61, x62, _, _, _, x6lt⟩ := K6_20.out
      obtain ⟨x700, x701, x702, _, _, _, x70lt⟩ := K70_20.out
      obtain ⟨x710, x711, x712, _, _, _, x71lt⟩ := K71_20.out
      obtain ⟨x80, x81, x82, _, _, _, x8lt⟩ := K8_20.out
      obtain ⟨x120, x121, x122, _, _, _, x12lt⟩ := K12_20.out
      go_wp2
      go_ret
      exact ⟨rfl, HB_20.out⟩
end Go.Proofs.Ytakjmdjjpalaiaa
