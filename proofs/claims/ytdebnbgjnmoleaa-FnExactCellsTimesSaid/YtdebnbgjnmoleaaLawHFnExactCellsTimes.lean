/- The walk of the exact law FnExactCellsTimes. (Printed by gen_LawH.py.) -/
import Derived.Test.YtdebnbgjnmoleaaFnsH7
import Derived.Test.YtdebnbgjnmoleaaListsC2
import Derived.Test.YtdebnbgjnmoleaaCameC
import Derived.Test.YtdebnbgjnmoleaaCameM
import Derived.Test.YtdebnbgjnmoleaaDrw
import Derived.Deep.Cut
import Derived.Deep.CutRange
import Derived.Deep.DeepCutAuto
import Derived.Deep.RegionHeld3
namespace Go.Proofs.Ytdebnbgjnmoleaa
open Go.RowKit
theorem Cell3.span {lo hi b : Nat} {w w' : World} {x y z : Value} (h : Cell3 w b x y z) (k : Span lo hi w w') (hd : b < lo ∨ hi ≤ b) : Cell3 w' b x y z := by
  have hb := k.block b h.lt hd
  exact ⟨(World.cell?_of_block (a := ⟨b, 0, none⟩) hb).trans h.c0, (World.cell?_of_block (a := ⟨b, 1, none⟩) hb).trans h.c1, (World.cell?_of_block (a := ⟨b, 2, none⟩) hb).trans h.c2, (World.frozen?_of_block (a := ⟨b, 0, none⟩) hb).trans h.f0, (World.frozen?_of_block (a := ⟨b, 1, none⟩) hb).trans h.f1, (World.frozen?_of_block (a := ⟨b, 2, none⟩) hb).trans h.f2, Nat.lt_of_lt_of_le h.lt k.size⟩
set_option maxRecDepth 20000 in
set_option maxHeartbeats 3200000 in
theorem law_FnExactCellsTimes (w : World) (r : Int) (_ : (Lit.int .i64 r).wf = true) (c : Int) (_ : (Lit.int .i64 c).wf = true) (Ac : Option Addr) (nc capc : Nat) (h0 : CameC w Ac nc capc) (v1 : Value) (h1 : CameM w v1) :
    Calls Try.prog 7 #[.int .i64 r, .int .i64 c, .slice Ac nc capc, v1] w fun e w' => e = .returned (.bool true) ∧ Below w.heap.size w w' := by
  obtain ⟨ts, rfl, hnc0, hcm0, hs0⟩ := h0
  unfold maxLen at hcm0
  have HS0 := Lib.hid hs0
  clear hs0
  obtain ⟨r2, c2, A2, n1, cap2, zs2, rfl, hz1, _, _⟩ := h1
  obtain ⟨rfl, hnc1, hcm1, hs1, _⟩ := hz1
  unfold maxLen at hcm1
  have HS1 := Lib.hid hs1
  clear hs1
  have K20 := Cell3.new w (.int .i64 r2) (.int .i64 c2) (.slice A2 zs2.length cap2) 24
  obtain ⟨W0, hW⟩ : ∃ W, w.alloc (.cells #[.int .i64 r2, .int .i64 c2, .slice A2 zs2.length cap2] 24) = W := ⟨_, rfl⟩
  have hb0 : Below w.heap.size w W0 := hW ▸ (Below.refl _ _).alloc (Nat.le_refl _) _
  have hsW : W0.heap.size = w.heap.size + 1 := by rw [← hW]; simp
  rw [hW] at K20
  have K2_0 := Lib.hid K20
  clear K20
  have HB_0 := Lib.hid hb0
  clear hb0
  go_enter Try.func7, Try.ntmps7
  have hsz := szC_any Ac ts.length capc (1048576) W0 (by omega) (by omega) (by omega)
  by_cases hn0 : (1048576 : Int) < ts.length
  · rw [if_pos hn0] at hsz
    go_wp2_with fail
    refine hsz.mono ?_
    rintro e w1 ⟨rfl, rfl⟩
    clear hsz
    go_wp2
    go_ret
    exact ⟨rfl, HB_0.out⟩
  rw [if_neg hn0] at hsz
  have hd0 : decide (1048576 - (ts.length : Int) < 0) = false := by simp; omega
  obtain ⟨x20, x21, x22, _, _, _, x2lt⟩ := K2_0.out
  go_wp2_with fail
  refine hsz.mono ?_
  rintro e w1 ⟨rfl, rfl⟩
  clear hsz
  clear x20 x21 x22 x2lt
  have hsz := szM_any r2 c2 A2 zs2.length cap2 (1048576 - (ts.length : Int)) W0 (by omega) (by omega) (by omega)
  by_cases hn1 : (1048576 - (ts.length : Int) : Int) < zs2.length
  · rw [if_pos hn1] at hsz
    obtain ⟨a0, a1, a2, _, _, _, alt⟩ := K2_0.out
    go_wp2_with fail
    refine hsz.mono ?_
    rintro e w1 ⟨rfl, hb1⟩
    clear hsz
    go_wp2
    go_ret
    exact ⟨rfl, HB_0.out.trans (hb1.mono (by omega))⟩
  rw [if_neg hn1] at hsz
  have hd1 : decide (1048576 - (ts.length : Int) - (zs2.length : Int) < 0) = false := by simp; omega
  obtain ⟨x20, x21, x22, _, _, _, x2lt⟩ := K2_0.out
  go_wp2_with fail
  refine hsz.mono ?_
  rintro e W1 ⟨rfl, hb⟩
  clear hsz
  clear x20 x21 x22 x2lt
  have s1 := hb.size
  have K2_1 := Lib.hid (K2_0.out.below hb (show w.heap.size < W0.heap.size by omega))
  have HB_1 := Lib.hid (HB_0.out.trans (hb.mono (show w.heap.size ≤ W0.heap.size by omega)))
  clear K2_0 HB_0 hb
  have hpl := ctZ_len r c ts r2 c2 zs2
  obtain ⟨pr, hpr⟩ : ∃ x, ctR r c ts r2 c2 zs2 = x := ⟨_, rfl⟩
  obtain ⟨pc, hpc⟩ : ∃ x, ctC r c ts r2 c2 zs2 = x := ⟨_, rfl⟩
  obtain ⟨ps, hps⟩ : ∃ x, ctZ r c ts r2 c2 zs2 = x := ⟨_, rfl⟩
  obtain ⟨bb, hbb⟩ : ∃ x, ctB r c ts r2 c2 zs2 = x := ⟨_, rfl⟩
  rw [hps] at hpl
  have HP := Lib.hid (And.intro hpr (And.intro hpc (And.intro hps hbb)))
  clear hpr hpc hps hbb
  have hTA := Lib.hid fun wx (hx : Below W1.heap.size W1 wx) => toCellS_any Ac capc ts wx ((HS0.out.below (HB_1.out.trans (hx.mono (show w.heap.size ≤ W1.heap.size by omega))) (Nat.le_refl _)).more (Nat.le_trans (show w.heap.size ≤ W1.heap.size by omega) hx.size)) (by omega)
  have hTB := Lib.hid fun wx (hx : Below W1.heap.size W1 wx) => toM_any r2 c2 A2 cap2 _ w.heap.size zs2 wx (HS1.out.below (HB_1.out.trans (hx.mono (show w.heap.size ≤ W1.heap.size by omega))) (Nat.le_refl _)) (Nat.le_trans (show w.heap.size ≤ W1.heap.size by omega) hx.size) rfl (by omega)
  have HMK := Lib.hid fun w' (hx : Below W1.heap.size W1 w') => (show (w'.cell? ⟨w.heap.size, 0, none⟩ = some (.int .i64 r2) ∧ w'.cell? ⟨w.heap.size, 1, none⟩ = some (.int .i64 c2) ∧ w'.cell? ⟨w.heap.size, 2, none⟩ = some (.slice A2 zs2.length cap2)) from ⟨(K2_1.out.below hx (show _ < W1.heap.size by omega)).c0, (K2_1.out.below hx (show _ < W1.heap.size by omega)).c1, (K2_1.out.below hx (show _ < W1.heap.size by omega)).c2⟩)
  have hcur : Below W1.heap.size W1 W1.drew := Below.of_drew _
  have hcu0 : Below W1.heap.size W1 (W1.alloc (.cells #[.int .i64 0, .int .i64 0, .slice none 0 0] 28)).drew := ((Below.refl _ _).alloc (Nat.le_refl _) _).trans (Below.of_drew _)
  have eN0 := (Cell3.new W1 (.int .i64 0) (.int .i64 0) (.slice none 0 0) 28).grown ((drewT _).grown none) (by simp)
  obtain ⟨x20, x21, x22, _, _, _, x2lt⟩ := K2_1.out
  go_upto_region 8 with fail
  go_cut [10, 11] (fun sx sb wx => ∃ (b6 : Nat) (AW : Option Addr) (cW : Nat), sx = .pointer (some ⟨b6, 0, none⟩) ∧ sb = .bool bb ∧ W1.heap.size ≤ b6 ∧ b6 < wx.heap.size ∧ Cell3 wx b6 (.int .i64 pr) (.int .i64 pc) (.slice AW ps.length cW) ∧ Row wx W1.heap.size wx.heap.size (.slice AW ps.length cW) ps ∧ Below W1.heap.size W1 wx)
  case first =>
    go_region_held3 (fun w' => (w'.cell? ⟨w.heap.size, 0, none⟩ = some (.int .i64 r2) ∧ w'.cell? ⟨w.heap.size, 1, none⟩ = some (.int .i64 c2) ∧ w'.cell? ⟨w.heap.size, 2, none⟩ = some (.slice A2 zs2.length cap2)))
      (first | exact HMK.out _ hcur | exact HMK.out _ hcu0 | exact HMK.out _ (hcur.alloc hcur.size _) | exact HMK.out _ (((hcur.setCell (p := ⟨_, 0, none⟩) hb6 _).setCell (p := ⟨_, 1, none⟩) hb6 _).setCell (p := ⟨_, 2, none⟩) hb6 _) | fail)
      (first
        | (go_simp; go_at_call 28; (with_reducible refine (hTA.out W1.drew hcur).mono ?_); rintro e Wn ⟨sva, rfl, hr, hb⟩; obtain ⟨Aa, ca, rfl, hqa1, hqa2, _⟩ := hr.form; have hcurn := hcur.trans (hb.mono hcur.size); (try have eN := eN.below hb eN.lt); (try have hsb := (hsb.below hb (Nat.le_refl _)).more hb.size); have hsa := hr.sl.2; have hcur := hcurn; clear hr hb hcurn; obtain ⟨Wz, hWz⟩ : ∃ W, W = Wn := ⟨_, rfl⟩; subst hWz)
        | (go_simp; go_at_call 28; (with_reducible refine (hTA.out (W1.alloc (.cells #[.int .i64 0, .int .i64 0, .slice none 0 0] 28)).drew hcu0).mono ?_); rintro e Wn ⟨sva, rfl, hr, hb⟩; obtain ⟨Aa, ca, rfl, hqa1, hqa2, _⟩ := hr.form; have hcurn := hcu0.trans (hb.mono hcu0.size); have eN := eN0.below hb eN0.lt; have hb6 := Nat.le_refl W1.heap.size; (try have hsb := (hsb.below hb (Nat.le_refl _)).more hb.size); have hsa := hr.sl.2; have hcur := hcurn; clear hr hb hcurn; obtain ⟨Wz, hWz⟩ : ∃ W, W = Wn := ⟨_, rfl⟩; subst hWz)
        | (go_simp; go_at_call 28; (with_reducible refine (hTA.out Wz hcur).mono ?_); rintro e Wn ⟨sva, rfl, hr, hb⟩; obtain ⟨Aa, ca, rfl, hqa1, hqa2, _⟩ := hr.form; have hcurn := hcur.trans (hb.mono hcur.size); (try have eN := eN.below hb eN.lt); (try have hsb := (hsb.below hb (Nat.le_refl _)).more hb.size); have hsa := hr.sl.2; have hcur := hcurn; clear hr hb hcurn; obtain ⟨Wz, hWz⟩ : ∃ W, W = Wn := ⟨_, rfl⟩; subst hWz)
        | (go_simp; go_at_call 28; (with_reducible refine (hTA.out (Wz.alloc (.cells #[.int .i64 0, .int .i64 0, .slice none 0 0] 28)) (hcur.alloc hcur.size _)).mono ?_); rintro e Wn ⟨sva, rfl, hr, hb⟩; obtain ⟨Aa, ca, rfl, hqa1, hqa2, _⟩ := hr.form; have hcurn := (hcur.alloc hcur.size (.cells #[.int .i64 0, .int .i64 0, .slice none 0 0] 28)).trans (hb.mono (hcur.alloc hcur.size (.cells #[.int .i64 0, .int .i64 0, .slice none 0 0] 28)).size); have eN := (Cell3.new Wz (.int .i64 0) (.int .i64 0) (.slice none 0 0) 28).below hb (by simp); have hb6 := hcur.size; (try have hsb := ((hsb.below (B' := Wz.heap.size) ((Below.refl _ Wz).alloc (Nat.le_refl _) (.cells #[.int .i64 0, .int .i64 0, .slice none 0 0] 28)) (Nat.le_refl _)).below hb (by simp)).more (Nat.le_trans (by simp) hb.size)); have hsa := hr.sl.2; have hcur := hcurn; clear hr hb hcurn; obtain ⟨Wz, hWz⟩ : ∃ W, W = Wn := ⟨_, rfl⟩; subst hWz)
        | (go_simp; go_at_call 13; (with_reducible refine (hTB.out W1.drew hcur).mono ?_); rintro e Wn ⟨sva, rfl, hr, hb⟩; obtain ⟨Ab, cb, rfl, hqb1, hqb2, _⟩ := hr.form; have hcurn := hcur.trans (hb.mono hcur.size); (try have eN := eN.below hb eN.lt); (try have hsa := (hsa.below hb (Nat.le_refl _)).more hb.size); have hsb := hr.sl_now; have hcur := hcurn; clear hr hb hcurn; obtain ⟨Wz, hWz⟩ : ∃ W, W = Wn := ⟨_, rfl⟩; subst hWz)
        | (go_simp; go_at_call 13; (with_reducible refine (hTB.out (W1.alloc (.cells #[.int .i64 0, .int .i64 0, .slice none 0 0] 28)).drew hcu0).mono ?_); rintro e Wn ⟨sva, rfl, hr, hb⟩; obtain ⟨Ab, cb, rfl, hqb1, hqb2, _⟩ := hr.form; have hcurn := hcu0.trans (hb.mono hcu0.size); have eN := eN0.below hb eN0.lt; have hb6 := Nat.le_refl W1.heap.size; (try have hsa := (hsa.below hb (Nat.le_refl _)).more hb.size); have hsb := hr.sl_now; have hcur := hcurn; clear hr hb hcurn; obtain ⟨Wz, hWz⟩ : ∃ W, W = Wn := ⟨_, rfl⟩; subst hWz)
        | (go_simp; go_at_call 13; (with_reducible refine (hTB.out Wz hcur).mono ?_); rintro e Wn ⟨sva, rfl, hr, hb⟩; obtain ⟨Ab, cb, rfl, hqb1, hqb2, _⟩ := hr.form; have hcurn := hcur.trans (hb.mono hcur.size); (try have eN := eN.below hb eN.lt); (try have hsa := (hsa.below hb (Nat.le_refl _)).more hb.size); have hsb := hr.sl_now; have hcur := hcurn; clear hr hb hcurn; obtain ⟨Wz, hWz⟩ : ∃ W, W = Wn := ⟨_, rfl⟩; subst hWz)
        | (go_simp; go_at_call 13; (with_reducible refine (hTB.out (Wz.alloc (.cells #[.int .i64 0, .int .i64 0, .slice none 0 0] 28)) (hcur.alloc hcur.size _)).mono ?_); rintro e Wn ⟨sva, rfl, hr, hb⟩; obtain ⟨Ab, cb, rfl, hqb1, hqb2, _⟩ := hr.form; have hcurn := (hcur.alloc hcur.size (.cells #[.int .i64 0, .int .i64 0, .slice none 0 0] 28)).trans (hb.mono (hcur.alloc hcur.size (.cells #[.int .i64 0, .int .i64 0, .slice none 0 0] 28)).size); have eN := (Cell3.new Wz (.int .i64 0) (.int .i64 0) (.slice none 0 0) 28).below hb (by simp); have hb6 := hcur.size; (try have hsa := ((hsa.below (B' := Wz.heap.size) ((Below.refl _ Wz).alloc (Nat.le_refl _) (.cells #[.int .i64 0, .int .i64 0, .slice none 0 0] 28)) (Nat.le_refl _)).below hb (by simp)).more (Nat.le_trans (by simp) hb.size)); have hsb := hr.sl_now; have hcur := hcurn; clear hr hb hcurn; obtain ⟨Wz, hWz⟩ : ∃ W, W = Wn := ⟨_, rfl⟩; subst hWz)
        | (go_simp; go_at_call 31; (with_reducible refine (specCT_any r c Aa ca Wz.heap.size ts r2 c2 Ab cb _ Wz.heap.size zs2 Wz hsa (Nat.le_refl _) (by omega) hsb (Nat.le_refl _) rfl (by omega)).mono ?_); rintro e Wy ⟨svy, rfl, hry, hby⟩; rw [HP.out.1, HP.out.2.1, HP.out.2.2.2]; rw [HP.out.2.2.1] at hry; obtain ⟨AW, cW, rfl, _, _, _⟩ := hry.form; have hwz := hcur.size; have hcur := hcur.trans (hby.mono hcur.size); (try (have hlo := eN.lt; have eN := eN.below hby eN.lt; obtain ⟨n0, n1, n2, nf0, nf1, nf2, nlt⟩ := id eN)))
        | (go_simp; go_at_call 31; (with_reducible refine (specCT_any r c Aa ca Wz.heap.size ts r2 c2 Ab cb _ Wz.heap.size zs2 (Wz.alloc (.cells #[.int .i64 0, .int .i64 0, .slice none 0 0] 28)) (hsa.below ((Below.refl _ Wz).alloc (Nat.le_refl _) _) (Nat.le_refl _)) (by simp) (by omega) (hsb.below ((Below.refl _ Wz).alloc (Nat.le_refl _) _) (Nat.le_refl _)) (by simp) rfl (by omega)).mono ?_); rintro e Wy ⟨svy, rfl, hry, hby⟩; rw [HP.out.1, HP.out.2.1, HP.out.2.2.2]; rw [HP.out.2.2.1] at hry; obtain ⟨AW, cW, rfl, _, _, _⟩ := hry.form; have eN := (Cell3.new Wz (.int .i64 0) (.int .i64 0) (.slice none 0 0) 28).below hby (by simp); have hb6 := hcur.size; have hlo := (show Wz.heap.size < (Wz.alloc (.cells #[.int .i64 0, .int .i64 0, .slice none 0 0] 28)).heap.size by simp); have hwz := Nat.le_trans hcur.size (Nat.le_of_lt hlo); have hcur := (hcur.alloc hcur.size (.cells #[.int .i64 0, .int .i64 0, .slice none 0 0] 28)).trans (hby.mono (hcur.alloc hcur.size (.cells #[.int .i64 0, .int .i64 0, .slice none 0 0] 28)).size); obtain ⟨n0, n1, n2, nf0, nf1, nf2, nlt⟩ := id eN)
        | fail)
    all_goals (
      go_wp2_with fail
      go_meet
      first
        | exact ⟨Wy.heap.size, _, _, rfl, rfl, hcur.size, by simp, Cell3.new Wy _ _ _ _, (hry.grown (World.grownBy_alloc Wy _ none) (fun g e => by cases e)).wider hwz (by simp), hcur.alloc hcur.size _⟩
        | exact ⟨_, _, _, rfl, rfl, hb6, by simpa using eN.lt, ((eN.set0 _).set1 _).set2 _, (((hry.grown (set_grown _ _ 0 _) (fun g e => by cases e; left; exact hlo)).grown (set_grown _ _ 1 _) (fun g e => by cases e; left; exact hlo)).grown (set_grown _ _ 2 _) (fun g e => by cases e; left; exact hlo)).wider hwz (by simp), ((hcur.setCell (p := ⟨_, 0, none⟩) hb6 _).setCell (p := ⟨_, 1, none⟩) hb6 _).setCell (p := ⟨_, 2, none⟩) hb6 _⟩)
  case rest =>
    obtain ⟨W2, rfl⟩ : ∃ W, W = wc := ⟨_, rfl⟩
    obtain ⟨b6, AW, cW, rfl, rfl, hbl6, hbl6', kn, rn, hb⟩ := hcut
    clear HMK hcur hcu0 eN0 hTA hTB
    clear x20 x21 x22 x2lt
    have s2 := hb.size
    have K2_2 := Lib.hid (K2_1.out.below hb (show w.heap.size < W1.heap.size by omega))
    have HB_2 := Lib.hid (HB_1.out.trans (hb.mono (show w.heap.size ≤ W1.heap.size by omega)))
    clear K2_1 HB_1 hb
    have K6_2 := Lib.hid kn
    have RW_2 := Lib.hid rn
    clear kn rn
    obtain ⟨x20, x21, x22, _, _, _, x2lt⟩ := K2_2.out
    obtain ⟨x60, x61, x62, _, _, _, x6lt⟩ := K6_2.out
    go_wp2_with fail
    refine (toCellS_any Ac capc ts W2 ((HS0.out.below HB_2.out (Nat.le_refl _)).more (show w.heap.size ≤ W2.heap.size by omega)) (by omega)).mono ?_
    rintro e W3 ⟨sv3, rfl, hr, hb⟩
    obtain ⟨AX, cX, rfl, hcp1, hcp2, _⟩ := hr.form
    have HCPX := Lib.hid (And.intro hcp1 hcp2)
    clear hcp1 hcp2
    clear x20 x21 x22 x2lt x60 x61 x62 x6lt
    have s3 := hb.size
    have K2_3 := Lib.hid (K2_2.out.below hb (show w.heap.size < W2.heap.size by omega))
    have K6_3 := Lib.hid (K6_2.out.below hb (show b6 < W2.heap.size by omega))
    have RW_3 := Lib.hid (RW_2.out.below hb (show W2.heap.size ≤ W2.heap.size by omega))
    have HB_3 := Lib.hid (HB_2.out.trans (hb.mono (show w.heap.size ≤ W2.heap.size by omega)))
    clear K2_2 K6_2 RW_2 HB_2 hb
    have RX_3 := Lib.hid hr
    clear hr
    obtain ⟨x20, x21, x22, _, _, _, x2lt⟩ := K2_3.out
    obtain ⟨x60, x61, x62, _, _, _, x6lt⟩ := K6_3.out
    go_wp2_with fail
    refine (toM_any r2 c2 A2 cap2 _ w.heap.size zs2 W3 (HS1.out.below HB_3.out (Nat.le_refl _)) (show w.heap.size ≤ W3.heap.size by omega) rfl (by omega)).mono ?_
    rintro e W4 ⟨sv4, rfl, hr, hb⟩
    obtain ⟨AY, cY, rfl, hcp1, hcp2, _⟩ := hr.form
    have HCPY := Lib.hid (And.intro hcp1 hcp2)
    clear hcp1 hcp2
    clear x20 x21 x22 x2lt x60 x61 x62 x6lt
    have s4 := hb.size
    have K2_4 := Lib.hid (K2_3.out.below hb (show w.heap.size < W3.heap.size by omega))
    have K6_4 := Lib.hid (K6_3.out.below hb (show b6 < W3.heap.size by omega))
    have RW_4 := Lib.hid (RW_3.out.below hb (show W2.heap.size ≤ W3.heap.size by omega))
    have RX_4 := Lib.hid (RX_3.out.below hb (show W3.heap.size ≤ W3.heap.size by omega))
    have HB_4 := Lib.hid (HB_3.out.trans (hb.mono (show w.heap.size ≤ W3.heap.size by omega)))
    clear K2_3 K6_3 RW_3 RX_3 HB_3 hb
    have RY_4 := Lib.hid hr
    clear hr
    have kn := Cell3.new W4 (.int .i64 r2) (.int .i64 c2) (.slice AY zs2.length cY) 28
    obtain ⟨W5, hW5⟩ : ∃ W, W4.alloc (.cells #[.int .i64 r2, .int .i64 c2, .slice AY zs2.length cY] 28) = W := ⟨_, rfl⟩
    rw [hW5] at kn
    have z5 : W5.heap.size = W4.heap.size + 1 := by rw [← hW5]; simp
    have hal : Below W4.heap.size W4 W5 := hW5 ▸ (Below.refl _ _).alloc (Nat.le_refl _) _
    have s5 := hal.size
    have K2_5 := Lib.hid (K2_4.out.below hal (show w.heap.size < W4.heap.size by omega))
    have K6_5 := Lib.hid (K6_4.out.below hal (show b6 < W4.heap.size by omega))
    have RW_5 := Lib.hid (RW_4.out.below hal (show W2.heap.size ≤ W4.heap.size by omega))
    have RX_5 := Lib.hid (RX_4.out.below hal (show W3.heap.size ≤ W4.heap.size by omega))
    have RY_5 := Lib.hid (RY_4.out.below hal (show W4.heap.size ≤ W4.heap.size by omega))
    have HB_5 := Lib.hid (HB_4.out.trans (hal.mono (show w.heap.size ≤ W4.heap.size by omega)))
    clear K2_4 K6_4 RW_4 RX_4 RY_4 HB_4 hal
    have K7_5 := Lib.hid kn
    clear kn
    obtain ⟨x20, x21, x22, _, _, _, x2lt⟩ := K2_5.out
    obtain ⟨x60, x61, x62, _, _, _, x6lt⟩ := K6_5.out
    obtain ⟨x70, x71, x72, _, _, _, x7lt⟩ := K7_5.out
    go_wp2_with fail
    refine (implCT_any r c AX cX W5.heap.size ts r2 c2 AY cY _ W5.heap.size zs2 W5 (RX_5.out.sl.2.more (show W3.heap.size ≤ W5.heap.size by omega)) (Nat.le_refl _) (by omega) (RY_5.out.sl_now.more (show W4.heap.size ≤ W5.heap.size by omega)) (Nat.le_refl _) rfl (by omega) HCPY.out.1 HCPY.out.2).mono ?_
    rintro e W6 ⟨sv6, rfl, hr, hb⟩
    rw [HP.out.1, HP.out.2.1, HP.out.2.2.2]
    rw [HP.out.2.2.1] at hr
    obtain ⟨AG, cG, rfl, hcp1, hcp2, _⟩ := hr.form
    clear hcp1 hcp2
    clear x20 x21 x22 x2lt x60 x61 x62 x6lt x70 x71 x72 x7lt
    have s6 := hb.size
    have K2_6 := Lib.hid (K2_5.out.below hb (show w.heap.size < W5.heap.size by omega))
    have K6_6 := Lib.hid (K6_5.out.below hb (show b6 < W5.heap.size by omega))
    have K7_6 := Lib.hid (K7_5.out.below hb (show W4.heap.size < W5.heap.size by omega))
    have RW_6 := Lib.hid (RW_5.out.below hb (show W2.heap.size ≤ W5.heap.size by omega))
    have RX_6 := Lib.hid (RX_5.out.below hb (show W3.heap.size ≤ W5.heap.size by omega))
    have RY_6 := Lib.hid (RY_5.out.below hb (show W4.heap.size ≤ W5.heap.size by omega))
    have HB_6 := Lib.hid (HB_5.out.trans (hb.mono (show w.heap.size ≤ W5.heap.size by omega)))
    clear K2_5 K6_5 K7_5 RW_5 RX_5 RY_5 HB_5 hb
    have RG_6 := Lib.hid hr
    clear hr
    have kn := Cell3.new W6 (.int .i64 pr) (.int .i64 pc) (.slice AG ps.length cG) 28
    obtain ⟨W7, hW7⟩ : ∃ W, W6.alloc (.cells #[.int .i64 pr, .int .i64 pc, .slice AG ps.length cG] 28) = W := ⟨_, rfl⟩
    rw [hW7] at kn
    have z7 : W7.heap.size = W6.heap.size + 1 := by rw [← hW7]; simp
    have hal : Below W6.heap.size W6 W7 := hW7 ▸ (Below.refl _ _).alloc (Nat.le_refl _) _
    have s7 := hal.size
    have K2_7 := Lib.hid (K2_6.out.below hal (show w.heap.size < W6.heap.size by omega))
    have K6_7 := Lib.hid (K6_6.out.below hal (show b6 < W6.heap.size by omega))
    have K7_7 := Lib.hid (K7_6.out.below hal (show W4.heap.size < W6.heap.size by omega))
    have RW_7 := Lib.hid (RW_6.out.below hal (show W2.heap.size ≤ W6.heap.size by omega))
    have RX_7 := Lib.hid (RX_6.out.below hal (show W3.heap.size ≤ W6.heap.size by omega))
    have RY_7 := Lib.hid (RY_6.out.below hal (show W4.heap.size ≤ W6.heap.size by omega))
    have RG_7 := Lib.hid (RG_6.out.below hal (show W6.heap.size ≤ W6.heap.size by omega))
    have HB_7 := Lib.hid (HB_6.out.trans (hal.mono (show w.heap.size ≤ W6.heap.size by omega)))
    clear K2_6 K6_6 K7_6 RW_6 RX_6 RY_6 RG_6 HB_6 hal
    have K8_7 := Lib.hid kn
    clear kn
    obtain ⟨x20, x21, x22, _, _, _, x2lt⟩ := K2_7.out
    obtain ⟨x60, x61, x62, _, _, _, x6lt⟩ := K6_7.out
    obtain ⟨x70, x71, x72, _, _, _, x7lt⟩ := K7_7.out
    obtain ⟨x80, x81, x82, _, _, _, x8lt⟩ := K8_7.out
    go_wp2_with fail
    refine (eqM_same pr pc AG AW cG cW ps W7 (RG_7.out.sl_now.more (show W6.heap.size ≤ W7.heap.size by omega)) (RW_7.out.sl_now.more (show W2.heap.size ≤ W7.heap.size by omega)) (by omega)).mono ?_
    rintro e W8 ⟨rfl, hb⟩
    clear x20 x21 x22 x2lt x60 x61 x62 x6lt x70 x71 x72 x7lt x80 x81 x82 x8lt
    have s8 := hb.size
    have K2_8 := Lib.hid (K2_7.out.below hb (show w.heap.size < W7.heap.size by omega))
    have K6_8 := Lib.hid (K6_7.out.below hb (show b6 < W7.heap.size by omega))
    have K7_8 := Lib.hid (K7_7.out.below hb (show W4.heap.size < W7.heap.size by omega))
    have K8_8 := Lib.hid (K8_7.out.below hb (show W6.heap.size < W7.heap.size by omega))
    have RW_8 := Lib.hid (RW_7.out.below hb (show W2.heap.size ≤ W7.heap.size by omega))
    have RX_8 := Lib.hid (RX_7.out.below hb (show W3.heap.size ≤ W7.heap.size by omega))
    have RY_8 := Lib.hid (RY_7.out.below hb (show W4.heap.size ≤ W7.heap.size by omega))
    have RG_8 := Lib.hid (RG_7.out.below hb (show W6.heap.size ≤ W7.heap.size by omega))
    have HB_8 := Lib.hid (HB_7.out.trans (hb.mono (show w.heap.size ≤ W7.heap.size by omega)))
    clear K2_7 K6_7 K7_7 K8_7 RW_7 RX_7 RY_7 RG_7 HB_7 hb
    obtain ⟨x20, x21, x22, _, _, _, x2lt⟩ := K2_8.out
    obtain ⟨x60, x61, x62, _, _, _, x6lt⟩ := K6_8.out
    obtain ⟨x70, x71, x72, _, _, _, x7lt⟩ := K7_8.out
    obtain ⟨x80, x81, x82, _, _, _, x8lt⟩ := K8_8.out
    go_wp2_with fail
    refine (toCellS_any Ac capc ts W8 ((HS0.out.below HB_8.out (Nat.le_refl _)).more (show w.heap.size ≤ W8.heap.size by omega)) (by omega)).mono ?_
    rintro e W9 ⟨sv9, rfl, hr, hb⟩
    obtain ⟨At, ct, rfl, hcp1, hcp2, _⟩ := hr.form
    have HCPt := Lib.hid (And.intro hcp1 hcp2)
    clear hcp1 hcp2
    clear x20 x21 x22 x2lt x60 x61 x62 x6lt x70 x71 x72 x7lt x80 x81 x82 x8lt
    have s9 := hb.size
    have K2_9 := Lib.hid (K2_8.out.below hb (show w.heap.size < W8.heap.size by omega))
    have K6_9 := Lib.hid (K6_8.out.below hb (show b6 < W8.heap.size by omega))
    have K7_9 := Lib.hid (K7_8.out.below hb (show W4.heap.size < W8.heap.size by omega))
    have K8_9 := Lib.hid (K8_8.out.below hb (show W6.heap.size < W8.heap.size by omega))
    have RW_9 := Lib.hid (RW_8.out.below hb (show W2.heap.size ≤ W8.heap.size by omega))
    have RX_9 := Lib.hid (RX_8.out.below hb (show W3.heap.size ≤ W8.heap.size by omega))
    have RY_9 := Lib.hid (RY_8.out.below hb (show W4.heap.size ≤ W8.heap.size by omega))
    have RG_9 := Lib.hid (RG_8.out.below hb (show W6.heap.size ≤ W8.heap.size by omega))
    have HB_9 := Lib.hid (HB_8.out.trans (hb.mono (show w.heap.size ≤ W8.heap.size by omega)))
    clear K2_8 K6_8 K7_8 K8_8 RW_8 RX_8 RY_8 RG_8 HB_8 hb
    have Rt_9 := Lib.hid hr
    clear hr
    obtain ⟨x20, x21, x22, _, _, _, x2lt⟩ := K2_9.out
    obtain ⟨x60, x61, x62, _, _, _, x6lt⟩ := K6_9.out
    obtain ⟨x70, x71, x72, _, _, _, x7lt⟩ := K7_9.out
    obtain ⟨x80, x81, x82, _, _, _, x8lt⟩ := K8_9.out
    go_wp2_with fail
    refine (eqCellS_same AX At cX ct ts W9 (RX_9.out.sl.2.more (show W3.heap.size ≤ W9.heap.size by omega)) (Rt_9.out.sl.2.more (show W9.heap.size ≤ W9.heap.size by omega)) (by omega)).mono ?_
    rintro e W10 ⟨rfl, hb⟩
    clear x20 x21 x22 x2lt x60 x61 x62 x6lt x70 x71 x72 x7lt x80 x81 x82 x8lt
    have s10 := hb.size
    have K2_10 := Lib.hid (K2_9.out.below hb (show w.heap.size < W9.heap.size by omega))
    have K6_10 := Lib.hid (K6_9.out.below hb (show b6 < W9.heap.size by omega))
    have K7_10 := Lib.hid (K7_9.out.below hb (show W4.heap.size < W9.heap.size by omega))
    have K8_10 := Lib.hid (K8_9.out.below hb (show W6.heap.size < W9.heap.size by omega))
    have RW_10 := Lib.hid (RW_9.out.below hb (show W2.heap.size ≤ W9.heap.size by omega))
    have RX_10 := Lib.hid (RX_9.out.below hb (show W3.heap.size ≤ W9.heap.size by omega))
    have RY_10 := Lib.hid (RY_9.out.below hb (show W4.heap.size ≤ W9.heap.size by omega))
    have RG_10 := Lib.hid (RG_9.out.below hb (show W6.heap.size ≤ W9.heap.size by omega))
    have Rt_10 := Lib.hid (Rt_9.out.below hb (show W9.heap.size ≤ W9.heap.size by omega))
    have HB_10 := Lib.hid (HB_9.out.trans (hb.mono (show w.heap.size ≤ W9.heap.size by omega)))
    clear K2_9 K6_9 K7_9 K8_9 RW_9 RX_9 RY_9 RG_9 Rt_9 HB_9 hb
    obtain ⟨x20, x21, x22, _, _, _, x2lt⟩ := K2_10.out
    obtain ⟨x60, x61, x62, _, _, _, x6lt⟩ := K6_10.out
    obtain ⟨x70, x71, x72, _, _, _, x7lt⟩ := K7_10.out
    obtain ⟨x80, x81, x82, _, _, _, x8lt⟩ := K8_10.out
    go_wp2
    go_region_held3 (fun w' => (w'.cell? ⟨W4.heap.size, 0, none⟩ = some (.int .i64 r2) ∧ w'.cell? ⟨W4.heap.size, 1, none⟩ = some (.int .i64 c2) ∧ w'.cell? ⟨W4.heap.size, 2, none⟩ = some (.slice AY zs2.length cY)) ∧ w'.cell? ⟨w.heap.size, 0, none⟩ = some (.int .i64 r2) ∧ w'.cell? ⟨w.heap.size, 1, none⟩ = some (.int .i64 c2) ∧ w'.cell? ⟨w.heap.size, 2, none⟩ = some (.slice A2 zs2.length cap2))
      (first | exact ⟨⟨x70, x71, x72⟩, x20, x21, x22⟩ | exact ⟨⟨y0, y1, y2⟩, y3, y4, y5⟩ | exact ⟨⟨u0, u1, u2⟩, u3, u4, u5⟩)
      (first
        | (go_simp; go_at_call 13; refine (toM_any r2 c2 A2 cap2 _ w.heap.size zs2 W10.drew (HS1.out.below (HB_10.out.trans (Below.of_drew _)) (Nat.le_refl _)) (show w.heap.size ≤ W10.heap.size by omega) rfl (by omega)).mono ?_; rintro e Wa ⟨sva, rfl, hra, hba⟩; obtain ⟨Aq, cq, rfl, _, _, _⟩ := hra.form; have hbz : Below W10.heap.size W10 Wa := (Below.of_drew _).trans hba; have szA := hbz.size; obtain ⟨y0, y1, y2, _, _, _, _⟩ := K7_10.out.below hbz (show W4.heap.size < W10.heap.size by omega); obtain ⟨y3, y4, y5, _, _, _, _⟩ := K2_10.out.below hbz (show w.heap.size < W10.heap.size by omega))
        | (go_simp; go_at_call 16; refine (eqM_same r2 c2 AY Aq cY cq zs2 Wa ((RY_10.out.below hbz (show W4.heap.size ≤ W10.heap.size by omega)).sl_now.more (show W4.heap.size ≤ Wa.heap.size by omega)) (hra.sl_now) (by omega)).mono ?_; rintro e Wb ⟨rfl, hbb⟩; have hbw : Below W10.heap.size W10 Wb := hbz.trans (hbb.mono (show W10.heap.size ≤ Wa.heap.size by omega)); obtain ⟨u0, u1, u2, _, _, _, _⟩ := K7_10.out.below hbw (show W4.heap.size < W10.heap.size by omega); obtain ⟨u3, u4, u5, _, _, _, _⟩ := K2_10.out.below hbw (show w.heap.size < W10.heap.size by omega)))
    clear y0 y1 y2 y3 y4 y5 u0 u1 u2 u3 u4 u5 hra hbz hbb hba szA
    obtain ⟨W11, hWb⟩ : ∃ W, W = Wb := ⟨_, rfl⟩
    subst hWb
    clear x20 x21 x22 x2lt x60 x61 x62 x6lt x70 x71 x72 x7lt x80 x81 x82 x8lt
    have s11 := hbw.size
    have K2_11 := Lib.hid (K2_10.out.below hbw (show w.heap.size < W10.heap.size by omega))
    have K6_11 := Lib.hid (K6_10.out.below hbw (show b6 < W10.heap.size by omega))
    have K7_11 := Lib.hid (K7_10.out.below hbw (show W4.heap.size < W10.heap.size by omega))
    have K8_11 := Lib.hid (K8_10.out.below hbw (show W6.heap.size < W10.heap.size by omega))
    have RW_11 := Lib.hid (RW_10.out.below hbw (show W2.heap.size ≤ W10.heap.size by omega))
    have RX_11 := Lib.hid (RX_10.out.below hbw (show W3.heap.size ≤ W10.heap.size by omega))
    have RY_11 := Lib.hid (RY_10.out.below hbw (show W4.heap.size ≤ W10.heap.size by omega))
    have RG_11 := Lib.hid (RG_10.out.below hbw (show W6.heap.size ≤ W10.heap.size by omega))
    have HB_11 := Lib.hid (HB_10.out.trans (hbw.mono (show w.heap.size ≤ W10.heap.size by omega)))
    clear K2_10 K6_10 K7_10 K8_10 RW_10 RX_10 RY_10 RG_10 HB_10 hbw
    obtain ⟨x20, x21, x22, _, _, _, x2lt⟩ := K2_11.out
    obtain ⟨x60, x61, x62, _, _, _, x6lt⟩ := K6_11.out
    obtain ⟨x70, x71, x72, _, _, _, x7lt⟩ := K7_11.out
    obtain ⟨x80, x81, x82, _, _, _, x8lt⟩ := K8_11.out
    go_wp2_with fail
    refine (markC_any (W2.heap.size) (W3.heap.size) AX cX ts.length (fl ts) (1) W11 RX_11.out (by omega) (by omega) (by omega)).mono ?_
    rintro e W12 ⟨rfl, hrm, hgr⟩
    have hsp := Span.of_grown (lo := W2.heap.size) (hi := W3.heap.size) hgr (fun g e => RX_11.out.block_lt g e)
    clear hgr
    clear x20 x21 x22 x2lt x60 x61 x62 x6lt x70 x71 x72 x7lt x80 x81 x82 x8lt
    have s12 := hsp.size
    have K2_12 := Lib.hid (K2_11.out.span hsp (show w.heap.size < W2.heap.size ∨ W3.heap.size ≤ w.heap.size by omega))
    have K6_12 := Lib.hid (K6_11.out.span hsp (show b6 < W2.heap.size ∨ W3.heap.size ≤ b6 by omega))
    have K7_12 := Lib.hid (K7_11.out.span hsp (show W4.heap.size < W2.heap.size ∨ W3.heap.size ≤ W4.heap.size by omega))
    have K8_12 := Lib.hid (K8_11.out.span hsp (show W6.heap.size < W2.heap.size ∨ W3.heap.size ≤ W6.heap.size by omega))
    have RW_12 := Lib.hid (RW_11.out.span hsp (show W2.heap.size ≤ W2.heap.size ∨ W3.heap.size ≤ W1.heap.size by omega))
    have RY_12 := Lib.hid (RY_11.out.span hsp (show W4.heap.size ≤ W2.heap.size ∨ W3.heap.size ≤ W3.heap.size by omega))
    have RG_12 := Lib.hid (RG_11.out.span hsp (show W6.heap.size ≤ W2.heap.size ∨ W3.heap.size ≤ W5.heap.size by omega))
    have HB_12 := Lib.hid (Span.below HB_11.out hsp (show w.heap.size ≤ W2.heap.size by omega) (show w.heap.size ≤ W11.heap.size by omega))
    clear K2_11 K6_11 K7_11 K8_11 RW_11 RX_11 RY_11 RG_11 HB_11 hsp
    clear hrm
    obtain ⟨x20, x21, x22, _, _, _, x2lt⟩ := K2_12.out
    obtain ⟨x60, x61, x62, _, _, _, x6lt⟩ := K6_12.out
    obtain ⟨x70, x71, x72, _, _, _, x7lt⟩ := K7_12.out
    obtain ⟨x80, x81, x82, _, _, _, x8lt⟩ := K8_12.out
    go_wp2_with fail
    refine (markM_any (W3.heap.size) (W4.heap.size) r2 c2 AY cY zs2 (1 + ((ts.length * 3 : Nat) : Int)) W12 RY_12.out (show W4.heap.size ≤ W12.heap.size by omega) (by omega) (by omega) (by omega)).mono ?_
    rintro e W13 ⟨rfl, hrm, hsp⟩
    clear x20 x21 x22 x2lt x60 x61 x62 x6lt x70 x71 x72 x7lt x80 x81 x82 x8lt
    have s13 := hsp.size
    have K2_13 := Lib.hid (K2_12.out.span hsp (show w.heap.size < W3.heap.size ∨ W4.heap.size ≤ w.heap.size by omega))
    have K6_13 := Lib.hid (K6_12.out.span hsp (show b6 < W3.heap.size ∨ W4.heap.size ≤ b6 by omega))
    have K7_13 := Lib.hid (K7_12.out.span hsp (show W4.heap.size < W3.heap.size ∨ W4.heap.size ≤ W4.heap.size by omega))
    have K8_13 := Lib.hid (K8_12.out.span hsp (show W6.heap.size < W3.heap.size ∨ W4.heap.size ≤ W6.heap.size by omega))
    have RW_13 := Lib.hid (RW_12.out.span hsp (show W2.heap.size ≤ W3.heap.size ∨ W4.heap.size ≤ W1.heap.size by omega))
    have RG_13 := Lib.hid (RG_12.out.span hsp (show W6.heap.size ≤ W3.heap.size ∨ W4.heap.size ≤ W5.heap.size by omega))
    have HB_13 := Lib.hid (Span.below HB_12.out hsp (show w.heap.size ≤ W3.heap.size by omega) (show w.heap.size ≤ W12.heap.size by omega))
    clear K2_12 K6_12 K7_12 K8_12 RW_12 RY_12 RG_12 HB_12 hsp hrm
    have hdk : decide (1 + ((ts.length * 3 : Nat) : Int) + (zs2.length : Int) < 0) = false := by simp; omega
    obtain ⟨x20, x21, x22, _, _, _, x2lt⟩ := K2_13.out
    obtain ⟨x60, x61, x62, _, _, _, x6lt⟩ := K6_13.out
    obtain ⟨x70, x71, x72, _, _, _, x7lt⟩ := K7_13.out
    obtain ⟨x80, x81, x82, _, _, _, x8lt⟩ := K8_13.out
    go_wp2_with fail
    refine (eqM_same pr pc AG AW cG cW ps W13 (RG_13.out.sl_now.more (show W6.heap.size ≤ W13.heap.size by omega)) (RW_13.out.sl_now.more (show W2.heap.size ≤ W13.heap.size by omega)) (by omega)).mono ?_
    rintro e W14 ⟨rfl, hb⟩
    clear x20 x21 x22 x2lt x60 x61 x62 x6lt x70 x71 x72 x7lt x80 x81 x82 x8lt
    have s14 := hb.size
    have K2_14 := Lib.hid (K2_13.out.below hb (show w.heap.size < W13.heap.size by omega))
    have K6_14 := Lib.hid (K6_13.out.below hb (show b6 < W13.heap.size by omega))
    have K7_14 := Lib.hid (K7_13.out.below hb (show W4.heap.size < W13.heap.size by omega))
    have K8_14 := Lib.hid (K8_13.out.below hb (show W6.heap.size < W13.heap.size by omega))
    have RW_14 := Lib.hid (RW_13.out.below hb (show W2.heap.size ≤ W13.heap.size by omega))
    have RG_14 := Lib.hid (RG_13.out.below hb (show W6.heap.size ≤ W13.heap.size by omega))
    have HB_14 := Lib.hid (HB_13.out.trans (hb.mono (show w.heap.size ≤ W13.heap.size by omega)))
    clear K2_13 K6_13 K7_13 K8_13 RW_13 RG_13 HB_13 hb
    obtain ⟨x20, x21, x22, _, _, _, x2lt⟩ := K2_14.out
    obtain ⟨x60, x61, x62, _, _, _, x6lt⟩ := K6_14.out
    obtain ⟨x70, x71, x72, _, _, _, x7lt⟩ := K7_14.out
    obtain ⟨x80, x81, x82, _, _, _, x8lt⟩ := K8_14.out
    go_wp2_with fail
    refine (markM_any (W5.heap.size) (W6.heap.size) pr pc AG cG ps 1 W14 RG_14.out (show W6.heap.size ≤ W14.heap.size by omega) (by omega) (by omega) (by omega)).mono ?_
    rintro e W15 ⟨rfl, hrm, hsp⟩
    clear x20 x21 x22 x2lt x60 x61 x62 x6lt x70 x71 x72 x7lt x80 x81 x82 x8lt
    have s15 := hsp.size
    have K2_15 := Lib.hid (K2_14.out.span hsp (show w.heap.size < W5.heap.size ∨ W6.heap.size ≤ w.heap.size by omega))
    have K6_15 := Lib.hid (K6_14.out.span hsp (show b6 < W5.heap.size ∨ W6.heap.size ≤ b6 by omega))
    have K7_15 := Lib.hid (K7_14.out.span hsp (show W4.heap.size < W5.heap.size ∨ W6.heap.size ≤ W4.heap.size by omega))
    have K8_15 := Lib.hid (K8_14.out.span hsp (show W6.heap.size < W5.heap.size ∨ W6.heap.size ≤ W6.heap.size by omega))
    have RW_15 := Lib.hid (RW_14.out.span hsp (show W2.heap.size ≤ W5.heap.size ∨ W6.heap.size ≤ W1.heap.size by omega))
    have HB_15 := Lib.hid (Span.below HB_14.out hsp (show w.heap.size ≤ W5.heap.size by omega) (show w.heap.size ≤ W14.heap.size by omega))
    have MG_15 := Lib.hid hrm
    clear K2_14 K6_14 K7_14 K8_14 RW_14 RG_14 HB_14 hsp hrm
    have RM_15 := Lib.hid (show Row W15 (W5.heap.size) (W6.heap.size) (.slice AG (marks 1 ps.length).length cG) (marks 1 ps.length) by rw [marks_length]; exact MG_15.out)
    clear MG_15
    have hd15 : decide (1 + (ps.length : Int) < 0) = false := by simp; omega
    obtain ⟨x20, x21, x22, _, _, _, x2lt⟩ := K2_15.out
    obtain ⟨x60, x61, x62, _, _, _, x6lt⟩ := K6_15.out
    obtain ⟨x70, x71, x72, _, _, _, x7lt⟩ := K7_15.out
    obtain ⟨x80, x81, x82, _, _, _, x8lt⟩ := K8_15.out
    go_wp2_with fail
    refine (heldM_same (W6.heap.size) pr pc AG cG ps.length 1 W15 RM_15.out.sl_now (show W6.heap.size ≤ W15.heap.size by omega) (by omega) (by omega) (by omega)).mono ?_
    rintro e W16 ⟨rfl, hb⟩
    clear x20 x21 x22 x2lt x60 x61 x62 x6lt x70 x71 x72 x7lt x80 x81 x82 x8lt
    have s16 := hb.size
    have K2_16 := Lib.hid (K2_15.out.below hb (show w.heap.size < W15.heap.size by omega))
    have K6_16 := Lib.hid (K6_15.out.below hb (show b6 < W15.heap.size by omega))
    have K7_16 := Lib.hid (K7_15.out.below hb (show W4.heap.size < W15.heap.size by omega))
    have K8_16 := Lib.hid (K8_15.out.below hb (show W6.heap.size < W15.heap.size by omega))
    have RW_16 := Lib.hid (RW_15.out.below hb (show W2.heap.size ≤ W15.heap.size by omega))
    have RM_16 := Lib.hid (RM_15.out.below hb (show W6.heap.size ≤ W15.heap.size by omega))
    have HB_16 := Lib.hid (HB_15.out.trans (hb.mono (show w.heap.size ≤ W15.heap.size by omega)))
    clear K2_15 K6_15 K7_15 K8_15 RW_15 RM_15 HB_15 hb
    have hTA := Lib.hid fun wx (hx : Below W16.heap.size W16 wx) => toCellS_any Ac capc ts wx ((HS0.out.below (HB_16.out.trans (hx.mono (show w.heap.size ≤ W16.heap.size by omega))) (Nat.le_refl _)).more (Nat.le_trans (show w.heap.size ≤ W16.heap.size by omega) hx.size)) (by omega)
    have hTB := Lib.hid fun wx (hx : Below W16.heap.size W16 wx) => toM_any r2 c2 A2 cap2 _ w.heap.size zs2 wx (HS1.out.below (HB_16.out.trans (hx.mono (show w.heap.size ≤ W16.heap.size by omega))) (Nat.le_refl _)) (Nat.le_trans (show w.heap.size ≤ W16.heap.size by omega) hx.size) rfl (by omega)
    have HMK := Lib.hid fun w' (hx : Below W16.heap.size W16 w') => (show (w'.cell? ⟨w.heap.size, 0, none⟩ = some (.int .i64 r2) ∧ w'.cell? ⟨w.heap.size, 1, none⟩ = some (.int .i64 c2) ∧ w'.cell? ⟨w.heap.size, 2, none⟩ = some (.slice A2 zs2.length cap2)) from ⟨(K2_16.out.below hx (show _ < W16.heap.size by omega)).c0, (K2_16.out.below hx (show _ < W16.heap.size by omega)).c1, (K2_16.out.below hx (show _ < W16.heap.size by omega)).c2⟩)
    have hcur : Below W16.heap.size W16 W16.drew := Below.of_drew _
    have hcu0 : Below W16.heap.size W16 (W16.alloc (.cells #[.int .i64 0, .int .i64 0, .slice none 0 0] 28)).drew := ((Below.refl _ _).alloc (Nat.le_refl _) _).trans (Below.of_drew _)
    have eN0 := (Cell3.new W16 (.int .i64 0) (.int .i64 0) (.slice none 0 0) 28).grown ((drewT _).grown none) (by simp)
    obtain ⟨x20, x21, x22, _, _, _, x2lt⟩ := K2_16.out
    obtain ⟨x60, x61, x62, _, _, _, x6lt⟩ := K6_16.out
    obtain ⟨x70, x71, x72, _, _, _, x7lt⟩ := K7_16.out
    obtain ⟨x80, x81, x82, _, _, _, x8lt⟩ := K8_16.out
    go_upto_region 31 with fail
    go_cut [19, 20] (fun sx sb wx => ∃ (b6 : Nat) (AH : Option Addr) (cH : Nat), sx = .pointer (some ⟨b6, 0, none⟩) ∧ sb = .bool bb ∧ W16.heap.size ≤ b6 ∧ b6 < wx.heap.size ∧ Cell3 wx b6 (.int .i64 pr) (.int .i64 pc) (.slice AH ps.length cH) ∧ Row wx W16.heap.size wx.heap.size (.slice AH ps.length cH) ps ∧ Below W16.heap.size W16 wx)
    case first =>
      go_region_held3 (fun w' => (w'.cell? ⟨w.heap.size, 0, none⟩ = some (.int .i64 r2) ∧ w'.cell? ⟨w.heap.size, 1, none⟩ = some (.int .i64 c2) ∧ w'.cell? ⟨w.heap.size, 2, none⟩ = some (.slice A2 zs2.length cap2)))
        (first | exact HMK.out _ hcur | exact HMK.out _ hcu0 | exact HMK.out _ (hcur.alloc hcur.size _) | exact HMK.out _ (((hcur.setCell (p := ⟨_, 0, none⟩) hb6 _).setCell (p := ⟨_, 1, none⟩) hb6 _).setCell (p := ⟨_, 2, none⟩) hb6 _) | fail)
        (first
          | (go_simp; go_at_call 28; (with_reducible refine (hTA.out W16.drew hcur).mono ?_); rintro e Wn ⟨sva, rfl, hr, hb⟩; obtain ⟨Aa, ca, rfl, hqa1, hqa2, _⟩ := hr.form; have hcurn := hcur.trans (hb.mono hcur.size); (try have eN := eN.below hb eN.lt); (try have hsb := (hsb.below hb (Nat.le_refl _)).more hb.size); have hsa := hr.sl.2; have hcur := hcurn; clear hr hb hcurn; obtain ⟨Wz, hWz⟩ : ∃ W, W = Wn := ⟨_, rfl⟩; subst hWz)
          | (go_simp; go_at_call 28; (with_reducible refine (hTA.out (W16.alloc (.cells #[.int .i64 0, .int .i64 0, .slice none 0 0] 28)).drew hcu0).mono ?_); rintro e Wn ⟨sva, rfl, hr, hb⟩; obtain ⟨Aa, ca, rfl, hqa1, hqa2, _⟩ := hr.form; have hcurn := hcu0.trans (hb.mono hcu0.size); have eN := eN0.below hb eN0.lt; have hb6 := Nat.le_refl W16.heap.size; (try have hsb := (hsb.below hb (Nat.le_refl _)).more hb.size); have hsa := hr.sl.2; have hcur := hcurn; clear hr hb hcurn; obtain ⟨Wz, hWz⟩ : ∃ W, W = Wn := ⟨_, rfl⟩; subst hWz)
          | (go_simp; go_at_call 28; (with_reducible refine (hTA.out Wz hcur).mono ?_); rintro e Wn ⟨sva, rfl, hr, hb⟩; obtain ⟨Aa, ca, rfl, hqa1, hqa2, _⟩ := hr.form; have hcurn := hcur.trans (hb.mono hcur.size); (try have eN := eN.below hb eN.lt); (try have hsb := (hsb.below hb (Nat.le_refl _)).more hb.size); have hsa := hr.sl.2; have hcur := hcurn; clear hr hb hcurn; obtain ⟨Wz, hWz⟩ : ∃ W, W = Wn := ⟨_, rfl⟩; subst hWz)
          | (go_simp; go_at_call 28; (with_reducible refine (hTA.out (Wz.alloc (.cells #[.int .i64 0, .int .i64 0, .slice none 0 0] 28)) (hcur.alloc hcur.size _)).mono ?_); rintro e Wn ⟨sva, rfl, hr, hb⟩; obtain ⟨Aa, ca, rfl, hqa1, hqa2, _⟩ := hr.form; have hcurn := (hcur.alloc hcur.size (.cells #[.int .i64 0, .int .i64 0, .slice none 0 0] 28)).trans (hb.mono (hcur.alloc hcur.size (.cells #[.int .i64 0, .int .i64 0, .slice none 0 0] 28)).size); have eN := (Cell3.new Wz (.int .i64 0) (.int .i64 0) (.slice none 0 0) 28).below hb (by simp); have hb6 := hcur.size; (try have hsb := ((hsb.below (B' := Wz.heap.size) ((Below.refl _ Wz).alloc (Nat.le_refl _) (.cells #[.int .i64 0, .int .i64 0, .slice none 0 0] 28)) (Nat.le_refl _)).below hb (by simp)).more (Nat.le_trans (by simp) hb.size)); have hsa := hr.sl.2; have hcur := hcurn; clear hr hb hcurn; obtain ⟨Wz, hWz⟩ : ∃ W, W = Wn := ⟨_, rfl⟩; subst hWz)
          | (go_simp; go_at_call 13; (with_reducible refine (hTB.out W16.drew hcur).mono ?_); rintro e Wn ⟨sva, rfl, hr, hb⟩; obtain ⟨Ab, cb, rfl, hqb1, hqb2, _⟩ := hr.form; have hcurn := hcur.trans (hb.mono hcur.size); (try have eN := eN.below hb eN.lt); (try have hsa := (hsa.below hb (Nat.le_refl _)).more hb.size); have hsb := hr.sl_now; have hcur := hcurn; clear hr hb hcurn; obtain ⟨Wz, hWz⟩ : ∃ W, W = Wn := ⟨_, rfl⟩; subst hWz)
          | (go_simp; go_at_call 13; (with_reducible refine (hTB.out (W16.alloc (.cells #[.int .i64 0, .int .i64 0, .slice none 0 0] 28)).drew hcu0).mono ?_); rintro e Wn ⟨sva, rfl, hr, hb⟩; obtain ⟨Ab, cb, rfl, hqb1, hqb2, _⟩ := hr.form; have hcurn := hcu0.trans (hb.mono hcu0.size); have eN := eN0.below hb eN0.lt; have hb6 := Nat.le_refl W16.heap.size; (try have hsa := (hsa.below hb (Nat.le_refl _)).more hb.size); have hsb := hr.sl_now; have hcur := hcurn; clear hr hb hcurn; obtain ⟨Wz, hWz⟩ : ∃ W, W = Wn := ⟨_, rfl⟩; subst hWz)
          | (go_simp; go_at_call 13; (with_reducible refine (hTB.out Wz hcur).mono ?_); rintro e Wn ⟨sva, rfl, hr, hb⟩; obtain ⟨Ab, cb, rfl, hqb1, hqb2, _⟩ := hr.form; have hcurn := hcur.trans (hb.mono hcur.size); (try have eN := eN.below hb eN.lt); (try have hsa := (hsa.below hb (Nat.le_refl _)).more hb.size); have hsb := hr.sl_now; have hcur := hcurn; clear hr hb hcurn; obtain ⟨Wz, hWz⟩ : ∃ W, W = Wn := ⟨_, rfl⟩; subst hWz)
          | (go_simp; go_at_call 13; (with_reducible refine (hTB.out (Wz.alloc (.cells #[.int .i64 0, .int .i64 0, .slice none 0 0] 28)) (hcur.alloc hcur.size _)).mono ?_); rintro e Wn ⟨sva, rfl, hr, hb⟩; obtain ⟨Ab, cb, rfl, hqb1, hqb2, _⟩ := hr.form; have hcurn := (hcur.alloc hcur.size (.cells #[.int .i64 0, .int .i64 0, .slice none 0 0] 28)).trans (hb.mono (hcur.alloc hcur.size (.cells #[.int .i64 0, .int .i64 0, .slice none 0 0] 28)).size); have eN := (Cell3.new Wz (.int .i64 0) (.int .i64 0) (.slice none 0 0) 28).below hb (by simp); have hb6 := hcur.size; (try have hsa := ((hsa.below (B' := Wz.heap.size) ((Below.refl _ Wz).alloc (Nat.le_refl _) (.cells #[.int .i64 0, .int .i64 0, .slice none 0 0] 28)) (Nat.le_refl _)).below hb (by simp)).more (Nat.le_trans (by simp) hb.size)); have hsb := hr.sl_now; have hcur := hcurn; clear hr hb hcurn; obtain ⟨Wz, hWz⟩ : ∃ W, W = Wn := ⟨_, rfl⟩; subst hWz)
          | (go_simp; go_at_call 32; (with_reducible refine (implCT_any r c Aa ca Wz.heap.size ts r2 c2 Ab cb _ Wz.heap.size zs2 Wz hsa (Nat.le_refl _) (by omega) hsb (Nat.le_refl _) rfl (by omega) hqb1 hqb2).mono ?_); rintro e Wy ⟨svy, rfl, hry, hby⟩; rw [HP.out.1, HP.out.2.1, HP.out.2.2.2]; rw [HP.out.2.2.1] at hry; obtain ⟨AH, cH, rfl, _, _, _⟩ := hry.form; have hwz := hcur.size; have hcur := hcur.trans (hby.mono hcur.size); (try (have hlo := eN.lt; have eN := eN.below hby eN.lt; obtain ⟨n0, n1, n2, nf0, nf1, nf2, nlt⟩ := id eN)))
          | (go_simp; go_at_call 32; (with_reducible refine (implCT_any r c Aa ca Wz.heap.size ts r2 c2 Ab cb _ Wz.heap.size zs2 (Wz.alloc (.cells #[.int .i64 0, .int .i64 0, .slice none 0 0] 28)) (hsa.below ((Below.refl _ Wz).alloc (Nat.le_refl _) _) (Nat.le_refl _)) (by simp) (by omega) (hsb.below ((Below.refl _ Wz).alloc (Nat.le_refl _) _) (Nat.le_refl _)) (by simp) rfl (by omega) hqb1 hqb2).mono ?_); rintro e Wy ⟨svy, rfl, hry, hby⟩; rw [HP.out.1, HP.out.2.1, HP.out.2.2.2]; rw [HP.out.2.2.1] at hry; obtain ⟨AH, cH, rfl, _, _, _⟩ := hry.form; have eN := (Cell3.new Wz (.int .i64 0) (.int .i64 0) (.slice none 0 0) 28).below hby (by simp); have hb6 := hcur.size; have hlo := (show Wz.heap.size < (Wz.alloc (.cells #[.int .i64 0, .int .i64 0, .slice none 0 0] 28)).heap.size by simp); have hwz := Nat.le_trans hcur.size (Nat.le_of_lt hlo); have hcur := (hcur.alloc hcur.size (.cells #[.int .i64 0, .int .i64 0, .slice none 0 0] 28)).trans (hby.mono (hcur.alloc hcur.size (.cells #[.int .i64 0, .int .i64 0, .slice none 0 0] 28)).size); obtain ⟨n0, n1, n2, nf0, nf1, nf2, nlt⟩ := id eN)
          | fail)
      all_goals (
        go_wp2_with fail
        go_meet
        first
          | exact ⟨Wy.heap.size, _, _, rfl, rfl, hcur.size, by simp, Cell3.new Wy _ _ _ _, (hry.grown (World.grownBy_alloc Wy _ none) (fun g e => by cases e)).wider hwz (by simp), hcur.alloc hcur.size _⟩
          | exact ⟨_, _, _, rfl, rfl, hb6, by simpa using eN.lt, ((eN.set0 _).set1 _).set2 _, (((hry.grown (set_grown _ _ 0 _) (fun g e => by cases e; left; exact hlo)).grown (set_grown _ _ 1 _) (fun g e => by cases e; left; exact hlo)).grown (set_grown _ _ 2 _) (fun g e => by cases e; left; exact hlo)).wider hwz (by simp), ((hcur.setCell (p := ⟨_, 0, none⟩) hb6 _).setCell (p := ⟨_, 1, none⟩) hb6 _).setCell (p := ⟨_, 2, none⟩) hb6 _⟩)
    case rest =>
      obtain ⟨W17, rfl⟩ : ∃ W, W = wc := ⟨_, rfl⟩
      obtain ⟨b12, AH, cH, rfl, rfl, hbl12, hbl12', kn, rn, hb⟩ := hcut
      clear HMK hcur hcu0 eN0 hTA hTB
      clear x20 x21 x22 x2lt x60 x61 x62 x6lt x70 x71 x72 x7lt x80 x81 x82 x8lt
      have s17 := hb.size
      have K2_17 := Lib.hid (K2_16.out.below hb (show w.heap.size < W16.heap.size by omega))
      have K6_17 := Lib.hid (K6_16.out.below hb (show b6 < W16.heap.size by omega))
      have K7_17 := Lib.hid (K7_16.out.below hb (show W4.heap.size < W16.heap.size by omega))
      have K8_17 := Lib.hid (K8_16.out.below hb (show W6.heap.size < W16.heap.size by omega))
      have RW_17 := Lib.hid (RW_16.out.below hb (show W2.heap.size ≤ W16.heap.size by omega))
      have RM_17 := Lib.hid (RM_16.out.below hb (show W6.heap.size ≤ W16.heap.size by omega))
      have HB_17 := Lib.hid (HB_16.out.trans (hb.mono (show w.heap.size ≤ W16.heap.size by omega)))
      clear K2_16 K6_16 K7_16 K8_16 RW_16 RM_16 HB_16 hb
      have K12_17 := Lib.hid kn
      have RH_17 := Lib.hid rn
      clear kn rn
      obtain ⟨x20, x21, x22, _, _, _, x2lt⟩ := K2_17.out
      obtain ⟨x60, x61, x62, _, _, _, x6lt⟩ := K6_17.out
      obtain ⟨x70, x71, x72, _, _, _, x7lt⟩ := K7_17.out
      obtain ⟨x80, x81, x82, _, _, _, x8lt⟩ := K8_17.out
      obtain ⟨x120, x121, x122, _, _, _, x12lt⟩ := K12_17.out
      go_wp2_with fail
      refine (eqM_same pr pc AH AW cH cW ps W17 (RH_17.out.sl_now.more (show W17.heap.size ≤ W17.heap.size by omega)) (RW_17.out.sl_now.more (show W2.heap.size ≤ W17.heap.size by omega)) (by omega)).mono ?_
      rintro e W18 ⟨rfl, hb⟩
      clear x20 x21 x22 x2lt x60 x61 x62 x6lt x70 x71 x72 x7lt x80 x81 x82 x8lt x120 x121 x122 x12lt
      have s18 := hb.size
      have K2_18 := Lib.hid (K2_17.out.below hb (show w.heap.size < W17.heap.size by omega))
      have K6_18 := Lib.hid (K6_17.out.below hb (show b6 < W17.heap.size by omega))
      have K7_18 := Lib.hid (K7_17.out.below hb (show W4.heap.size < W17.heap.size by omega))
      have K8_18 := Lib.hid (K8_17.out.below hb (show W6.heap.size < W17.heap.size by omega))
      have K12_18 := Lib.hid (K12_17.out.below hb (show b12 < W17.heap.size by omega))
      have RW_18 := Lib.hid (RW_17.out.below hb (show W2.heap.size ≤ W17.heap.size by omega))
      have RM_18 := Lib.hid (RM_17.out.below hb (show W6.heap.size ≤ W17.heap.size by omega))
      have RH_18 := Lib.hid (RH_17.out.below hb (show W17.heap.size ≤ W17.heap.size by omega))
      have HB_18 := Lib.hid (HB_17.out.trans (hb.mono (show w.heap.size ≤ W17.heap.size by omega)))
      clear K2_17 K6_17 K7_17 K8_17 K12_17 RW_17 RM_17 RH_17 HB_17 hb
      obtain ⟨x20, x21, x22, _, _, _, x2lt⟩ := K2_18.out
      obtain ⟨x60, x61, x62, _, _, _, x6lt⟩ := K6_18.out
      obtain ⟨x70, x71, x72, _, _, _, x7lt⟩ := K7_18.out
      obtain ⟨x80, x81, x82, _, _, _, x8lt⟩ := K8_18.out
      obtain ⟨x120, x121, x122, _, _, _, x12lt⟩ := K12_18.out
      go_wp2_with fail
      refine (heldM_same (W6.heap.size) pr pc AG cG ps.length 1 W18 RM_18.out.sl_now (show W6.heap.size ≤ W18.heap.size by omega) (by omega) (by omega) (by omega)).mono ?_
      rintro e W19 ⟨rfl, hb⟩
      clear x20 x21 x22 x2lt x60 x61 x62 x6lt x70 x71 x72 x7lt x80 x81 x82 x8lt x120 x121 x122 x12lt
      have s19 := hb.size
      have K2_19 := Lib.hid (K2_18.out.below hb (show w.heap.size < W18.heap.size by omega))
      have K6_19 := Lib.hid (K6_18.out.below hb (show b6 < W18.heap.size by omega))
      have K7_19 := Lib.hid (K7_18.out.below hb (show W4.heap.size < W18.heap.size by omega))
      have K8_19 := Lib.hid (K8_18.out.below hb (show W6.heap.size < W18.heap.size by omega))
      have K12_19 := Lib.hid (K12_18.out.below hb (show b12 < W18.heap.size by omega))
      have RW_19 := Lib.hid (RW_18.out.below hb (show W2.heap.size ≤ W18.heap.size by omega))
      have RM_19 := Lib.hid (RM_18.out.below hb (show W6.heap.size ≤ W18.heap.size by omega))
      have RH_19 := Lib.hid (RH_18.out.below hb (show W17.heap.size ≤ W18.heap.size by omega))
      have HB_19 := Lib.hid (HB_18.out.trans (hb.mono (show w.heap.size ≤ W18.heap.size by omega)))
      clear K2_18 K6_18 K7_18 K8_18 K12_18 RW_18 RM_18 RH_18 HB_18 hb
      obtain ⟨x20, x21, x22, _, _, _, x2lt⟩ := K2_19.out
      obtain ⟨x60, x61, x62, _, _, _, x6lt⟩ := K6_19.out
      obtain ⟨x70, x71, x72, _, _, _, x7lt⟩ := K7_19.out
      obtain ⟨x80, x81, x82, _, _, _, x8lt⟩ := K8_19.out
      obtain ⟨x120, x121, x122, _, _, _, x12lt⟩ := K12_19.out
      go_wp2
      go_ret
      exact ⟨rfl, HB_19.out⟩
end Go.Proofs.Ytdebnbgjnmoleaa
