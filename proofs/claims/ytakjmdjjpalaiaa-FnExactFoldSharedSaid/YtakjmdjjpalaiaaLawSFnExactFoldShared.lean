/- The walk of the exact law FnExactFoldShared. (Printed by gen_LawS.py.) -/
import Derived.Test.YtakjmdjjpalaiaaFnsS4
import Derived.Test.YtakjmdjjpalaiaaCameS
import Derived.Test.YtakjmdjjpalaiaaDrw
import Derived.Deep.RegionHeld3
namespace Go.Proofs.Ytakjmdjjpalaiaa
open Go.RowKit
theorem Cell3.span {lo hi b : Nat} {w w' : World} {x y z : Value} (h : Cell3 w b x y z) (k : Span lo hi w w') (hd : b < lo ∨ hi ≤ b) : Cell3 w' b x y z := by
  have hb := k.block b h.lt hd
  exact ⟨(World.cell?_of_block (a := ⟨b, 0, none⟩) hb).trans h.c0, (World.cell?_of_block (a := ⟨b, 1, none⟩) hb).trans h.c1, (World.cell?_of_block (a := ⟨b, 2, none⟩) hb).trans h.c2, (World.frozen?_of_block (a := ⟨b, 0, none⟩) hb).trans h.f0, (World.frozen?_of_block (a := ⟨b, 1, none⟩) hb).trans h.f1, (World.frozen?_of_block (a := ⟨b, 2, none⟩) hb).trans h.f2, Nat.lt_of_lt_of_le h.lt k.size⟩
set_option maxRecDepth 20000 in
set_option maxHeartbeats 6400000 in
theorem law_FnExactFoldShared (w : World) (v0 : Value) (h0 : CameS w v0) (v1 : Value) (h1 : CameM w v1) :
    Calls Try.prog 11 #[v0, v1] w fun e w' => e = .returned (.bool true) ∧ Below w.heap.size w w' := by
  obtain ⟨r, c, A, n0, cap, zs, r2, c2, A2, n1, cap2, ks, rfl, hz, hk⟩ := h0
  obtain ⟨rfl, hnc, hcm, hs, _⟩ := hz
  obtain ⟨rfl, hnc2, hcm2, ht, _⟩ := hk
  obtain ⟨kr, kc, Ak, nk, capk, ys, rfl, hy, _, _⟩ := h1
  obtain ⟨rfl, hnck, hcmk, hsk, _⟩ := hy
  unfold maxLen at hcm hcm2 hcmk
  have HS := Lib.hid hs
  have HT := Lib.hid ht
  have HK := Lib.hid hsk
  clear hs ht hsk
  have K20 := (Cell6.new w (.int .i64 r) (.int .i64 c) (.slice A zs.length cap) (.int .i64 r2) (.int .i64 c2) (.slice A2 ks.length cap2) 40).alloc (.cells #[.int .i64 kr, .int .i64 kc, .slice Ak ys.length capk] 24)
  have K30 := Cell3.new (w.alloc (.cells #[.int .i64 r, .int .i64 c, .slice A zs.length cap, .int .i64 r2, .int .i64 c2, .slice A2 ks.length cap2] 40)) (.int .i64 kr) (.int .i64 kc) (.slice Ak ys.length capk) 24
  simp only [World.size_alloc] at K30
  obtain ⟨W0, hW⟩ : ∃ W, (w.alloc (.cells #[.int .i64 r, .int .i64 c, .slice A zs.length cap, .int .i64 r2, .int .i64 c2, .slice A2 ks.length cap2] 40)).alloc (.cells #[.int .i64 kr, .int .i64 kc, .slice Ak ys.length capk] 24) = W := ⟨_, rfl⟩
  have hb0 : Below w.heap.size w W0 := hW ▸ ((Below.refl _ _).alloc (Nat.le_refl _) _).alloc (by simp) _
  have hsW : W0.heap.size = w.heap.size + 2 := by rw [← hW]; simp
  rw [hW] at K20 K30
  have K2_0 := Lib.hid K20
  have K3_0 := Lib.hid K30
  clear K20 K30
  have HB_0 := Lib.hid hb0
  clear hb0
  have hsz := szS_any r c A cap zs.length r2 c2 A2 cap2 ks.length 1048576 W0 (by omega) (by omega) (by omega) (by omega)
  by_cases hn : (1048576 : Int) < zs.length ∨ 1048576 - (zs.length : Int) < (ks.length : Int)
  · have hsz' : Calls Try.prog 30 #[smV r c (.slice A zs.length cap) r2 c2 (.slice A2 ks.length cap2), .int .i64 1048576] W0 fun e w' => e = .returned (.int .i64 (-1)) ∧ Below W0.heap.size W0 w' := by
      by_cases h : (1048576 : Int) < zs.length
      · rw [if_pos h] at hsz
        exact hsz
      · rw [if_neg h, if_pos (by omega)] at hsz
        exact hsz
    clear hsz hn
    obtain ⟨x20, x21, x22, x23, x24, x25, _, _, _, _, _, _, x2lt⟩ := K2_0.out
    go_enter Try.func11, Try.ntmps11
    go_wp2_with fail
    refine hsz'.mono ?_
    rintro e w1 ⟨rfl, hb1⟩
    clear hsz'
    go_wp2
    go_ret
    exact ⟨rfl, HB_0.out.trans (hb1.mono (by omega))⟩
  rw [if_neg (by omega), if_neg (by omega)] at hsz
  have hd : decide (1048576 - (zs.length : Int) - (ks.length : Int) < 0) = false := by simp; omega
  have hl1 : zs.length ≤ 1048576 ∧ ks.length ≤ 1048576 ∧ 0 ≤ 1048576 - (zs.length : Int) - (ks.length : Int) := by omega
  clear hn
  go_enter Try.func11, Try.ntmps11
  obtain ⟨x20, x21, x22, x23, x24, x25, _, _, _, _, _, _, x2lt⟩ := K2_0.out
  obtain ⟨x30, x31, x32, _, _, _, x3lt⟩ := K3_0.out
  go_wp2_with fail
  refine hsz.mono ?_
  rintro e W1 ⟨rfl, hb⟩
  clear hsz
  clear x20 x21 x22 x23 x24 x25 x2lt x30 x31 x32 x3lt
  have s1 := hb.size
  have K2_1 := Lib.hid (K2_0.out.below hb (show w.heap.size < W0.heap.size by omega))
  have K3_1 := Lib.hid (K3_0.out.below hb (show w.heap.size + 1 < W0.heap.size by omega))
  have HB_1 := Lib.hid (HB_0.out.trans (hb.mono (show w.heap.size ≤ W0.heap.size by omega)))
  clear K2_0 K3_0 HB_0 hb
  have hsz := szM_any kr kc Ak ys.length capk (1048576 - (zs.length : Int) - (ks.length : Int)) W1 (by omega) (by omega) (by omega)
  by_cases hn : 1048576 - (zs.length : Int) - (ks.length : Int) < (ys.length : Int)
  · rw [if_pos hn] at hsz
    obtain ⟨x20, x21, x22, x23, x24, x25, _, _, _, _, _, _, x2lt⟩ := K2_1.out
    obtain ⟨x30, x31, x32, _, _, _, x3lt⟩ := K3_1.out
    go_wp2_with fail
    refine hsz.mono ?_
    rintro e w1 ⟨rfl, hb1⟩
    clear hsz
    go_wp2
    go_ret
    exact ⟨rfl, HB_1.out.trans (hb1.mono (by omega))⟩
  rw [if_neg hn] at hsz
  have hd2 : decide (1048576 - (zs.length : Int) - (ks.length : Int) - (ys.length : Int) < 0) = false := by simp; omega
  have hl2 : ys.length ≤ 1048576 := by omega
  clear hn
  obtain ⟨x20, x21, x22, x23, x24, x25, _, _, _, _, _, _, x2lt⟩ := K2_1.out
  obtain ⟨x30, x31, x32, _, _, _, x3lt⟩ := K3_1.out
  go_wp2_with fail
  refine hsz.mono ?_
  rintro e W2 ⟨rfl, hb⟩
  clear hsz
  clear x20 x21 x22 x23 x24 x25 x2lt x30 x31 x32 x3lt
  have s2 := hb.size
  have K2_2 := Lib.hid (K2_1.out.below hb (show w.heap.size < W1.heap.size by omega))
  have K3_2 := Lib.hid (K3_1.out.below hb (show w.heap.size + 1 < W1.heap.size by omega))
  have HB_2 := Lib.hid (HB_1.out.trans (hb.mono (show w.heap.size ≤ W1.heap.size by omega)))
  clear K2_1 K3_1 HB_1 hb
  have hpl := shfZ_len r c zs r2 c2 ks kr kc ys hl1.1 hl1.2.1 hl2
  obtain ⟨pr, hpr⟩ : ∃ x, shfR r c zs r2 c2 ks kr kc ys = x := ⟨_, rfl⟩
  obtain ⟨pc, hpc⟩ : ∃ x, shfC r c zs r2 c2 ks kr kc ys = x := ⟨_, rfl⟩
  obtain ⟨ps, hps⟩ : ∃ x, shfZ r c zs r2 c2 ks kr kc ys = x := ⟨_, rfl⟩
  obtain ⟨qs, hqs⟩ : ∃ x, shfK r c zs r2 c2 ks kr kc ys = x := ⟨_, rfl⟩
  rw [hps, hqs] at hpl
  have HP := Lib.hid (And.intro hpr (And.intro hpc (And.intro hps hqs)))
  clear hpr hpc hps hqs
  have hTA := Lib.hid fun wx (hx : Below W2.heap.size W2 wx) => toS_any r c A cap _ w.heap.size zs r2 c2 A2 cap2 _ w.heap.size ks wx (HS.out.below (HB_2.out.trans (hx.mono (show w.heap.size ≤ W2.heap.size by omega))) (Nat.le_refl _)) (Nat.le_trans (show w.heap.size ≤ W2.heap.size by omega) hx.size) rfl (by omega) (HT.out.below (HB_2.out.trans (hx.mono (show w.heap.size ≤ W2.heap.size by omega))) (Nat.le_refl _)) (Nat.le_trans (show w.heap.size ≤ W2.heap.size by omega) hx.size) rfl (by omega)
  have hTB := Lib.hid fun wx (hx : Below W2.heap.size W2 wx) => toM_any kr kc Ak capk _ w.heap.size ys wx (HK.out.below (HB_2.out.trans (hx.mono (show w.heap.size ≤ W2.heap.size by omega))) (Nat.le_refl _)) (Nat.le_trans (show w.heap.size ≤ W2.heap.size by omega) hx.size) rfl (by omega)
  have HMK := Lib.hid fun w' (hx : Below W2.heap.size W2 w') => (show ((w'.cell? ⟨w.heap.size, 0, none⟩ = some (.int .i64 r) ∧ w'.cell? ⟨w.heap.size, 1, none⟩ = some (.int .i64 c) ∧ w'.cell? ⟨w.heap.size, 2, none⟩ = some (.slice A zs.length cap) ∧ w'.cell? ⟨w.heap.size, 3, none⟩ = some (.int .i64 r2) ∧ w'.cell? ⟨w.heap.size, 4, none⟩ = some (.int .i64 c2) ∧ w'.cell? ⟨w.heap.size, 5, none⟩ = some (.slice A2 ks.length cap2)) ∧ w'.cell? ⟨w.heap.size + 1, 0, none⟩ = some (.int .i64 kr) ∧ w'.cell? ⟨w.heap.size + 1, 1, none⟩ = some (.int .i64 kc) ∧ w'.cell? ⟨w.heap.size + 1, 2, none⟩ = some (.slice Ak ys.length capk)) from (by have h := K2_2.out.below hx (show w.heap.size < W2.heap.size by omega); have h' := K3_2.out.below hx (show w.heap.size + 1 < W2.heap.size by omega); exact ⟨⟨h.c0, h.c1, h.c2, h.c3, h.c4, h.c5⟩, h'.c0, h'.c1, h'.c2⟩))
  have hcur : Below W2.heap.size W2 W2.drew := Below.of_drew _
  have hcu0 : Below W2.heap.size W2 (W2.alloc (.cells #[.int .i64 0, .int .i64 0, .slice none 0 0, .int .i64 0, .int .i64 0, .slice none 0 0] 43)).drew := ((Below.refl _ _).alloc (Nat.le_refl _) _).trans (Below.of_drew _)
  have eN0 := (Cell6.new W2 (.int .i64 0) (.int .i64 0) (.slice none 0 0) (.int .i64 0) (.int .i64 0) (.slice none 0 0) 43).grown ((drew1 _).grown none) (by simp)
  go_upto_region 8 with fail
  go_cut [6] (fun sx wx => ∃ (b6 : Nat) (AW : Option Addr) (cW : Nat) (BW : Option Addr) (dW : Nat), sx = .pointer (some ⟨b6, 0, none⟩) ∧ W2.heap.size ≤ b6 ∧ b6 < wx.heap.size ∧ Cell6 wx b6 (.int .i64 pr) (.int .i64 pc) (.slice AW ps.length cW) (.int .i64 pr) (.int .i64 pc) (.slice BW qs.length dW) ∧ RowS wx W2.heap.size wx.heap.size (.slice AW ps.length cW) (.slice BW qs.length dW) ps qs ∧ Below W2.heap.size W2 wx)
  case first =>
    go_region_held3 (fun w' => ((w'.cell? ⟨w.heap.size, 0, none⟩ = some (.int .i64 r) ∧ w'.cell? ⟨w.heap.size, 1, none⟩ = some (.int .i64 c) ∧ w'.cell? ⟨w.heap.size, 2, none⟩ = some (.slice A zs.length cap) ∧ w'.cell? ⟨w.heap.size, 3, none⟩ = some (.int .i64 r2) ∧ w'.cell? ⟨w.heap.size, 4, none⟩ = some (.int .i64 c2) ∧ w'.cell? ⟨w.heap.size, 5, none⟩ = some (.slice A2 ks.length cap2)) ∧ w'.cell? ⟨w.heap.size + 1, 0, none⟩ = some (.int .i64 kr) ∧ w'.cell? ⟨w.heap.size + 1, 1, none⟩ = some (.int .i64 kc) ∧ w'.cell? ⟨w.heap.size + 1, 2, none⟩ = some (.slice Ak ys.length capk)))
      (first | with_reducible exact HMK.out _ hcur | with_reducible exact HMK.out _ hcu0 | with_reducible exact HMK.out _ (hcur.alloc hcur.size _) | with_reducible exact HMK.out _ ((((((hcur.setCell (p := ⟨_, 0, none⟩) hb6 _).setCell (p := ⟨_, 1, none⟩) hb6 _).setCell (p := ⟨_, 2, none⟩) hb6 _).setCell (p := ⟨_, 3, none⟩) hb6 _).setCell (p := ⟨_, 4, none⟩) hb6 _).setCell (p := ⟨_, 5, none⟩) hb6 _) | fail)
      (first
        | (go_simp; go_at_call 32; (with_reducible refine (hTA.out W2.drew hcur).mono ?_); rintro e Wn ⟨sva, tva, rfl, hr, hb⟩; obtain ⟨Aa, ca, Ba, da, rfl, rfl, hqa, hqc⟩ := hr.form; have hcurn := hcur.trans (hb.mono hcur.size); (try have eN := eN.below hb eN.lt); (try have hsb := (hsb.below hb (Nat.le_refl _)).more hb.size); have hsa := hr.sl1; have hsc := hr.sl2; have hcur := hcurn; clear hr hb hcurn; obtain ⟨Wz, hWz⟩ : ∃ W, W = Wn := ⟨_, rfl⟩; subst hWz)
        | (go_simp; go_at_call 32; (with_reducible refine (hTA.out (W2.alloc (.cells #[.int .i64 0, .int .i64 0, .slice none 0 0, .int .i64 0, .int .i64 0, .slice none 0 0] 43)).drew hcu0).mono ?_); rintro e Wn ⟨sva, tva, rfl, hr, hb⟩; obtain ⟨Aa, ca, Ba, da, rfl, rfl, hqa, hqc⟩ := hr.form; have hcurn := hcu0.trans (hb.mono hcu0.size); have eN := eN0.below hb eN0.lt; have hb6 := Nat.le_refl W2.heap.size; (try have hsb := (hsb.below hb (Nat.le_refl _)).more hb.size); have hsa := hr.sl1; have hsc := hr.sl2; have hcur := hcurn; clear hr hb hcurn; obtain ⟨Wz, hWz⟩ : ∃ W, W = Wn := ⟨_, rfl⟩; subst hWz)
        | (go_simp; go_at_call 32; (with_reducible refine (hTA.out Wz hcur).mono ?_); rintro e Wn ⟨sva, tva, rfl, hr, hb⟩; obtain ⟨Aa, ca, Ba, da, rfl, rfl, hqa, hqc⟩ := hr.form; have hcurn := hcur.trans (hb.mono hcur.size); (try have eN := eN.below hb eN.lt); (try have hsb := (hsb.below hb (Nat.le_refl _)).more hb.size); have hsa := hr.sl1; have hsc := hr.sl2; have hcur := hcurn; clear hr hb hcurn; obtain ⟨Wz, hWz⟩ : ∃ W, W = Wn := ⟨_, rfl⟩; subst hWz)
        | (go_simp; go_at_call 32; (with_reducible refine (hTA.out (Wz.alloc (.cells #[.int .i64 0, .int .i64 0, .slice none 0 0, .int .i64 0, .int .i64 0, .slice none 0 0] 43)) (hcur.alloc hcur.size _)).mono ?_); rintro e Wn ⟨sva, tva, rfl, hr, hb⟩; obtain ⟨Aa, ca, Ba, da, rfl, rfl, hqa, hqc⟩ := hr.form; have hcurn := (hcur.alloc hcur.size (.cells #[.int .i64 0, .int .i64 0, .slice none 0 0, .int .i64 0, .int .i64 0, .slice none 0 0] 43)).trans (hb.mono (hcur.alloc hcur.size (.cells #[.int .i64 0, .int .i64 0, .slice none 0 0, .int .i64 0, .int .i64 0, .slice none 0 0] 43)).size); have eN := (Cell6.new Wz (.int .i64 0) (.int .i64 0) (.slice none 0 0) (.int .i64 0) (.int .i64 0) (.slice none 0 0) 43).below hb (by simp); have hb6 := hcur.size; (try have hsb := ((hsb.below (B' := Wz.heap.size) ((Below.refl _ Wz).alloc (Nat.le_refl _) (.cells #[.int .i64 0, .int .i64 0, .slice none 0 0, .int .i64 0, .int .i64 0, .slice none 0 0] 43)) (Nat.le_refl _)).below hb (by simp)).more (Nat.le_trans (by simp) hb.size)); have hsa := hr.sl1; have hsc := hr.sl2; have hcur := hcurn; clear hr hb hcurn; obtain ⟨Wz, hWz⟩ : ∃ W, W = Wn := ⟨_, rfl⟩; subst hWz)
        | (go_simp; go_at_call 17; (with_reducible refine (hTB.out W2.drew hcur).mono ?_); rintro e Wn ⟨svb, rfl, hr, hb⟩; obtain ⟨Ab, cb, rfl, hqb1, hqb2, _⟩ := hr.form; have hcurn := hcur.trans (hb.mono hcur.size); (try have eN := eN.below hb eN.lt); (try have hsa := (hsa.below hb (Nat.le_refl _)).more hb.size); (try have hsc := (hsc.below hb (Nat.le_refl _)).more hb.size); have hsb := hr.sl_now; have hcur := hcurn; clear hr hb hcurn; obtain ⟨Wz, hWz⟩ : ∃ W, W = Wn := ⟨_, rfl⟩; subst hWz)
        | (go_simp; go_at_call 17; (with_reducible refine (hTB.out (W2.alloc (.cells #[.int .i64 0, .int .i64 0, .slice none 0 0, .int .i64 0, .int .i64 0, .slice none 0 0] 43)).drew hcu0).mono ?_); rintro e Wn ⟨svb, rfl, hr, hb⟩; obtain ⟨Ab, cb, rfl, hqb1, hqb2, _⟩ := hr.form; have hcurn := hcu0.trans (hb.mono hcu0.size); have eN := eN0.below hb eN0.lt; have hb6 := Nat.le_refl W2.heap.size; (try have hsa := (hsa.below hb (Nat.le_refl _)).more hb.size); (try have hsc := (hsc.below hb (Nat.le_refl _)).more hb.size); have hsb := hr.sl_now; have hcur := hcurn; clear hr hb hcurn; obtain ⟨Wz, hWz⟩ : ∃ W, W = Wn := ⟨_, rfl⟩; subst hWz)
        | (go_simp; go_at_call 17; (with_reducible refine (hTB.out Wz hcur).mono ?_); rintro e Wn ⟨svb, rfl, hr, hb⟩; obtain ⟨Ab, cb, rfl, hqb1, hqb2, _⟩ := hr.form; have hcurn := hcur.trans (hb.mono hcur.size); (try have eN := eN.below hb eN.lt); (try have hsa := (hsa.below hb (Nat.le_refl _)).more hb.size); (try have hsc := (hsc.below hb (Nat.le_refl _)).more hb.size); have hsb := hr.sl_now; have hcur := hcurn; clear hr hb hcurn; obtain ⟨Wz, hWz⟩ : ∃ W, W = Wn := ⟨_, rfl⟩; subst hWz)
        | (go_simp; go_at_call 17; (with_reducible refine (hTB.out (Wz.alloc (.cells #[.int .i64 0, .int .i64 0, .slice none 0 0, .int .i64 0, .int .i64 0, .slice none 0 0] 43)) (hcur.alloc hcur.size _)).mono ?_); rintro e Wn ⟨svb, rfl, hr, hb⟩; obtain ⟨Ab, cb, rfl, hqb1, hqb2, _⟩ := hr.form; have hcurn := (hcur.alloc hcur.size (.cells #[.int .i64 0, .int .i64 0, .slice none 0 0, .int .i64 0, .int .i64 0, .slice none 0 0] 43)).trans (hb.mono (hcur.alloc hcur.size (.cells #[.int .i64 0, .int .i64 0, .slice none 0 0, .int .i64 0, .int .i64 0, .slice none 0 0] 43)).size); have eN := (Cell6.new Wz (.int .i64 0) (.int .i64 0) (.slice none 0 0) (.int .i64 0) (.int .i64 0) (.slice none 0 0) 43).below hb (by simp); have hb6 := hcur.size; (try have hsa := ((hsa.below (B' := Wz.heap.size) ((Below.refl _ Wz).alloc (Nat.le_refl _) (.cells #[.int .i64 0, .int .i64 0, .slice none 0 0, .int .i64 0, .int .i64 0, .slice none 0 0] 43)) (Nat.le_refl _)).below hb (by simp)).more (Nat.le_trans (by simp) hb.size)); (try have hsc := ((hsc.below (B' := Wz.heap.size) ((Below.refl _ Wz).alloc (Nat.le_refl _) (.cells #[.int .i64 0, .int .i64 0, .slice none 0 0, .int .i64 0, .int .i64 0, .slice none 0 0] 43)) (Nat.le_refl _)).below hb (by simp)).more (Nat.le_trans (by simp) hb.size)); have hsb := hr.sl_now; have hcur := hcurn; clear hr hb hcurn; obtain ⟨Wz, hWz⟩ : ∃ W, W = Wn := ⟨_, rfl⟩; subst hWz)
        | (go_simp; go_at_call 46; (with_reducible refine ((specSF_any r c Aa ca _ Wz.heap.size zs r2 c2 Ba da _ Wz.heap.size ks kr kc Ab cb _ Wz.heap.size ys Wz hsa (Nat.le_refl _) rfl (by omega) hsc (Nat.le_refl _) rfl (by omega) hsb (Nat.le_refl _) rfl (by omega))).mono ?_); rintro e Wy ⟨svy, tvy, rfl, hry, hby⟩; rw [HP.out.1, HP.out.2.1]; rw [HP.out.2.2.1, HP.out.2.2.2] at hry; obtain ⟨AW, cW, BW, dW, rfl, rfl, _, _⟩ := hry.form; have hwz := hcur.size; have hcur := hcur.trans (hby.mono hcur.size); (try (have hlo := eN.lt; have eN := eN.below hby eN.lt; obtain ⟨n0, n1, n2, n3, n4, n5, nf0, nf1, nf2, nf3, nf4, nf5, nlt⟩ := id eN)))
        | (go_simp; go_at_call 46; (with_reducible refine ((specSF_any r c Aa ca _ Wz.heap.size zs r2 c2 Ba da _ Wz.heap.size ks kr kc Ab cb _ Wz.heap.size ys (Wz.alloc (.cells #[.int .i64 0, .int .i64 0, .slice none 0 0, .int .i64 0, .int .i64 0, .slice none 0 0] 43)) (hsa.below ((Below.refl _ Wz).alloc (Nat.le_refl _) _) (Nat.le_refl _)) (by simp) rfl (by omega) (hsc.below ((Below.refl _ Wz).alloc (Nat.le_refl _) _) (Nat.le_refl _)) (by simp) rfl (by omega) (hsb.below ((Below.refl _ Wz).alloc (Nat.le_refl _) _) (Nat.le_refl _)) (by simp) rfl (by omega))).mono ?_); rintro e Wy ⟨svy, tvy, rfl, hry, hby⟩; rw [HP.out.1, HP.out.2.1]; rw [HP.out.2.2.1, HP.out.2.2.2] at hry; obtain ⟨AW, cW, BW, dW, rfl, rfl, _, _⟩ := hry.form; have eN := (Cell6.new Wz (.int .i64 0) (.int .i64 0) (.slice none 0 0) (.int .i64 0) (.int .i64 0) (.slice none 0 0) 43).below hby (by simp); have hb6 := hcur.size; have hlo := (show Wz.heap.size < (Wz.alloc (.cells #[.int .i64 0, .int .i64 0, .slice none 0 0, .int .i64 0, .int .i64 0, .slice none 0 0] 43)).heap.size by simp); have hwz := Nat.le_trans hcur.size (Nat.le_of_lt hlo); have hcur := (hcur.alloc hcur.size (.cells #[.int .i64 0, .int .i64 0, .slice none 0 0, .int .i64 0, .int .i64 0, .slice none 0 0] 43)).trans (hby.mono (hcur.alloc hcur.size (.cells #[.int .i64 0, .int .i64 0, .slice none 0 0, .int .i64 0, .int .i64 0, .slice none 0 0] 43)).size); obtain ⟨n0, n1, n2, n3, n4, n5, nf0, nf1, nf2, nf3, nf4, nf5, nlt⟩ := id eN)
        | fail)
    all_goals (
      go_wp2_with fail
      go_meet
      first
        | exact ⟨_, _, _, _, _, rfl, hb6, by simpa using eN.lt, ((((((eN.set0 _).set1 _).set2 _).set3 _).set4 _).set5 _), ((((((hry.grown (set_grown _ _ 0 _) (fun g e => by cases e; left; exact hlo)).grown (set_grown _ _ 1 _) (fun g e => by cases e; left; exact hlo)).grown (set_grown _ _ 2 _) (fun g e => by cases e; left; exact hlo)).grown (set_grown _ _ 3 _) (fun g e => by cases e; left; exact hlo)).grown (set_grown _ _ 4 _) (fun g e => by cases e; left; exact hlo)).grown (set_grown _ _ 5 _) (fun g e => by cases e; left; exact hlo)).wider hwz (by simp), ((((((hcur.setCell (p := ⟨_, 0, none⟩) hb6 _).setCell (p := ⟨_, 1, none⟩) hb6 _).setCell (p := ⟨_, 2, none⟩) hb6 _).setCell (p := ⟨_, 3, none⟩) hb6 _).setCell (p := ⟨_, 4, none⟩) hb6 _).setCell (p := ⟨_, 5, none⟩) hb6 _)⟩
        | exact ⟨Wy.heap.size, _, _, _, _, rfl, hcur.size, by simp, Cell6.new Wy _ _ _ _ _ _ _, (hry.grown (World.grownBy_alloc Wy _ none) (fun g e => by cases e)).wider hwz (by simp), hcur.alloc hcur.size _⟩)
  case rest =>
    obtain ⟨W3, rfl⟩ : ∃ W, W = wc := ⟨_, rfl⟩
    obtain ⟨b6, AW, cW, BW, dW, rfl, hbl6, hbl6', kn, rn, hb⟩ := hcut
    clear HMK hcur hcu0 eN0 hTA hTB
    have s3 := hb.size
    have K2_3 := Lib.hid (K2_2.out.below hb (show w.heap.size < W2.heap.size by omega))
    have K3_3 := Lib.hid (K3_2.out.below hb (show w.heap.size + 1 < W2.heap.size by omega))
    have HB_3 := Lib.hid (HB_2.out.trans (hb.mono (show w.heap.size ≤ W2.heap.size by omega)))
    clear K2_2 K3_2 HB_2 hb
    have K6_3 := Lib.hid kn
    have RW_3 := Lib.hid rn
    clear kn rn
    obtain ⟨x20, x21, x22, x23, x24, x25, _, _, _, _, _, _, x2lt⟩ := K2_3.out
    obtain ⟨x30, x31, x32, _, _, _, x3lt⟩ := K3_3.out
    obtain ⟨x60, x61, x62, x63, x64, x65, _, _, _, _, _, _, x6lt⟩ := K6_3.out
    go_wp2_with fail
    refine (toS_any r c A cap _ w.heap.size zs r2 c2 A2 cap2 _ w.heap.size ks W3 (HS.out.below HB_3.out (Nat.le_refl _)) (show w.heap.size ≤ W3.heap.size by omega) rfl (by omega) (HT.out.below HB_3.out (Nat.le_refl _)) (show w.heap.size ≤ W3.heap.size by omega) rfl (by omega)).mono ?_
    rintro e W4 ⟨sv4, tv4, rfl, hr, hb⟩
    obtain ⟨AX, cX, BX, dX, rfl, rfl, hcp1, hcp2⟩ := hr.form
    have HCPX := Lib.hid (And.intro hcp1 hcp2)
    clear hcp1 hcp2
    clear x20 x21 x22 x23 x24 x25 x2lt x30 x31 x32 x3lt x60 x61 x62 x63 x64 x65 x6lt
    have s4 := hb.size
    have K2_4 := Lib.hid (K2_3.out.below hb (show w.heap.size < W3.heap.size by omega))
    have K3_4 := Lib.hid (K3_3.out.below hb (show w.heap.size + 1 < W3.heap.size by omega))
    have K6_4 := Lib.hid (K6_3.out.below hb (show b6 < W3.heap.size by omega))
    have RW_4 := Lib.hid (RW_3.out.below hb (show W3.heap.size ≤ W3.heap.size by omega))
    have HB_4 := Lib.hid (HB_3.out.trans (hb.mono (show w.heap.size ≤ W3.heap.size by omega)))
    clear K2_3 K3_3 K6_3 RW_3 HB_3 hb
    have RX_4 := Lib.hid hr
    clear hr
    have kn := Cell6.new W4 (.int .i64 r) (.int .i64 c) (.slice AX zs.length cX) (.int .i64 r2) (.int .i64 c2) (.slice BX ks.length dX) 43
    obtain ⟨W5, hW5⟩ : ∃ W, W4.alloc (.cells #[.int .i64 r, .int .i64 c, .slice AX zs.length cX, .int .i64 r2, .int .i64 c2, .slice BX ks.length dX] 43) = W := ⟨_, rfl⟩
    rw [hW5] at kn
    have z5 : W5.heap.size = W4.heap.size + 1 := by rw [← hW5]; simp
    have hal : Below W4.heap.size W4 W5 := hW5 ▸ (Below.refl _ _).alloc (Nat.le_refl _) _
    have s5 := hal.size
    have K2_5 := Lib.hid (K2_4.out.below hal (show w.heap.size < W4.heap.size by omega))
    have K3_5 := Lib.hid (K3_4.out.below hal (show w.heap.size + 1 < W4.heap.size by omega))
    have K6_5 := Lib.hid (K6_4.out.below hal (show b6 < W4.heap.size by omega))
    have RW_5 := Lib.hid (RW_4.out.below hal (show W3.heap.size ≤ W4.heap.size by omega))
    have RX_5 := Lib.hid (RX_4.out.below hal (show W4.heap.size ≤ W4.heap.size by omega))
    have HB_5 := Lib.hid (HB_4.out.trans (hal.mono (show w.heap.size ≤ W4.heap.size by omega)))
    clear K2_4 K3_4 K6_4 RW_4 RX_4 HB_4 hal
    have K7_5 := Lib.hid kn
    clear kn
    obtain ⟨x20, x21, x22, x23, x24, x25, _, _, _, _, _, _, x2lt⟩ := K2_5.out
    obtain ⟨x30, x31, x32, _, _, _, x3lt⟩ := K3_5.out
    obtain ⟨x60, x61, x62, x63, x64, x65, _, _, _, _, _, _, x6lt⟩ := K6_5.out
    obtain ⟨x70, x71, x72, x73, x74, x75, _, _, _, _, _, _, x7lt⟩ := K7_5.out
    go_wp2_with fail
    refine (toM_any kr kc Ak capk _ w.heap.size ys W5 (HK.out.below HB_5.out (Nat.le_refl _)) (show w.heap.size ≤ W5.heap.size by omega) rfl (by omega)).mono ?_
    rintro e W6 ⟨sv6, rfl, hr, hb⟩
    obtain ⟨AY, cY, rfl, hcp1, hcp2, _⟩ := hr.form
    have HCPY := Lib.hid (And.intro hcp1 hcp2)
    clear hcp1 hcp2
    clear x20 x21 x22 x23 x24 x25 x2lt x30 x31 x32 x3lt x60 x61 x62 x63 x64 x65 x6lt x70 x71 x72 x73 x74 x75 x7lt
    have s6 := hb.size
    have K2_6 := Lib.hid (K2_5.out.below hb (show w.heap.size < W5.heap.size by omega))
    have K3_6 := Lib.hid (K3_5.out.below hb (show w.heap.size + 1 < W5.heap.size by omega))
    have K6_6 := Lib.hid (K6_5.out.below hb (show b6 < W5.heap.size by omega))
    have K7_6 := Lib.hid (K7_5.out.below hb (show W4.heap.size < W5.heap.size by omega))
    have RW_6 := Lib.hid (RW_5.out.below hb (show W3.heap.size ≤ W5.heap.size by omega))
    have RX_6 := Lib.hid (RX_5.out.below hb (show W4.heap.size ≤ W5.heap.size by omega))
    have HB_6 := Lib.hid (HB_5.out.trans (hb.mono (show w.heap.size ≤ W5.heap.size by omega)))
    clear K2_5 K3_5 K6_5 K7_5 RW_5 RX_5 HB_5 hb
    have RY_6 := Lib.hid hr
    clear hr
    have kn := Cell3.new W6 (.int .i64 kr) (.int .i64 kc) (.slice AY ys.length cY) 26
    obtain ⟨W7, hW7⟩ : ∃ W, W6.alloc (.cells #[.int .i64 kr, .int .i64 kc, .slice AY ys.length cY] 26) = W := ⟨_, rfl⟩
    rw [hW7] at kn
    have z7 : W7.heap.size = W6.heap.size + 1 := by rw [← hW7]; simp
    have hal : Below W6.heap.size W6 W7 := hW7 ▸ (Below.refl _ _).alloc (Nat.le_refl _) _
    have s7 := hal.size
    have K2_7 := Lib.hid (K2_6.out.below hal (show w.heap.size < W6.heap.size by omega))
    have K3_7 := Lib.hid (K3_6.out.below hal (show w.heap.size + 1 < W6.heap.size by omega))
    have K6_7 := Lib.hid (K6_6.out.below hal (show b6 < W6.heap.size by omega))
    have K7_7 := Lib.hid (K7_6.out.below hal (show W4.heap.size < W6.heap.size by omega))
    have RW_7 := Lib.hid (RW_6.out.below hal (show W3.heap.size ≤ W6.heap.size by omega))
    have RX_7 := Lib.hid (RX_6.out.below hal (show W4.heap.size ≤ W6.heap.size by omega))
    have RY_7 := Lib.hid (RY_6.out.below hal (show W6.heap.size ≤ W6.heap.size by omega))
    have HB_7 := Lib.hid (HB_6.out.trans (hal.mono (show w.heap.size ≤ W6.heap.size by omega)))
    clear K2_6 K3_6 K6_6 K7_6 RW_6 RX_6 RY_6 HB_6 hal
    have K8_7 := Lib.hid kn
    clear kn
    obtain ⟨x20, x21, x22, x23, x24, x25, _, _, _, _, _, _, x2lt⟩ := K2_7.out
    obtain ⟨x30, x31, x32, _, _, _, x3lt⟩ := K3_7.out
    obtain ⟨x60, x61, x62, x63, x64, x65, _, _, _, _, _, _, x6lt⟩ := K6_7.out
    obtain ⟨x70, x71, x72, x73, x74, x75, _, _, _, _, _, _, x7lt⟩ := K7_7.out
    obtain ⟨x80, x81, x82, _, _, _, x8lt⟩ := K8_7.out
    go_wp2_with fail
    refine (implSF_any r c AX cX _ W7.heap.size zs r2 c2 BX dX _ W7.heap.size ks kr kc AY cY _ W7.heap.size ys W7 (RX_7.out.sl1.more (show W4.heap.size ≤ W7.heap.size by omega)) (Nat.le_refl _) rfl (by omega) (RX_7.out.sl2.more (show W4.heap.size ≤ W7.heap.size by omega)) (Nat.le_refl _) rfl (by omega) (RY_7.out.sl_now.more (show W6.heap.size ≤ W7.heap.size by omega)) (Nat.le_refl _) rfl (by omega) HCPY.out.1 HCPY.out.2 HCPX.out.1.1 HCPX.out.1.2 HCPX.out.2.1 HCPX.out.2.2).mono ?_
    rintro e W8 ⟨sv8, tv8, rfl, hr, hb⟩
    rw [HP.out.1, HP.out.2.1]
    rw [HP.out.2.2.1, HP.out.2.2.2] at hr
    obtain ⟨AG, cG, BG, dG, rfl, rfl, hcp1, hcp2⟩ := hr.form
    have HCPG := Lib.hid (And.intro hcp1 hcp2)
    clear hcp1 hcp2
    clear x20 x21 x22 x23 x24 x25 x2lt x30 x31 x32 x3lt x60 x61 x62 x63 x64 x65 x6lt x70 x71 x72 x73 x74 x75 x7lt x80 x81 x82 x8lt
    have s8 := hb.size
    have K2_8 := Lib.hid (K2_7.out.below hb (show w.heap.size < W7.heap.size by omega))
    have K3_8 := Lib.hid (K3_7.out.below hb (show w.heap.size + 1 < W7.heap.size by omega))
    have K6_8 := Lib.hid (K6_7.out.below hb (show b6 < W7.heap.size by omega))
    have K7_8 := Lib.hid (K7_7.out.below hb (show W4.heap.size < W7.heap.size by omega))
    have K8_8 := Lib.hid (K8_7.out.below hb (show W6.heap.size < W7.heap.size by omega))
    have RW_8 := Lib.hid (RW_7.out.below hb (show W3.heap.size ≤ W7.heap.size by omega))
    have RX_8 := Lib.hid (RX_7.out.below hb (show W4.heap.size ≤ W7.heap.size by omega))
    have RY_8 := Lib.hid (RY_7.out.below hb (show W6.heap.size ≤ W7.heap.size by omega))
    have HB_8 := Lib.hid (HB_7.out.trans (hb.mono (show w.heap.size ≤ W7.heap.size by omega)))
    clear K2_7 K3_7 K6_7 K7_7 K8_7 RW_7 RX_7 RY_7 HB_7 hb
    have RG_8 := Lib.hid hr
    clear hr
    have kn := Cell6.new W8 (.int .i64 pr) (.int .i64 pc) (.slice AG ps.length cG) (.int .i64 pr) (.int .i64 pc) (.slice BG qs.length dG) 43
    obtain ⟨W9, hW9⟩ : ∃ W, W8.alloc (.cells #[.int .i64 pr, .int .i64 pc, .slice AG ps.length cG, .int .i64 pr, .int .i64 pc, .slice BG qs.length dG] 43) = W := ⟨_, rfl⟩
    rw [hW9] at kn
    have z9 : W9.heap.size = W8.heap.size + 1 := by rw [← hW9]; simp
    have hal : Below W8.heap.size W8 W9 := hW9 ▸ (Below.refl _ _).alloc (Nat.le_refl _) _
    have s9 := hal.size
    have K2_9 := Lib.hid (K2_8.out.below hal (show w.heap.size < W8.heap.size by omega))
    have K3_9 := Lib.hid (K3_8.out.below hal (show w.heap.size + 1 < W8.heap.size by omega))
    have K6_9 := Lib.hid (K6_8.out.below hal (show b6 < W8.heap.size by omega))
    have K7_9 := Lib.hid (K7_8.out.below hal (show W4.heap.size < W8.heap.size by omega))
    have K8_9 := Lib.hid (K8_8.out.below hal (show W6.heap.size < W8.heap.size by omega))
    have RW_9 := Lib.hid (RW_8.out.below hal (show W3.heap.size ≤ W8.heap.size by omega))
    have RX_9 := Lib.hid (RX_8.out.below hal (show W4.heap.size ≤ W8.heap.size by omega))
    have RY_9 := Lib.hid (RY_8.out.below hal (show W6.heap.size ≤ W8.heap.size by omega))
    have RG_9 := Lib.hid (RG_8.out.below hal (show W8.heap.size ≤ W8.heap.size by omega))
    have HB_9 := Lib.hid (HB_8.out.trans (hal.mono (show w.heap.size ≤ W8.heap.size by omega)))
    clear K2_8 K3_8 K6_8 K7_8 K8_8 RW_8 RX_8 RY_8 RG_8 HB_8 hal
    have K9_9 := Lib.hid kn
    clear kn
    obtain ⟨x20, x21, x22, x23, x24, x25, _, _, _, _, _, _, x2lt⟩ := K2_9.out
    obtain ⟨x30, x31, x32, _, _, _, x3lt⟩ := K3_9.out
    obtain ⟨x60, x61, x62, x63, x64, x65, _, _, _, _, _, _, x6lt⟩ := K6_9.out
    obtain ⟨x70, x71, x72, x73, x74, x75, _, _, _, _, _, _, x7lt⟩ := K7_9.out
    obtain ⟨x80, x81, x82, _, _, _, x8lt⟩ := K8_9.out
    obtain ⟨x90, x91, x92, x93, x94, x95, _, _, _, _, _, _, x9lt⟩ := K9_9.out
    go_wp2_with fail
    refine (eqS_same pr pc AG AW cG cW ps pr pc BG BW dG dW qs W9 (RG_9.out.sl1.more (show W8.heap.size ≤ W9.heap.size by omega)) (RW_9.out.sl1.more (show W3.heap.size ≤ W9.heap.size by omega)) (RG_9.out.sl2.more (show W8.heap.size ≤ W9.heap.size by omega)) (RW_9.out.sl2.more (show W3.heap.size ≤ W9.heap.size by omega)) (by omega) (by omega)).mono ?_
    rintro e W10 ⟨rfl, hb⟩
    clear x20 x21 x22 x23 x24 x25 x2lt x30 x31 x32 x3lt x60 x61 x62 x63 x64 x65 x6lt x70 x71 x72 x73 x74 x75 x7lt x80 x81 x82 x8lt x90 x91 x92 x93 x94 x95 x9lt
    have s10 := hb.size
    have K2_10 := Lib.hid (K2_9.out.below hb (show w.heap.size < W9.heap.size by omega))
    have K3_10 := Lib.hid (K3_9.out.below hb (show w.heap.size + 1 < W9.heap.size by omega))
    have K6_10 := Lib.hid (K6_9.out.below hb (show b6 < W9.heap.size by omega))
    have K7_10 := Lib.hid (K7_9.out.below hb (show W4.heap.size < W9.heap.size by omega))
    have K8_10 := Lib.hid (K8_9.out.below hb (show W6.heap.size < W9.heap.size by omega))
    have K9_10 := Lib.hid (K9_9.out.below hb (show W8.heap.size < W9.heap.size by omega))
    have RW_10 := Lib.hid (RW_9.out.below hb (show W3.heap.size ≤ W9.heap.size by omega))
    have RX_10 := Lib.hid (RX_9.out.below hb (show W4.heap.size ≤ W9.heap.size by omega))
    have RY_10 := Lib.hid (RY_9.out.below hb (show W6.heap.size ≤ W9.heap.size by omega))
    have RG_10 := Lib.hid (RG_9.out.below hb (show W8.heap.size ≤ W9.heap.size by omega))
    have HB_10 := Lib.hid (HB_9.out.trans (hb.mono (show w.heap.size ≤ W9.heap.size by omega)))
    clear K2_9 K3_9 K6_9 K7_9 K8_9 K9_9 RW_9 RX_9 RY_9 RG_9 HB_9 hb
    obtain ⟨x20, x21, x22, x23, x24, x25, _, _, _, _, _, _, x2lt⟩ := K2_10.out
    obtain ⟨x30, x31, x32, _, _, _, x3lt⟩ := K3_10.out
    obtain ⟨x60, x61, x62, x63, x64, x65, _, _, _, _, _, _, x6lt⟩ := K6_10.out
    obtain ⟨x70, x71, x72, x73, x74, x75, _, _, _, _, _, _, x7lt⟩ := K7_10.out
    obtain ⟨x80, x81, x82, _, _, _, x8lt⟩ := K8_10.out
    obtain ⟨x90, x91, x92, x93, x94, x95, _, _, _, _, _, _, x9lt⟩ := K9_10.out
    have HMK := Lib.hid fun w' (hx : Below W10.heap.size W10 w') => (show w'.cell? ⟨W4.heap.size, 0, none⟩ = some (.int .i64 r) ∧ w'.cell? ⟨W4.heap.size, 1, none⟩ = some (.int .i64 c) ∧ w'.cell? ⟨W4.heap.size, 2, none⟩ = some (.slice AX zs.length cX) ∧ w'.cell? ⟨W4.heap.size, 3, none⟩ = some (.int .i64 r2) ∧ w'.cell? ⟨W4.heap.size, 4, none⟩ = some (.int .i64 c2) ∧ w'.cell? ⟨W4.heap.size, 5, none⟩ = some (.slice BX ks.length dX) ∧ w'.cell? ⟨w.heap.size, 0, none⟩ = some (.int .i64 r) ∧ w'.cell? ⟨w.heap.size, 1, none⟩ = some (.int .i64 c) ∧ w'.cell? ⟨w.heap.size, 2, none⟩ = some (.slice A zs.length cap) ∧ w'.cell? ⟨w.heap.size, 3, none⟩ = some (.int .i64 r2) ∧ w'.cell? ⟨w.heap.size, 4, none⟩ = some (.int .i64 c2) ∧ w'.cell? ⟨w.heap.size, 5, none⟩ = some (.slice A2 ks.length cap2) from (by have h := K7_10.out.below hx (show W4.heap.size < W10.heap.size by omega); have h' := K2_10.out.below hx (show w.heap.size < W10.heap.size by omega); exact ⟨h.c0, h.c1, h.c2, h.c3, h.c4, h.c5, h'.c0, h'.c1, h'.c2, h'.c3, h'.c4, h'.c5⟩))
    have hcur : Below W10.heap.size W10 W10.drew := Below.of_drew _
    go_wp2
    go_region_held3 (fun w' => w'.cell? ⟨W4.heap.size, 0, none⟩ = some (.int .i64 r) ∧ w'.cell? ⟨W4.heap.size, 1, none⟩ = some (.int .i64 c) ∧ w'.cell? ⟨W4.heap.size, 2, none⟩ = some (.slice AX zs.length cX) ∧ w'.cell? ⟨W4.heap.size, 3, none⟩ = some (.int .i64 r2) ∧ w'.cell? ⟨W4.heap.size, 4, none⟩ = some (.int .i64 c2) ∧ w'.cell? ⟨W4.heap.size, 5, none⟩ = some (.slice BX ks.length dX) ∧ w'.cell? ⟨w.heap.size, 0, none⟩ = some (.int .i64 r) ∧ w'.cell? ⟨w.heap.size, 1, none⟩ = some (.int .i64 c) ∧ w'.cell? ⟨w.heap.size, 2, none⟩ = some (.slice A zs.length cap) ∧ w'.cell? ⟨w.heap.size, 3, none⟩ = some (.int .i64 r2) ∧ w'.cell? ⟨w.heap.size, 4, none⟩ = some (.int .i64 c2) ∧ w'.cell? ⟨w.heap.size, 5, none⟩ = some (.slice A2 ks.length cap2))
      (first | with_reducible exact HMK.out _ hcur | fail)
      (first
        | (go_simp; go_at_call 32; (refine (toS_any r c A cap _ w.heap.size zs r2 c2 A2 cap2 _ w.heap.size ks W10.drew (HS.out.below (HB_10.out.trans (Below.of_drew _)) (Nat.le_refl _)) (show w.heap.size ≤ W10.heap.size by omega) rfl (by omega) (HT.out.below (HB_10.out.trans (Below.of_drew _)) (Nat.le_refl _)) (show w.heap.size ≤ W10.heap.size by omega) rfl (by omega)).mono ?_); rintro e Wa ⟨sva, tva, rfl, hra, hba⟩; obtain ⟨Aq, cq, Bq, dq, rfl, rfl, _, _⟩ := hra.form; have hcur := hcur.trans (hba.mono (Nat.le_refl _)))
        | (go_simp; go_at_call 34; (refine (eqS_same r c AX Aq cX cq zs r2 c2 BX Bq dX dq ks Wa ((RX_10.out.sl1.below hcur (show W4.heap.size ≤ W10.heap.size by omega)).more (Nat.le_trans (show W4.heap.size ≤ W10.heap.size by omega) hcur.size)) hra.sl1 ((RX_10.out.sl2.below hcur (show W4.heap.size ≤ W10.heap.size by omega)).more (Nat.le_trans (show W4.heap.size ≤ W10.heap.size by omega) hcur.size)) hra.sl2 (by omega) (by omega)).mono ?_); rintro e Wb ⟨rfl, hbb⟩; have hcur := hcur.trans (hbb.mono hcur.size))
        | fail)
    clear hra hba hbb HMK
    obtain ⟨W11, hWb⟩ : ∃ W, W = Wb := ⟨_, rfl⟩
    subst hWb
    clear x20 x21 x22 x23 x24 x25 x2lt x30 x31 x32 x3lt x60 x61 x62 x63 x64 x65 x6lt x70 x71 x72 x73 x74 x75 x7lt x80 x81 x82 x8lt x90 x91 x92 x93 x94 x95 x9lt
    have s11 := hcur.size
    have K2_11 := Lib.hid (K2_10.out.below hcur (show w.heap.size < W10.heap.size by omega))
    have K3_11 := Lib.hid (K3_10.out.below hcur (show w.heap.size + 1 < W10.heap.size by omega))
    have K6_11 := Lib.hid (K6_10.out.below hcur (show b6 < W10.heap.size by omega))
    have K7_11 := Lib.hid (K7_10.out.below hcur (show W4.heap.size < W10.heap.size by omega))
    have K8_11 := Lib.hid (K8_10.out.below hcur (show W6.heap.size < W10.heap.size by omega))
    have K9_11 := Lib.hid (K9_10.out.below hcur (show W8.heap.size < W10.heap.size by omega))
    have RW_11 := Lib.hid (RW_10.out.below hcur (show W3.heap.size ≤ W10.heap.size by omega))
    have RX_11 := Lib.hid (RX_10.out.below hcur (show W4.heap.size ≤ W10.heap.size by omega))
    have RY_11 := Lib.hid (RY_10.out.below hcur (show W6.heap.size ≤ W10.heap.size by omega))
    have RG_11 := Lib.hid (RG_10.out.below hcur (show W8.heap.size ≤ W10.heap.size by omega))
    have HB_11 := Lib.hid (HB_10.out.trans (hcur.mono (show w.heap.size ≤ W10.heap.size by omega)))
    clear K2_10 K3_10 K6_10 K7_10 K8_10 K9_10 RW_10 RX_10 RY_10 RG_10 HB_10 hcur
    obtain ⟨x20, x21, x22, x23, x24, x25, _, _, _, _, _, _, x2lt⟩ := K2_11.out
    obtain ⟨x30, x31, x32, _, _, _, x3lt⟩ := K3_11.out
    obtain ⟨x60, x61, x62, x63, x64, x65, _, _, _, _, _, _, x6lt⟩ := K6_11.out
    obtain ⟨x70, x71, x72, x73, x74, x75, _, _, _, _, _, _, x7lt⟩ := K7_11.out
    obtain ⟨x80, x81, x82, _, _, _, x8lt⟩ := K8_11.out
    obtain ⟨x90, x91, x92, x93, x94, x95, _, _, _, _, _, _, x9lt⟩ := K9_11.out
    have HMK := Lib.hid fun w' (hx : Below W11.heap.size W11 w') => (show w'.cell? ⟨W6.heap.size, 0, none⟩ = some (.int .i64 kr) ∧ w'.cell? ⟨W6.heap.size, 1, none⟩ = some (.int .i64 kc) ∧ w'.cell? ⟨W6.heap.size, 2, none⟩ = some (.slice AY ys.length cY) ∧ w'.cell? ⟨w.heap.size + 1, 0, none⟩ = some (.int .i64 kr) ∧ w'.cell? ⟨w.heap.size + 1, 1, none⟩ = some (.int .i64 kc) ∧ w'.cell? ⟨w.heap.size + 1, 2, none⟩ = some (.slice Ak ys.length capk) from (by have h := K8_11.out.below hx (show W6.heap.size < W11.heap.size by omega); have h' := K3_11.out.below hx (show w.heap.size + 1 < W11.heap.size by omega); exact ⟨h.c0, h.c1, h.c2, h'.c0, h'.c1, h'.c2⟩))
    have hcur : Below W11.heap.size W11 W11.drew := Below.of_drew _
    go_wp2
    go_region_held3 (fun w' => w'.cell? ⟨W6.heap.size, 0, none⟩ = some (.int .i64 kr) ∧ w'.cell? ⟨W6.heap.size, 1, none⟩ = some (.int .i64 kc) ∧ w'.cell? ⟨W6.heap.size, 2, none⟩ = some (.slice AY ys.length cY) ∧ w'.cell? ⟨w.heap.size + 1, 0, none⟩ = some (.int .i64 kr) ∧ w'.cell? ⟨w.heap.size + 1, 1, none⟩ = some (.int .i64 kc) ∧ w'.cell? ⟨w.heap.size + 1, 2, none⟩ = some (.slice Ak ys.length capk))
      (first | with_reducible exact HMK.out _ hcur | fail)
      (first
        | (go_simp; go_at_call 17; (refine (toM_any kr kc Ak capk _ w.heap.size ys W11.drew (HK.out.below (HB_11.out.trans (Below.of_drew _)) (Nat.le_refl _)) (show w.heap.size ≤ W11.heap.size by omega) rfl (by omega)).mono ?_); rintro e Wa ⟨sva, rfl, hra, hba⟩; obtain ⟨Aq, cq, rfl, _, _, _⟩ := hra.form; have hcur := hcur.trans (hba.mono (Nat.le_refl _)))
        | (go_simp; go_at_call 19; (refine (eqM_same kr kc AY Aq cY cq ys Wa ((RY_11.out.sl_now.below hcur (show W6.heap.size ≤ W11.heap.size by omega)).more (Nat.le_trans (show W6.heap.size ≤ W11.heap.size by omega) hcur.size)) hra.sl_now (by omega)).mono ?_); rintro e Wb ⟨rfl, hbb⟩; have hcur := hcur.trans (hbb.mono hcur.size))
        | fail)
    clear hra hba hbb HMK
    obtain ⟨W12, hWb⟩ : ∃ W, W = Wb := ⟨_, rfl⟩
    subst hWb
    clear x20 x21 x22 x23 x24 x25 x2lt x30 x31 x32 x3lt x60 x61 x62 x63 x64 x65 x6lt x70 x71 x72 x73 x74 x75 x7lt x80 x81 x82 x8lt x90 x91 x92 x93 x94 x95 x9lt
    have s12 := hcur.size
    have K2_12 := Lib.hid (K2_11.out.below hcur (show w.heap.size < W11.heap.size by omega))
    have K3_12 := Lib.hid (K3_11.out.below hcur (show w.heap.size + 1 < W11.heap.size by omega))
    have K6_12 := Lib.hid (K6_11.out.below hcur (show b6 < W11.heap.size by omega))
    have K7_12 := Lib.hid (K7_11.out.below hcur (show W4.heap.size < W11.heap.size by omega))
    have K8_12 := Lib.hid (K8_11.out.below hcur (show W6.heap.size < W11.heap.size by omega))
    have K9_12 := Lib.hid (K9_11.out.below hcur (show W8.heap.size < W11.heap.size by omega))
    have RW_12 := Lib.hid (RW_11.out.below hcur (show W3.heap.size ≤ W11.heap.size by omega))
    have RX_12 := Lib.hid (RX_11.out.below hcur (show W4.heap.size ≤ W11.heap.size by omega))
    have RY_12 := Lib.hid (RY_11.out.below hcur (show W6.heap.size ≤ W11.heap.size by omega))
    have RG_12 := Lib.hid (RG_11.out.below hcur (show W8.heap.size ≤ W11.heap.size by omega))
    have HB_12 := Lib.hid (HB_11.out.trans (hcur.mono (show w.heap.size ≤ W11.heap.size by omega)))
    clear K2_11 K3_11 K6_11 K7_11 K8_11 K9_11 RW_11 RX_11 RY_11 RG_11 HB_11 hcur
    obtain ⟨x20, x21, x22, x23, x24, x25, _, _, _, _, _, _, x2lt⟩ := K2_12.out
    obtain ⟨x30, x31, x32, _, _, _, x3lt⟩ := K3_12.out
    obtain ⟨x60, x61, x62, x63, x64, x65, _, _, _, _, _, _, x6lt⟩ := K6_12.out
    obtain ⟨x70, x71, x72, x73, x74, x75, _, _, _, _, _, _, x7lt⟩ := K7_12.out
    obtain ⟨x80, x81, x82, _, _, _, x8lt⟩ := K8_12.out
    obtain ⟨x90, x91, x92, x93, x94, x95, _, _, _, _, _, _, x9lt⟩ := K9_12.out
    go_wp2_with fail
    refine (markS_any (W3.heap.size) (W4.heap.size) r c AX cX zs r2 c2 BX dX ks (1) W12 RX_12.out (show W4.heap.size ≤ W12.heap.size by omega) (by omega) (by omega) (by omega) (by omega)).mono ?_
    rintro e W13 ⟨rfl, hrm, hsp⟩
    clear x20 x21 x22 x23 x24 x25 x2lt x30 x31 x32 x3lt x60 x61 x62 x63 x64 x65 x6lt x70 x71 x72 x73 x74 x75 x7lt x80 x81 x82 x8lt x90 x91 x92 x93 x94 x95 x9lt
    have s13 := hsp.size
    have K2_13 := Lib.hid (K2_12.out.span hsp (show w.heap.size < W3.heap.size ∨ W4.heap.size ≤ w.heap.size by omega))
    have K3_13 := Lib.hid (K3_12.out.span hsp (show w.heap.size + 1 < W3.heap.size ∨ W4.heap.size ≤ w.heap.size + 1 by omega))
    have K6_13 := Lib.hid (K6_12.out.span hsp (show b6 < W3.heap.size ∨ W4.heap.size ≤ b6 by omega))
    have K7_13 := Lib.hid (K7_12.out.span hsp (show W4.heap.size < W3.heap.size ∨ W4.heap.size ≤ W4.heap.size by omega))
    have K8_13 := Lib.hid (K8_12.out.span hsp (show W6.heap.size < W3.heap.size ∨ W4.heap.size ≤ W6.heap.size by omega))
    have K9_13 := Lib.hid (K9_12.out.span hsp (show W8.heap.size < W3.heap.size ∨ W4.heap.size ≤ W8.heap.size by omega))
    have RW_13 := Lib.hid (RW_12.out.span hsp (show W3.heap.size ≤ W3.heap.size ∨ W4.heap.size ≤ W2.heap.size by omega))
    have RY_13 := Lib.hid (RY_12.out.span hsp (show W6.heap.size ≤ W3.heap.size ∨ W4.heap.size ≤ W5.heap.size by omega))
    have RG_13 := Lib.hid (RG_12.out.span hsp (show W8.heap.size ≤ W3.heap.size ∨ W4.heap.size ≤ W7.heap.size by omega))
    have HB_13 := Lib.hid (Span.below HB_12.out hsp (show w.heap.size ≤ W3.heap.size by omega) (show w.heap.size ≤ W12.heap.size by omega))
    clear K2_12 K3_12 K6_12 K7_12 K8_12 K9_12 RW_12 RX_12 RY_12 RG_12 HB_12 hsp
    clear hrm
    obtain ⟨x20, x21, x22, x23, x24, x25, _, _, _, _, _, _, x2lt⟩ := K2_13.out
    obtain ⟨x30, x31, x32, _, _, _, x3lt⟩ := K3_13.out
    obtain ⟨x60, x61, x62, x63, x64, x65, _, _, _, _, _, _, x6lt⟩ := K6_13.out
    obtain ⟨x70, x71, x72, x73, x74, x75, _, _, _, _, _, _, x7lt⟩ := K7_13.out
    obtain ⟨x80, x81, x82, _, _, _, x8lt⟩ := K8_13.out
    obtain ⟨x90, x91, x92, x93, x94, x95, _, _, _, _, _, _, x9lt⟩ := K9_13.out
    go_wp2_with fail
    refine (markM_any (W5.heap.size) (W6.heap.size) kr kc AY cY ys (1 + (zs.length : Int) + (ks.length : Int)) W13 RY_13.out (show W6.heap.size ≤ W13.heap.size by omega) (by omega) (by omega) (by omega)).mono ?_
    rintro e W14 ⟨rfl, hrm, hsp⟩
    clear x20 x21 x22 x23 x24 x25 x2lt x30 x31 x32 x3lt x60 x61 x62 x63 x64 x65 x6lt x70 x71 x72 x73 x74 x75 x7lt x80 x81 x82 x8lt x90 x91 x92 x93 x94 x95 x9lt
    have s14 := hsp.size
    have K2_14 := Lib.hid (K2_13.out.span hsp (show w.heap.size < W5.heap.size ∨ W6.heap.size ≤ w.heap.size by omega))
    have K3_14 := Lib.hid (K3_13.out.span hsp (show w.heap.size + 1 < W5.heap.size ∨ W6.heap.size ≤ w.heap.size + 1 by omega))
    have K6_14 := Lib.hid (K6_13.out.span hsp (show b6 < W5.heap.size ∨ W6.heap.size ≤ b6 by omega))
    have K7_14 := Lib.hid (K7_13.out.span hsp (show W4.heap.size < W5.heap.size ∨ W6.heap.size ≤ W4.heap.size by omega))
    have K8_14 := Lib.hid (K8_13.out.span hsp (show W6.heap.size < W5.heap.size ∨ W6.heap.size ≤ W6.heap.size by omega))
    have K9_14 := Lib.hid (K9_13.out.span hsp (show W8.heap.size < W5.heap.size ∨ W6.heap.size ≤ W8.heap.size by omega))
    have RW_14 := Lib.hid (RW_13.out.span hsp (show W3.heap.size ≤ W5.heap.size ∨ W6.heap.size ≤ W2.heap.size by omega))
    have RG_14 := Lib.hid (RG_13.out.span hsp (show W8.heap.size ≤ W5.heap.size ∨ W6.heap.size ≤ W7.heap.size by omega))
    have HB_14 := Lib.hid (Span.below HB_13.out hsp (show w.heap.size ≤ W5.heap.size by omega) (show w.heap.size ≤ W13.heap.size by omega))
    clear K2_13 K3_13 K6_13 K7_13 K8_13 K9_13 RW_13 RY_13 RG_13 HB_13 hsp hrm
    have hdk : decide (1 + (zs.length : Int) + (ks.length : Int) + (ys.length : Int) < 0) = false := by simp; omega
    obtain ⟨x20, x21, x22, x23, x24, x25, _, _, _, _, _, _, x2lt⟩ := K2_14.out
    obtain ⟨x30, x31, x32, _, _, _, x3lt⟩ := K3_14.out
    obtain ⟨x60, x61, x62, x63, x64, x65, _, _, _, _, _, _, x6lt⟩ := K6_14.out
    obtain ⟨x70, x71, x72, x73, x74, x75, _, _, _, _, _, _, x7lt⟩ := K7_14.out
    obtain ⟨x80, x81, x82, _, _, _, x8lt⟩ := K8_14.out
    obtain ⟨x90, x91, x92, x93, x94, x95, _, _, _, _, _, _, x9lt⟩ := K9_14.out
    go_wp2_with fail
    refine (eqS_same pr pc AG AW cG cW ps pr pc BG BW dG dW qs W14 (RG_14.out.sl1.more (show W8.heap.size ≤ W14.heap.size by omega)) (RW_14.out.sl1.more (show W3.heap.size ≤ W14.heap.size by omega)) (RG_14.out.sl2.more (show W8.heap.size ≤ W14.heap.size by omega)) (RW_14.out.sl2.more (show W3.heap.size ≤ W14.heap.size by omega)) (by omega) (by omega)).mono ?_
    rintro e W15 ⟨rfl, hb⟩
    clear x20 x21 x22 x23 x24 x25 x2lt x30 x31 x32 x3lt x60 x61 x62 x63 x64 x65 x6lt x70 x71 x72 x73 x74 x75 x7lt x80 x81 x82 x8lt x90 x91 x92 x93 x94 x95 x9lt
    have s15 := hb.size
    have K2_15 := Lib.hid (K2_14.out.below hb (show w.heap.size < W14.heap.size by omega))
    have K3_15 := Lib.hid (K3_14.out.below hb (show w.heap.size + 1 < W14.heap.size by omega))
    have K6_15 := Lib.hid (K6_14.out.below hb (show b6 < W14.heap.size by omega))
    have K7_15 := Lib.hid (K7_14.out.below hb (show W4.heap.size < W14.heap.size by omega))
    have K8_15 := Lib.hid (K8_14.out.below hb (show W6.heap.size < W14.heap.size by omega))
    have K9_15 := Lib.hid (K9_14.out.below hb (show W8.heap.size < W14.heap.size by omega))
    have RW_15 := Lib.hid (RW_14.out.below hb (show W3.heap.size ≤ W14.heap.size by omega))
    have RG_15 := Lib.hid (RG_14.out.below hb (show W8.heap.size ≤ W14.heap.size by omega))
    have HB_15 := Lib.hid (HB_14.out.trans (hb.mono (show w.heap.size ≤ W14.heap.size by omega)))
    clear K2_14 K3_14 K6_14 K7_14 K8_14 K9_14 RW_14 RG_14 HB_14 hb
    obtain ⟨x20, x21, x22, x23, x24, x25, _, _, _, _, _, _, x2lt⟩ := K2_15.out
    obtain ⟨x30, x31, x32, _, _, _, x3lt⟩ := K3_15.out
    obtain ⟨x60, x61, x62, x63, x64, x65, _, _, _, _, _, _, x6lt⟩ := K6_15.out
    obtain ⟨x70, x71, x72, x73, x74, x75, _, _, _, _, _, _, x7lt⟩ := K7_15.out
    obtain ⟨x80, x81, x82, _, _, _, x8lt⟩ := K8_15.out
    obtain ⟨x90, x91, x92, x93, x94, x95, _, _, _, _, _, _, x9lt⟩ := K9_15.out
    go_wp2_with fail
    refine (markS_any (W7.heap.size) (W8.heap.size) pr pc AG cG ps pr pc BG dG qs (1) W15 RG_15.out (show W8.heap.size ≤ W15.heap.size by omega) (by omega) (by omega) (by omega) (by omega)).mono ?_
    rintro e W16 ⟨rfl, hrm, hsp⟩
    clear x20 x21 x22 x23 x24 x25 x2lt x30 x31 x32 x3lt x60 x61 x62 x63 x64 x65 x6lt x70 x71 x72 x73 x74 x75 x7lt x80 x81 x82 x8lt x90 x91 x92 x93 x94 x95 x9lt
    have s16 := hsp.size
    have K2_16 := Lib.hid (K2_15.out.span hsp (show w.heap.size < W7.heap.size ∨ W8.heap.size ≤ w.heap.size by omega))
    have K3_16 := Lib.hid (K3_15.out.span hsp (show w.heap.size + 1 < W7.heap.size ∨ W8.heap.size ≤ w.heap.size + 1 by omega))
    have K6_16 := Lib.hid (K6_15.out.span hsp (show b6 < W7.heap.size ∨ W8.heap.size ≤ b6 by omega))
    have K7_16 := Lib.hid (K7_15.out.span hsp (show W4.heap.size < W7.heap.size ∨ W8.heap.size ≤ W4.heap.size by omega))
    have K8_16 := Lib.hid (K8_15.out.span hsp (show W6.heap.size < W7.heap.size ∨ W8.heap.size ≤ W6.heap.size by omega))
    have K9_16 := Lib.hid (K9_15.out.span hsp (show W8.heap.size < W7.heap.size ∨ W8.heap.size ≤ W8.heap.size by omega))
    have RW_16 := Lib.hid (RW_15.out.span hsp (show W3.heap.size ≤ W7.heap.size ∨ W8.heap.size ≤ W2.heap.size by omega))
    have HB_16 := Lib.hid (Span.below HB_15.out hsp (show w.heap.size ≤ W7.heap.size by omega) (show w.heap.size ≤ W15.heap.size by omega))
    clear K2_15 K3_15 K6_15 K7_15 K8_15 K9_15 RW_15 RG_15 HB_15 hsp
    have RM_16 := Lib.hid (show RowS W16 (W7.heap.size) (W8.heap.size) (.slice AG (marks 1 ps.length).length cG) (.slice BG (marks (1 + (ps.length : Int)) qs.length).length dG) (marks 1 ps.length) (marks (1 + (ps.length : Int)) qs.length) by rw [marks_length, marks_length]; exact hrm)
    clear hrm
    have hdm : decide (1 + (ps.length : Int) + (qs.length : Int) < 0) = false := by simp; omega
    obtain ⟨x20, x21, x22, x23, x24, x25, _, _, _, _, _, _, x2lt⟩ := K2_16.out
    obtain ⟨x30, x31, x32, _, _, _, x3lt⟩ := K3_16.out
    obtain ⟨x60, x61, x62, x63, x64, x65, _, _, _, _, _, _, x6lt⟩ := K6_16.out
    obtain ⟨x70, x71, x72, x73, x74, x75, _, _, _, _, _, _, x7lt⟩ := K7_16.out
    obtain ⟨x80, x81, x82, _, _, _, x8lt⟩ := K8_16.out
    obtain ⟨x90, x91, x92, x93, x94, x95, _, _, _, _, _, _, x9lt⟩ := K9_16.out
    go_wp2_with fail
    refine (heldS_same (W8.heap.size) pr pc AG cG ps.length pr pc BG dG qs.length 1 W16 RM_16.out.sl1 RM_16.out.sl2 (show W8.heap.size ≤ W16.heap.size by omega) (by omega) (by omega) (by omega) (by omega)).mono ?_
    rintro e W17 ⟨rfl, hb⟩
    clear x20 x21 x22 x23 x24 x25 x2lt x30 x31 x32 x3lt x60 x61 x62 x63 x64 x65 x6lt x70 x71 x72 x73 x74 x75 x7lt x80 x81 x82 x8lt x90 x91 x92 x93 x94 x95 x9lt
    have s17 := hb.size
    have K2_17 := Lib.hid (K2_16.out.below hb (show w.heap.size < W16.heap.size by omega))
    have K3_17 := Lib.hid (K3_16.out.below hb (show w.heap.size + 1 < W16.heap.size by omega))
    have K6_17 := Lib.hid (K6_16.out.below hb (show b6 < W16.heap.size by omega))
    have K7_17 := Lib.hid (K7_16.out.below hb (show W4.heap.size < W16.heap.size by omega))
    have K8_17 := Lib.hid (K8_16.out.below hb (show W6.heap.size < W16.heap.size by omega))
    have K9_17 := Lib.hid (K9_16.out.below hb (show W8.heap.size < W16.heap.size by omega))
    have RW_17 := Lib.hid (RW_16.out.below hb (show W3.heap.size ≤ W16.heap.size by omega))
    have RM_17 := Lib.hid (RM_16.out.below hb (show W8.heap.size ≤ W16.heap.size by omega))
    have HB_17 := Lib.hid (HB_16.out.trans (hb.mono (show w.heap.size ≤ W16.heap.size by omega)))
    clear K2_16 K3_16 K6_16 K7_16 K8_16 K9_16 RW_16 RM_16 HB_16 hb
    have hTA := Lib.hid fun wx (hx : Below W17.heap.size W17 wx) => toS_any r c A cap _ w.heap.size zs r2 c2 A2 cap2 _ w.heap.size ks wx (HS.out.below (HB_17.out.trans (hx.mono (show w.heap.size ≤ W17.heap.size by omega))) (Nat.le_refl _)) (Nat.le_trans (show w.heap.size ≤ W17.heap.size by omega) hx.size) rfl (by omega) (HT.out.below (HB_17.out.trans (hx.mono (show w.heap.size ≤ W17.heap.size by omega))) (Nat.le_refl _)) (Nat.le_trans (show w.heap.size ≤ W17.heap.size by omega) hx.size) rfl (by omega)
    have hTB := Lib.hid fun wx (hx : Below W17.heap.size W17 wx) => toM_any kr kc Ak capk _ w.heap.size ys wx (HK.out.below (HB_17.out.trans (hx.mono (show w.heap.size ≤ W17.heap.size by omega))) (Nat.le_refl _)) (Nat.le_trans (show w.heap.size ≤ W17.heap.size by omega) hx.size) rfl (by omega)
    have HMK := Lib.hid fun w' (hx : Below W17.heap.size W17 w') => (show ((w'.cell? ⟨w.heap.size, 0, none⟩ = some (.int .i64 r) ∧ w'.cell? ⟨w.heap.size, 1, none⟩ = some (.int .i64 c) ∧ w'.cell? ⟨w.heap.size, 2, none⟩ = some (.slice A zs.length cap) ∧ w'.cell? ⟨w.heap.size, 3, none⟩ = some (.int .i64 r2) ∧ w'.cell? ⟨w.heap.size, 4, none⟩ = some (.int .i64 c2) ∧ w'.cell? ⟨w.heap.size, 5, none⟩ = some (.slice A2 ks.length cap2)) ∧ w'.cell? ⟨w.heap.size + 1, 0, none⟩ = some (.int .i64 kr) ∧ w'.cell? ⟨w.heap.size + 1, 1, none⟩ = some (.int .i64 kc) ∧ w'.cell? ⟨w.heap.size + 1, 2, none⟩ = some (.slice Ak ys.length capk)) from (by have h := K2_17.out.below hx (show w.heap.size < W17.heap.size by omega); have h' := K3_17.out.below hx (show w.heap.size + 1 < W17.heap.size by omega); exact ⟨⟨h.c0, h.c1, h.c2, h.c3, h.c4, h.c5⟩, h'.c0, h'.c1, h'.c2⟩))
    have hcur : Below W17.heap.size W17 W17.drew := Below.of_drew _
    have hcu0 : Below W17.heap.size W17 (W17.alloc (.cells #[.int .i64 0, .int .i64 0, .slice none 0 0, .int .i64 0, .int .i64 0, .slice none 0 0] 43)).drew := ((Below.refl _ _).alloc (Nat.le_refl _) _).trans (Below.of_drew _)
    have eN0 := (Cell6.new W17 (.int .i64 0) (.int .i64 0) (.slice none 0 0) (.int .i64 0) (.int .i64 0) (.slice none 0 0) 43).grown ((drew1 _).grown none) (by simp)
    go_upto_region 31 with fail
    go_cut [13] (fun sx wx => ∃ (b6 : Nat) (AH : Option Addr) (cH : Nat) (BH : Option Addr) (dH : Nat), sx = .pointer (some ⟨b6, 0, none⟩) ∧ W17.heap.size ≤ b6 ∧ b6 < wx.heap.size ∧ Cell6 wx b6 (.int .i64 pr) (.int .i64 pc) (.slice AH ps.length cH) (.int .i64 pr) (.int .i64 pc) (.slice BH qs.length dH) ∧ RowS wx W17.heap.size wx.heap.size (.slice AH ps.length cH) (.slice BH qs.length dH) ps qs ∧ Below W17.heap.size W17 wx)
    case first =>
      go_region_held3 (fun w' => ((w'.cell? ⟨w.heap.size, 0, none⟩ = some (.int .i64 r) ∧ w'.cell? ⟨w.heap.size, 1, none⟩ = some (.int .i64 c) ∧ w'.cell? ⟨w.heap.size, 2, none⟩ = some (.slice A zs.length cap) ∧ w'.cell? ⟨w.heap.size, 3, none⟩ = some (.int .i64 r2) ∧ w'.cell? ⟨w.heap.size, 4, none⟩ = some (.int .i64 c2) ∧ w'.cell? ⟨w.heap.size, 5, none⟩ = some (.slice A2 ks.length cap2)) ∧ w'.cell? ⟨w.heap.size + 1, 0, none⟩ = some (.int .i64 kr) ∧ w'.cell? ⟨w.heap.size + 1, 1, none⟩ = some (.int .i64 kc) ∧ w'.cell? ⟨w.heap.size + 1, 2, none⟩ = some (.slice Ak ys.length capk)))
        (first | with_reducible exact HMK.out _ hcur | with_reducible exact HMK.out _ hcu0 | with_reducible exact HMK.out _ (hcur.alloc hcur.size _) | with_reducible exact HMK.out _ ((((((hcur.setCell (p := ⟨_, 0, none⟩) hb6 _).setCell (p := ⟨_, 1, none⟩) hb6 _).setCell (p := ⟨_, 2, none⟩) hb6 _).setCell (p := ⟨_, 3, none⟩) hb6 _).setCell (p := ⟨_, 4, none⟩) hb6 _).setCell (p := ⟨_, 5, none⟩) hb6 _) | fail)
        (first
          | (go_simp; go_at_call 32; (with_reducible refine (hTA.out W17.drew hcur).mono ?_); rintro e Wn ⟨sva, tva, rfl, hr, hb⟩; obtain ⟨Aa, ca, Ba, da, rfl, rfl, hqa, hqc⟩ := hr.form; have hcurn := hcur.trans (hb.mono hcur.size); (try have eN := eN.below hb eN.lt); (try have hsb := (hsb.below hb (Nat.le_refl _)).more hb.size); have hsa := hr.sl1; have hsc := hr.sl2; have hcur := hcurn; clear hr hb hcurn; obtain ⟨Wz, hWz⟩ : ∃ W, W = Wn := ⟨_, rfl⟩; subst hWz)
          | (go_simp; go_at_call 32; (with_reducible refine (hTA.out (W17.alloc (.cells #[.int .i64 0, .int .i64 0, .slice none 0 0, .int .i64 0, .int .i64 0, .slice none 0 0] 43)).drew hcu0).mono ?_); rintro e Wn ⟨sva, tva, rfl, hr, hb⟩; obtain ⟨Aa, ca, Ba, da, rfl, rfl, hqa, hqc⟩ := hr.form; have hcurn := hcu0.trans (hb.mono hcu0.size); have eN := eN0.below hb eN0.lt; have hb6 := Nat.le_refl W17.heap.size; (try have hsb := (hsb.below hb (Nat.le_refl _)).more hb.size); have hsa := hr.sl1; have hsc := hr.sl2; have hcur := hcurn; clear hr hb hcurn; obtain ⟨Wz, hWz⟩ : ∃ W, W = Wn := ⟨_, rfl⟩; subst hWz)
          | (go_simp; go_at_call 32; (with_reducible refine (hTA.out Wz hcur).mono ?_); rintro e Wn ⟨sva, tva, rfl, hr, hb⟩; obtain ⟨Aa, ca, Ba, da, rfl, rfl, hqa, hqc⟩ := hr.form; have hcurn := hcur.trans (hb.mono hcur.size); (try have eN := eN.below hb eN.lt); (try have hsb := (hsb.below hb (Nat.le_refl _)).more hb.size); have hsa := hr.sl1; have hsc := hr.sl2; have hcur := hcurn; clear hr hb hcurn; obtain ⟨Wz, hWz⟩ : ∃ W, W = Wn := ⟨_, rfl⟩; subst hWz)
          | (go_simp; go_at_call 32; (with_reducible refine (hTA.out (Wz.alloc (.cells #[.int .i64 0, .int .i64 0, .slice none 0 0, .int .i64 0, .int .i64 0, .slice none 0 0] 43)) (hcur.alloc hcur.size _)).mono ?_); rintro e Wn ⟨sva, tva, rfl, hr, hb⟩; obtain ⟨Aa, ca, Ba, da, rfl, rfl, hqa, hqc⟩ := hr.form; have hcurn := (hcur.alloc hcur.size (.cells #[.int .i64 0, .int .i64 0, .slice none 0 0, .int .i64 0, .int .i64 0, .slice none 0 0] 43)).trans (hb.mono (hcur.alloc hcur.size (.cells #[.int .i64 0, .int .i64 0, .slice none 0 0, .int .i64 0, .int .i64 0, .slice none 0 0] 43)).size); have eN := (Cell6.new Wz (.int .i64 0) (.int .i64 0) (.slice none 0 0) (.int .i64 0) (.int .i64 0) (.slice none 0 0) 43).below hb (by simp); have hb6 := hcur.size; (try have hsb := ((hsb.below (B' := Wz.heap.size) ((Below.refl _ Wz).alloc (Nat.le_refl _) (.cells #[.int .i64 0, .int .i64 0, .slice none 0 0, .int .i64 0, .int .i64 0, .slice none 0 0] 43)) (Nat.le_refl _)).below hb (by simp)).more (Nat.le_trans (by simp) hb.size)); have hsa := hr.sl1; have hsc := hr.sl2; have hcur := hcurn; clear hr hb hcurn; obtain ⟨Wz, hWz⟩ : ∃ W, W = Wn := ⟨_, rfl⟩; subst hWz)
          | (go_simp; go_at_call 17; (with_reducible refine (hTB.out W17.drew hcur).mono ?_); rintro e Wn ⟨svb, rfl, hr, hb⟩; obtain ⟨Ab, cb, rfl, hqb1, hqb2, _⟩ := hr.form; have hcurn := hcur.trans (hb.mono hcur.size); (try have eN := eN.below hb eN.lt); (try have hsa := (hsa.below hb (Nat.le_refl _)).more hb.size); (try have hsc := (hsc.below hb (Nat.le_refl _)).more hb.size); have hsb := hr.sl_now; have hcur := hcurn; clear hr hb hcurn; obtain ⟨Wz, hWz⟩ : ∃ W, W = Wn := ⟨_, rfl⟩; subst hWz)
          | (go_simp; go_at_call 17; (with_reducible refine (hTB.out (W17.alloc (.cells #[.int .i64 0, .int .i64 0, .slice none 0 0, .int .i64 0, .int .i64 0, .slice none 0 0] 43)).drew hcu0).mono ?_); rintro e Wn ⟨svb, rfl, hr, hb⟩; obtain ⟨Ab, cb, rfl, hqb1, hqb2, _⟩ := hr.form; have hcurn := hcu0.trans (hb.mono hcu0.size); have eN := eN0.below hb eN0.lt; have hb6 := Nat.le_refl W17.heap.size; (try have hsa := (hsa.below hb (Nat.le_refl _)).more hb.size); (try have hsc := (hsc.below hb (Nat.le_refl _)).more hb.size); have hsb := hr.sl_now; have hcur := hcurn; clear hr hb hcurn; obtain ⟨Wz, hWz⟩ : ∃ W, W = Wn := ⟨_, rfl⟩; subst hWz)
          | (go_simp; go_at_call 17; (with_reducible refine (hTB.out Wz hcur).mono ?_); rintro e Wn ⟨svb, rfl, hr, hb⟩; obtain ⟨Ab, cb, rfl, hqb1, hqb2, _⟩ := hr.form; have hcurn := hcur.trans (hb.mono hcur.size); (try have eN := eN.below hb eN.lt); (try have hsa := (hsa.below hb (Nat.le_refl _)).more hb.size); (try have hsc := (hsc.below hb (Nat.le_refl _)).more hb.size); have hsb := hr.sl_now; have hcur := hcurn; clear hr hb hcurn; obtain ⟨Wz, hWz⟩ : ∃ W, W = Wn := ⟨_, rfl⟩; subst hWz)
          | (go_simp; go_at_call 17; (with_reducible refine (hTB.out (Wz.alloc (.cells #[.int .i64 0, .int .i64 0, .slice none 0 0, .int .i64 0, .int .i64 0, .slice none 0 0] 43)) (hcur.alloc hcur.size _)).mono ?_); rintro e Wn ⟨svb, rfl, hr, hb⟩; obtain ⟨Ab, cb, rfl, hqb1, hqb2, _⟩ := hr.form; have hcurn := (hcur.alloc hcur.size (.cells #[.int .i64 0, .int .i64 0, .slice none 0 0, .int .i64 0, .int .i64 0, .slice none 0 0] 43)).trans (hb.mono (hcur.alloc hcur.size (.cells #[.int .i64 0, .int .i64 0, .slice none 0 0, .int .i64 0, .int .i64 0, .slice none 0 0] 43)).size); have eN := (Cell6.new Wz (.int .i64 0) (.int .i64 0) (.slice none 0 0) (.int .i64 0) (.int .i64 0) (.slice none 0 0) 43).below hb (by simp); have hb6 := hcur.size; (try have hsa := ((hsa.below (B' := Wz.heap.size) ((Below.refl _ Wz).alloc (Nat.le_refl _) (.cells #[.int .i64 0, .int .i64 0, .slice none 0 0, .int .i64 0, .int .i64 0, .slice none 0 0] 43)) (Nat.le_refl _)).below hb (by simp)).more (Nat.le_trans (by simp) hb.size)); (try have hsc := ((hsc.below (B' := Wz.heap.size) ((Below.refl _ Wz).alloc (Nat.le_refl _) (.cells #[.int .i64 0, .int .i64 0, .slice none 0 0, .int .i64 0, .int .i64 0, .slice none 0 0] 43)) (Nat.le_refl _)).below hb (by simp)).more (Nat.le_trans (by simp) hb.size)); have hsb := hr.sl_now; have hcur := hcurn; clear hr hb hcurn; obtain ⟨Wz, hWz⟩ : ∃ W, W = Wn := ⟨_, rfl⟩; subst hWz)
          | (go_simp; go_at_call 47; (with_reducible refine ((implSF_any r c Aa ca _ Wz.heap.size zs r2 c2 Ba da _ Wz.heap.size ks kr kc Ab cb _ Wz.heap.size ys Wz hsa (Nat.le_refl _) rfl (by omega) hsc (Nat.le_refl _) rfl (by omega) hsb (Nat.le_refl _) rfl (by omega) hqb1 hqb2 hqa.1 hqa.2 hqc.1 hqc.2)).mono ?_); rintro e Wy ⟨svy, tvy, rfl, hry, hby⟩; rw [HP.out.1, HP.out.2.1]; rw [HP.out.2.2.1, HP.out.2.2.2] at hry; obtain ⟨AH, cH, BH, dH, rfl, rfl, _, _⟩ := hry.form; have hwz := hcur.size; have hcur := hcur.trans (hby.mono hcur.size); (try (have hlo := eN.lt; have eN := eN.below hby eN.lt; obtain ⟨n0, n1, n2, n3, n4, n5, nf0, nf1, nf2, nf3, nf4, nf5, nlt⟩ := id eN)))
          | (go_simp; go_at_call 47; (with_reducible refine ((implSF_any r c Aa ca _ Wz.heap.size zs r2 c2 Ba da _ Wz.heap.size ks kr kc Ab cb _ Wz.heap.size ys (Wz.alloc (.cells #[.int .i64 0, .int .i64 0, .slice none 0 0, .int .i64 0, .int .i64 0, .slice none 0 0] 43)) (hsa.below ((Below.refl _ Wz).alloc (Nat.le_refl _) _) (Nat.le_refl _)) (by simp) rfl (by omega) (hsc.below ((Below.refl _ Wz).alloc (Nat.le_refl _) _) (Nat.le_refl _)) (by simp) rfl (by omega) (hsb.below ((Below.refl _ Wz).alloc (Nat.le_refl _) _) (Nat.le_refl _)) (by simp) rfl (by omega) hqb1 hqb2 hqa.1 hqa.2 hqc.1 hqc.2)).mono ?_); rintro e Wy ⟨svy, tvy, rfl, hry, hby⟩; rw [HP.out.1, HP.out.2.1]; rw [HP.out.2.2.1, HP.out.2.2.2] at hry; obtain ⟨AH, cH, BH, dH, rfl, rfl, _, _⟩ := hry.form; have eN := (Cell6.new Wz (.int .i64 0) (.int .i64 0) (.slice none 0 0) (.int .i64 0) (.int .i64 0) (.slice none 0 0) 43).below hby (by simp); have hb6 := hcur.size; have hlo := (show Wz.heap.size < (Wz.alloc (.cells #[.int .i64 0, .int .i64 0, .slice none 0 0, .int .i64 0, .int .i64 0, .slice none 0 0] 43)).heap.size by simp); have hwz := Nat.le_trans hcur.size (Nat.le_of_lt hlo); have hcur := (hcur.alloc hcur.size (.cells #[.int .i64 0, .int .i64 0, .slice none 0 0, .int .i64 0, .int .i64 0, .slice none 0 0] 43)).trans (hby.mono (hcur.alloc hcur.size (.cells #[.int .i64 0, .int .i64 0, .slice none 0 0, .int .i64 0, .int .i64 0, .slice none 0 0] 43)).size); obtain ⟨n0, n1, n2, n3, n4, n5, nf0, nf1, nf2, nf3, nf4, nf5, nlt⟩ := id eN)
          | fail)
      all_goals (
        go_wp2_with fail
        go_meet
        first
          | exact ⟨_, _, _, _, _, rfl, hb6, by simpa using eN.lt, ((((((eN.set0 _).set1 _).set2 _).set3 _).set4 _).set5 _), ((((((hry.grown (set_grown _ _ 0 _) (fun g e => by cases e; left; exact hlo)).grown (set_grown _ _ 1 _) (fun g e => by cases e; left; exact hlo)).grown (set_grown _ _ 2 _) (fun g e => by cases e; left; exact hlo)).grown (set_grown _ _ 3 _) (fun g e => by cases e; left; exact hlo)).grown (set_grown _ _ 4 _) (fun g e => by cases e; left; exact hlo)).grown (set_grown _ _ 5 _) (fun g e => by cases e; left; exact hlo)).wider hwz (by simp), ((((((hcur.setCell (p := ⟨_, 0, none⟩) hb6 _).setCell (p := ⟨_, 1, none⟩) hb6 _).setCell (p := ⟨_, 2, none⟩) hb6 _).setCell (p := ⟨_, 3, none⟩) hb6 _).setCell (p := ⟨_, 4, none⟩) hb6 _).setCell (p := ⟨_, 5, none⟩) hb6 _)⟩
          | exact ⟨Wy.heap.size, _, _, _, _, rfl, hcur.size, by simp, Cell6.new Wy _ _ _ _ _ _ _, (hry.grown (World.grownBy_alloc Wy _ none) (fun g e => by cases e)).wider hwz (by simp), hcur.alloc hcur.size _⟩)
    case rest =>
      obtain ⟨W18, rfl⟩ : ∃ W, W = wc := ⟨_, rfl⟩
      obtain ⟨b13, AH, cH, BH, dH, rfl, hbl13, hbl13', kn, rn, hb⟩ := hcut
      clear HMK hcur hcu0 eN0 hTA hTB
      have s18 := hb.size
      have K2_18 := Lib.hid (K2_17.out.below hb (show w.heap.size < W17.heap.size by omega))
      have K3_18 := Lib.hid (K3_17.out.below hb (show w.heap.size + 1 < W17.heap.size by omega))
      have K6_18 := Lib.hid (K6_17.out.below hb (show b6 < W17.heap.size by omega))
      have K7_18 := Lib.hid (K7_17.out.below hb (show W4.heap.size < W17.heap.size by omega))
      have K8_18 := Lib.hid (K8_17.out.below hb (show W6.heap.size < W17.heap.size by omega))
      have K9_18 := Lib.hid (K9_17.out.below hb (show W8.heap.size < W17.heap.size by omega))
      have RW_18 := Lib.hid (RW_17.out.below hb (show W3.heap.size ≤ W17.heap.size by omega))
      have RM_18 := Lib.hid (RM_17.out.below hb (show W8.heap.size ≤ W17.heap.size by omega))
      have HB_18 := Lib.hid (HB_17.out.trans (hb.mono (show w.heap.size ≤ W17.heap.size by omega)))
      clear K2_17 K3_17 K6_17 K7_17 K8_17 K9_17 RW_17 RM_17 HB_17 hb
      have K13_18 := Lib.hid kn
      have RH_18 := Lib.hid rn
      clear kn rn
      obtain ⟨x20, x21, x22, x23, x24, x25, _, _, _, _, _, _, x2lt⟩ := K2_18.out
      obtain ⟨x30, x31, x32, _, _, _, x3lt⟩ := K3_18.out
      obtain ⟨x60, x61, x62, x63, x64, x65, _, _, _, _, _, _, x6lt⟩ := K6_18.out
      obtain ⟨x70, x71, x72, x73, x74, x75, _, _, _, _, _, _, x7lt⟩ := K7_18.out
      obtain ⟨x80, x81, x82, _, _, _, x8lt⟩ := K8_18.out
      obtain ⟨x90, x91, x92, x93, x94, x95, _, _, _, _, _, _, x9lt⟩ := K9_18.out
      obtain ⟨x130, x131, x132, x133, x134, x135, _, _, _, _, _, _, x13lt⟩ := K13_18.out
      go_wp2_with fail
      refine (eqS_same pr pc AH AW cH cW ps pr pc BH BW dH dW qs W18 (RH_18.out.sl1.more (show W18.heap.size ≤ W18.heap.size by omega)) (RW_18.out.sl1.more (show W3.heap.size ≤ W18.heap.size by omega)) (RH_18.out.sl2.more (show W18.heap.size ≤ W18.heap.size by omega)) (RW_18.out.sl2.more (show W3.heap.size ≤ W18.heap.size by omega)) (by omega) (by omega)).mono ?_
      rintro e W19 ⟨rfl, hb⟩
      clear x20 x21 x22 x23 x24 x25 x2lt x30 x31 x32 x3lt x60 x61 x62 x63 x64 x65 x6lt x70 x71 x72 x73 x74 x75 x7lt x80 x81 x82 x8lt x90 x91 x92 x93 x94 x95 x9lt x130 x131 x132 x133 x134 x135 x13lt
      have s19 := hb.size
      have K2_19 := Lib.hid (K2_18.out.below hb (show w.heap.size < W18.heap.size by omega))
      have K3_19 := Lib.hid (K3_18.out.below hb (show w.heap.size + 1 < W18.heap.size by omega))
      have K6_19 := Lib.hid (K6_18.out.below hb (show b6 < W18.heap.size by omega))
      have K7_19 := Lib.hid (K7_18.out.below hb (show W4.heap.size < W18.heap.size by omega))
      have K8_19 := Lib.hid (K8_18.out.below hb (show W6.heap.size < W18.heap.size by omega))
      have K9_19 := Lib.hid (K9_18.out.below hb (show W8.heap.size < W18.heap.size by omega))
      have K13_19 := Lib.hid (K13_18.out.below hb (show b13 < W18.heap.size by omega))
      have RW_19 := Lib.hid (RW_18.out.below hb (show W3.heap.size ≤ W18.heap.size by omega))
      have RM_19 := Lib.hid (RM_18.out.below hb (show W8.heap.size ≤ W18.heap.size by omega))
      have RH_19 := Lib.hid (RH_18.out.below hb (show W18.heap.size ≤ W18.heap.size by omega))
      have HB_19 := Lib.hid (HB_18.out.trans (hb.mono (show w.heap.size ≤ W18.heap.size by omega)))
      clear K2_18 K3_18 K6_18 K7_18 K8_18 K9_18 K13_18 RW_18 RM_18 RH_18 HB_18 hb
      obtain ⟨x20, x21, x22, x23, x24, x25, _, _, _, _, _, _, x2lt⟩ := K2_19.out
      obtain ⟨x30, x31, x32, _, _, _, x3lt⟩ := K3_19.out
      obtain ⟨x60, x61, x62, x63, x64, x65, _, _, _, _, _, _, x6lt⟩ := K6_19.out
      obtain ⟨x70, x71, x72, x73, x74, x75, _, _, _, _, _, _, x7lt⟩ := K7_19.out
      obtain ⟨x80, x81, x82, _, _, _, x8lt⟩ := K8_19.out
      obtain ⟨x90, x91, x92, x93, x94, x95, _, _, _, _, _, _, x9lt⟩ := K9_19.out
      obtain ⟨x130, x131, x132, x133, x134, x135, _, _, _, _, _, _, x13lt⟩ := K13_19.out
      go_wp2_with fail
      refine (heldS_same (W8.heap.size) pr pc AG cG ps.length pr pc BG dG qs.length 1 W19 RM_19.out.sl1 RM_19.out.sl2 (show W8.heap.size ≤ W19.heap.size by omega) (by omega) (by omega) (by omega) (by omega)).mono ?_
      rintro e W20 ⟨rfl, hb⟩
      clear x20 x21 x22 x23 x24 x25 x2lt x30 x31 x32 x3lt x60 x61 x62 x63 x64 x65 x6lt x70 x71 x72 x73 x74 x75 x7lt x80 x81 x82 x8lt x90 x91 x92 x93 x94 x95 x9lt x130 x131 x132 x133 x134 x135 x13lt
      have s20 := hb.size
      have K2_20 := Lib.hid (K2_19.out.below hb (show w.heap.size < W19.heap.size by omega))
      have K3_20 := Lib.hid (K3_19.out.below hb (show w.heap.size + 1 < W19.heap.size by omega))
      have K6_20 := Lib.hid (K6_19.out.below hb (show b6 < W19.heap.size by omega))
      have K7_20 := Lib.hid (K7_19.out.below hb (show W4.heap.size < W19.heap.size by omega))
      have K8_20 := Lib.hid (K8_19.out.below hb (show W6.heap.size < W19.heap.size by omega))
      have K9_20 := Lib.hid (K9_19.out.below hb (show W8.heap.size < W19.heap.size by omega))
      have K13_20 := Lib.hid (K13_19.out.below hb (show b13 < W19.heap.size by omega))
      have RW_20 := Lib.hid (RW_19.out.below hb (show W3.heap.size ≤ W19.heap.size by omega))
      have RM_20 := Lib.hid (RM_19.out.below hb (show W8.heap.size ≤ W19.heap.size by omega))
      have RH_20 := Lib.hid (RH_19.out.below hb (show W18.heap.size ≤ W19.heap.size by omega))
      have HB_20 := Lib.hid (HB_19.out.trans (hb.mono (show w.heap.size ≤ W19.heap.size by omega)))
      clear K2_19 K3_19 K6_19 K7_19 K8_19 K9_19 K13_19 RW_19 RM_19 RH_19 HB_19 hb
      obtain ⟨x20, x21, x22, x23, x24, x25, _, _, _, _, _, _, x2lt⟩ := K2_20.out
      obtain ⟨x30, x31, x32, _, _, _, x3lt⟩ := K3_20.out
      obtain ⟨x60, x61, x62, x63, x64, x65, _, _, _, _, _, _, x6lt⟩ := K6_20.out
      obtain ⟨x70, x71, x72, x73, x74, x75, _, _, _, _, _, _, x7lt⟩ := K7_20.out
      obtain ⟨x80, x81, x82, _, _, _, x8lt⟩ := K8_20.out
      obtain ⟨x90, x91, x92, x93, x94, x95, _, _, _, _, _, _, x9lt⟩ := K9_20.out
      obtain ⟨x130, x131, x132, x133, x134, x135, _, _, _, _, _, _, x13lt⟩ := K13_20.out
      go_wp2
      go_ret
      exact ⟨rfl, HB_20.out⟩
end Go.Proofs.Ytakjmdjjpalaiaa
