/- Contracts: sums and differences of matrices, the reference's. (Printed by gen_R2.py.) -/
import Derived.Test.YtilmglockldddaaMatS2
import Derived.Test.YtilmglockldddaaApp1
import Derived.Test.YtilmglockldddaaPlainG
namespace Go.Proofs.Ytilmglockldddaa
open Go.RowKit

theorem tmod_small (x : Int) : -4096 < Int.tmod x 4096 ∧ Int.tmod x 4096 < 4096 := by
  have h1 := Int.tmod_lt_of_pos x (show (0 : Int) < 4096 by omega)
  have h2 := Int.lt_tmod_of_pos x (show (0 : Int) < 4096 by omega)
  omega
theorem tmod_ring (x : Int) : Int.tmod (Int.tmod x 4096 + 4096) 4096 = x % 4096 := by
  have h := tmod_small x
  have h1 : Int.tmod x 4096 = x - 4096 * Int.tdiv x 4096 := by have := Int.mul_tdiv_add_tmod x 4096; omega
  rw [Int.tmod_eq_emod_of_nonneg (by omega)]
  omega
theorem pairZ_take (f : Int → Int → Int) (xs ys : List Int) {k : Nat} (hk : k < xs.length) : (pairZ f xs ys).take (k + 1) = (pairZ f xs ys).take k ++ [f (xs.getD k 0) (ys.getD k 0)] := by
  rw [List.take_succ_eq_append_getElem (by rw [pairZ_len]; exact hk)]
  simp [pairZ]
theorem specSubRing (a b : Int) (w : World) (ha : 0 ≤ a ∧ a ≤ 4095) (hb : 0 ≤ b ∧ b ≤ 4095) : Calls Try.prog 72 #[.int .i64 a, .int .i64 b] w fun e w' => e = .returned (.int .i64 (subF a b)) ∧ w = w' := by
  have hr : 0 ≤ subF a b ∧ subF a b ≤ 4095 := by unfold subF; omega
  have hcall : Calls Try.prog 67 #[.int .i64 (a - b)] w fun e w' => e = .returned (.int .i64 (subF a b)) ∧ w = w' := by
    have e1 : Int.tmod (Int.tmod (a - b) 4096 + 4096) 4096 = subF a b := tmod_ring _
    obtain ⟨y, hy⟩ : ∃ y, subF a b = y := ⟨_, rfl⟩
    have h4 : -4096 < Int.tmod (a - b) 4096 ∧ Int.tmod (a - b) 4096 < 4096 := tmod_small _
    rw [hy] at e1 hr ⊢
    clear hy
    obtain ⟨x, hx⟩ : ∃ x, a - b = x := ⟨_, rfl⟩
    rw [hx] at e1 h4 ⊢
    have hxr : -4096 ≤ x ∧ x ≤ 8190 := by omega
    clear hx
    obtain ⟨q, hq⟩ : ∃ q, Int.tmod x 4096 = q := ⟨_, rfl⟩
    rw [hq] at e1 h4
    go_enter Try.func67, Try.ntmps67
    go_wp2
    go_ret
    exact ⟨rfl, rfl⟩
  obtain ⟨y, hy⟩ : ∃ y, subF a b = y := ⟨_, rfl⟩
  rw [hy] at hcall ⊢
  clear hy hr
  go_enter Try.func72, Try.ntmps72
  go_wp2_with fail
  refine (specRingValid_yes a w ha.1 ha.2).mono ?_
  rintro e w' ⟨rfl, rfl⟩
  go_wp2_with fail
  refine (specRingValid_yes b w hb.1 hb.2).mono ?_
  rintro e w' ⟨rfl, rfl⟩
  go_wp2_with fail
  refine hcall.mono ?_
  rintro e w' ⟨rfl, rfl⟩
  go_wp2
  go_ret
  exact ⟨rfl, rfl⟩
set_option maxRecDepth 20000 in
set_option maxHeartbeats 3200000 in
theorem specSub_yes (r c : Int) (A : Option Addr) (cap n B : Nat) (zs : List Int) (A2 : Option Addr) (cap2 n2 B2 : Nat) (ks : List Int) (w : World) (hs : Sl w B A zs) (hB : B ≤ w.heap.size) (e : n = zs.length) (hs2 : Sl w B2 A2 ks) (hB2 : B2 ≤ w.heap.size) (e2 : n2 = ks.length) (hm : OkM r c zs) (hm2 : OkM r c ks) :
    Calls Try.prog 57 #[matV r c (.slice A n cap), matV r c (.slice A2 n2 cap2)] w fun e w' => ∃ s, e = .returned (matV r c s) ∧ Row w' w.heap.size w'.heap.size s (pairZ subF zs ks) ∧ Below w.heap.size w w' := by
  subst e
  subst e2
  have hn := hm.len
  have hn2 := hm2.len
  have hlk : ks.length = zs.length := by have h1 := hm.2.2.1; have h2 := hm2.2.2.1; omega
  have HO := Lib.hid (show OkS r c zs r c ks from ⟨hm, hm2, rfl, rfl⟩)
  have HZ := Lib.hid fun p => getD_rng hm.2.2.2 p
  have HKZ := Lib.hid fun p => getD_rng hm2.2.2.2 p
  have hTS : Hid (∀ k, k < zs.length → (pairZ subF zs ks).take (k + 1) = (pairZ subF zs ks).take k ++ [subF (zs.getD k 0) (ks.getD k 0)]) := fun k hk => pairZ_take _ _ _ hk
  have hTL : Hid (∀ k, k ≤ zs.length → ((pairZ subF zs ks).take k).length = k) := fun k hk => by rw [List.length_take, pairZ_len]; omega
  have hFull : Hid ((pairZ subF zs ks).take zs.length = pairZ subF zs ks) := List.take_of_length_le (by rw [pairZ_len]; omega)
  have hT0 : Hid ((pairZ subF zs ks).take 0 = []) := rfl
  obtain ⟨T, hT⟩ : ∃ T : Nat → List Int, (fun k => (pairZ subF zs ks).take k) = T := ⟨_, rfl⟩
  have hTe : ∀ k, (pairZ subF zs ks).take k = T k := fun k => by rw [← hT]
  have HTF := Lib.hid (show T zs.length = pairZ subF zs ks from (hTe _).symm.trans hFull.out)
  have HTS := Lib.hid (show ∀ k, k < zs.length → T (k + 1) = T k ++ [subF (zs.getD k 0) (ks.getD k 0)] from fun k hk => by rw [← hTe, ← hTe]; exact hTS.out k hk)
  have HTL := Lib.hid (show ∀ k, k ≤ zs.length → (T k).length = k from fun k hk => by rw [← hTe]; exact hTL.out k hk)
  have HT0 := Lib.hid (show T 0 = [] from by rw [← hTe]; exact hT0.out)
  have HLK := Lib.hid hlk
  clear hT hTe hTS hTL hFull hT0 hlk hm hm2
  have q0 := ((Cell3.new (w) (.int .i64 r) (.int .i64 c) (.slice A zs.length cap) 33).alloc (.cells #[.int .i64 r, .int .i64 c, .slice A2 ks.length cap2] 33)).alloc (.cells #[.int .i64 0, .int .i64 0, .slice none 0 0] 33)
  have q1 := (Cell3.new (w.alloc (.cells #[.int .i64 r, .int .i64 c, .slice A zs.length cap] 33)) (.int .i64 r) (.int .i64 c) (.slice A2 ks.length cap2) 33).alloc (.cells #[.int .i64 0, .int .i64 0, .slice none 0 0] 33)
  have q2 := Cell3.new ((w.alloc (.cells #[.int .i64 r, .int .i64 c, .slice A zs.length cap] 33)).alloc (.cells #[.int .i64 r, .int .i64 c, .slice A2 ks.length cap2] 33)) (.int .i64 0) (.int .i64 0) (.slice none 0 0) 33
  have hb : Below w.heap.size w (((w.alloc (.cells #[.int .i64 r, .int .i64 c, .slice A zs.length cap] 33)).alloc (.cells #[.int .i64 r, .int .i64 c, .slice A2 ks.length cap2] 33)).alloc (.cells #[.int .i64 0, .int .i64 0, .slice none 0 0] 33)) := (((Below.refl _ _).alloc (Nat.le_refl _) _).alloc (by simp) _).alloc (by simp; omega) _
  have hsz : (((w.alloc (.cells #[.int .i64 r, .int .i64 c, .slice A zs.length cap] 33)).alloc (.cells #[.int .i64 r, .int .i64 c, .slice A2 ks.length cap2] 33)).alloc (.cells #[.int .i64 0, .int .i64 0, .slice none 0 0] 33)).heap.size = w.heap.size + 3 := by simp
  simp only [World.size_alloc] at q1 q2
  obtain ⟨W0, hW⟩ : ∃ W, ((w.alloc (.cells #[.int .i64 r, .int .i64 c, .slice A zs.length cap] 33)).alloc (.cells #[.int .i64 r, .int .i64 c, .slice A2 ks.length cap2] 33)).alloc (.cells #[.int .i64 0, .int .i64 0, .slice none 0 0] 33) = W := ⟨_, rfl⟩
  rw [hW] at q0 q1 q2 hb hsz
  have K0_0 := Lib.hid q0
  have K1_0 := Lib.hid q1
  have K2_0 := Lib.hid q2
  have Sa_0 := Lib.hid (hs.below hb hB)
  have Sk_0 := Lib.hid (hs2.below hb hB2)
  have HB_0 := Lib.hid hb
  clear hb q0 q1 q2 hs hs2
  go_enter Try.func57, Try.ntmps57
  obtain ⟨x00, x01, x02, xf00, xf01, xf02, x0lt⟩ := K0_0.out
  obtain ⟨x10, x11, x12, xf10, xf11, xf12, x1lt⟩ := K1_0.out
  obtain ⟨x20, x21, x22, xf20, xf21, xf22, x2lt⟩ := K2_0.out
  go_wp2_with fail
  refine (ownM_any r c A cap _ B zs W0 Sa_0.out (by omega) rfl (by omega)).mono ?_
  rintro e W1 ⟨sv1, rfl, hr, hb⟩
  obtain ⟨Ax, cx, rfl, hcp1, hcp2, _⟩ := hr.form
  have HCPx := Lib.hid (And.intro hcp1 hcp2)
  clear hcp1 hcp2
  clear x00 x01 x02 xf00 xf01 xf02 x0lt x10 x11 x12 xf10 xf11 xf12 x1lt x20 x21 x22 xf20 xf21 xf22 x2lt
  have s1 := hb.size
  have K0_1 := Lib.hid (K0_0.out.below hb (show w.heap.size < W0.heap.size by omega))
  have K1_1 := Lib.hid (K1_0.out.below hb (show w.heap.size + 1 < W0.heap.size by omega))
  have K2_1 := Lib.hid (K2_0.out.below hb (show w.heap.size + 1 + 1 < W0.heap.size by omega))
  have Sa_1 := Lib.hid (Sa_0.out.below hb (show B ≤ W0.heap.size by omega))
  have Sk_1 := Lib.hid (Sk_0.out.below hb (show B2 ≤ W0.heap.size by omega))
  have HB_1 := Lib.hid (HB_0.out.trans (hb.mono (show w.heap.size ≤ W0.heap.size by omega)))
  clear K0_0 K1_0 K2_0 Sa_0 Sk_0 HB_0 hb hW
  have Rx_1 := Lib.hid hr
  clear hr
  have K0_2 := Lib.hid (((K0_1.out.set0 (.int .i64 r)).set1 (.int .i64 c)).set2 (.slice Ax zs.length cx))
  have K1_2 := Lib.hid (((K1_1.out.far (a := ⟨w.heap.size, 0, none⟩) (show w.heap.size + 1 ≠ w.heap.size by omega) (.int .i64 r)).far (a := ⟨w.heap.size, 1, none⟩) (show w.heap.size + 1 ≠ w.heap.size by omega) (.int .i64 c)).far (a := ⟨w.heap.size, 2, none⟩) (show w.heap.size + 1 ≠ w.heap.size by omega) (.slice Ax zs.length cx))
  have K2_2 := Lib.hid (((K2_1.out.far (a := ⟨w.heap.size, 0, none⟩) (show w.heap.size + 1 + 1 ≠ w.heap.size by omega) (.int .i64 r)).far (a := ⟨w.heap.size, 1, none⟩) (show w.heap.size + 1 + 1 ≠ w.heap.size by omega) (.int .i64 c)).far (a := ⟨w.heap.size, 2, none⟩) (show w.heap.size + 1 + 1 ≠ w.heap.size by omega) (.slice Ax zs.length cx))
  have Rx_2 := Lib.hid (((Rx_1.out.grown (set_grown _ (w.heap.size) 0 (.int .i64 r)) (fun g e => by cases e; omega)).grown (set_grown _ (w.heap.size) 1 (.int .i64 c)) (fun g e => by cases e; omega)).grown (set_grown _ (w.heap.size) 2 (.slice Ax zs.length cx)) (fun g e => by cases e; omega))
  have Sa_2 := Lib.hid (((Sa_1.out.keep (w' := (W1.setCell ⟨w.heap.size, 0, none⟩ (.int .i64 r))) (fun p hp => World.cell?_setCell_other _ _ _ _ (fun e => by rw [← e] at hp; exact absurd (show w.heap.size < B from hp) (by omega)))).keep (w' := ((W1.setCell ⟨w.heap.size, 0, none⟩ (.int .i64 r)).setCell ⟨w.heap.size, 1, none⟩ (.int .i64 c))) (fun p hp => World.cell?_setCell_other _ _ _ _ (fun e => by rw [← e] at hp; exact absurd (show w.heap.size < B from hp) (by omega)))).keep (w' := (((W1.setCell ⟨w.heap.size, 0, none⟩ (.int .i64 r)).setCell ⟨w.heap.size, 1, none⟩ (.int .i64 c)).setCell ⟨w.heap.size, 2, none⟩ (.slice Ax zs.length cx))) (fun p hp => World.cell?_setCell_other _ _ _ _ (fun e => by rw [← e] at hp; exact absurd (show w.heap.size < B from hp) (by omega))))
  have Sk_2 := Lib.hid (((Sk_1.out.keep (w' := (W1.setCell ⟨w.heap.size, 0, none⟩ (.int .i64 r))) (fun p hp => World.cell?_setCell_other _ _ _ _ (fun e => by rw [← e] at hp; exact absurd (show w.heap.size < B2 from hp) (by omega)))).keep (w' := ((W1.setCell ⟨w.heap.size, 0, none⟩ (.int .i64 r)).setCell ⟨w.heap.size, 1, none⟩ (.int .i64 c))) (fun p hp => World.cell?_setCell_other _ _ _ _ (fun e => by rw [← e] at hp; exact absurd (show w.heap.size < B2 from hp) (by omega)))).keep (w' := (((W1.setCell ⟨w.heap.size, 0, none⟩ (.int .i64 r)).setCell ⟨w.heap.size, 1, none⟩ (.int .i64 c)).setCell ⟨w.heap.size, 2, none⟩ (.slice Ax zs.length cx))) (fun p hp => World.cell?_setCell_other _ _ _ _ (fun e => by rw [← e] at hp; exact absurd (show w.heap.size < B2 from hp) (by omega))))
  have HB_2 := Lib.hid (((HB_1.out.setCell (p := ⟨w.heap.size, 0, none⟩) (show w.heap.size ≤ w.heap.size by omega) (.int .i64 r)).setCell (p := ⟨w.heap.size, 1, none⟩) (show w.heap.size ≤ w.heap.size by omega) (.int .i64 c)).setCell (p := ⟨w.heap.size, 2, none⟩) (show w.heap.size ≤ w.heap.size by omega) (.slice Ax zs.length cx))
  have z2 : (((W1.setCell ⟨w.heap.size, 0, none⟩ (.int .i64 r)).setCell ⟨w.heap.size, 1, none⟩ (.int .i64 c)).setCell ⟨w.heap.size, 2, none⟩ (.slice Ax zs.length cx)).heap.size = W1.heap.size := by simp
  obtain ⟨x00, x01, x02, xf00, xf01, xf02, x0lt⟩ := K0_1.out
  obtain ⟨x10, x11, x12, xf10, xf11, xf12, x1lt⟩ := K1_1.out
  obtain ⟨x20, x21, x22, xf20, xf21, xf22, x2lt⟩ := K2_1.out
  go_wp2_with fail
  obtain ⟨W2, hW2⟩ : ∃ W, (((W1.setCell ⟨w.heap.size, 0, none⟩ (.int .i64 r)).setCell ⟨w.heap.size, 1, none⟩ (.int .i64 c)).setCell ⟨w.heap.size, 2, none⟩ (.slice Ax zs.length cx)) = W := ⟨_, rfl⟩
  rw [hW2] at K0_2 K1_2 K2_2 Rx_2 Sa_2 Sk_2 HB_2 z2 ⊢
  clear x00 x01 x02 xf00 xf01 xf02 x0lt x10 x11 x12 xf10 xf11 xf12 x1lt x20 x21 x22 xf20 xf21 xf22 x2lt
  clear hW2 K0_1 K1_1 K2_1 Rx_1 Sa_1 Sk_1 HB_1
  refine (ownM_any r c A2 cap2 _ B2 ks W2 Sk_2.out (by omega) rfl (by omega)).mono ?_
  rintro e W3 ⟨sv3, rfl, hr, hb⟩
  obtain ⟨Ay, cy, rfl, hcp1, hcp2, _⟩ := hr.form
  have HCPy := Lib.hid (And.intro hcp1 hcp2)
  clear hcp1 hcp2
  have s3 := hb.size
  have K0_3 := Lib.hid (K0_2.out.below hb (show w.heap.size < W2.heap.size by omega))
  have K1_3 := Lib.hid (K1_2.out.below hb (show w.heap.size + 1 < W2.heap.size by omega))
  have K2_3 := Lib.hid (K2_2.out.below hb (show w.heap.size + 1 + 1 < W2.heap.size by omega))
  have Rx_3 := Lib.hid (Rx_2.out.below hb (show W1.heap.size ≤ W2.heap.size by omega))
  have Sa_3 := Lib.hid (Sa_2.out.below hb (show B ≤ W2.heap.size by omega))
  have Sk_3 := Lib.hid (Sk_2.out.below hb (show B2 ≤ W2.heap.size by omega))
  have HB_3 := Lib.hid (HB_2.out.trans (hb.mono (show w.heap.size ≤ W2.heap.size by omega)))
  clear K0_2 K1_2 K2_2 Rx_2 Sa_2 Sk_2 HB_2 hb
  have Ry_3 := Lib.hid hr
  clear hr
  have K0_4 := Lib.hid (((K0_3.out.far (a := ⟨w.heap.size + 1, 0, none⟩) (show w.heap.size ≠ w.heap.size + 1 by omega) (.int .i64 r)).far (a := ⟨w.heap.size + 1, 1, none⟩) (show w.heap.size ≠ w.heap.size + 1 by omega) (.int .i64 c)).far (a := ⟨w.heap.size + 1, 2, none⟩) (show w.heap.size ≠ w.heap.size + 1 by omega) (.slice Ay ks.length cy))
  have K1_4 := Lib.hid (((K1_3.out.set0 (.int .i64 r)).set1 (.int .i64 c)).set2 (.slice Ay ks.length cy))
  have K2_4 := Lib.hid (((K2_3.out.far (a := ⟨w.heap.size + 1, 0, none⟩) (show w.heap.size + 1 + 1 ≠ w.heap.size + 1 by omega) (.int .i64 r)).far (a := ⟨w.heap.size + 1, 1, none⟩) (show w.heap.size + 1 + 1 ≠ w.heap.size + 1 by omega) (.int .i64 c)).far (a := ⟨w.heap.size + 1, 2, none⟩) (show w.heap.size + 1 + 1 ≠ w.heap.size + 1 by omega) (.slice Ay ks.length cy))
  have Rx_4 := Lib.hid (((Rx_3.out.grown (set_grown _ (w.heap.size + 1) 0 (.int .i64 r)) (fun g e => by cases e; omega)).grown (set_grown _ (w.heap.size + 1) 1 (.int .i64 c)) (fun g e => by cases e; omega)).grown (set_grown _ (w.heap.size + 1) 2 (.slice Ay ks.length cy)) (fun g e => by cases e; omega))
  have Ry_4 := Lib.hid (((Ry_3.out.grown (set_grown _ (w.heap.size + 1) 0 (.int .i64 r)) (fun g e => by cases e; omega)).grown (set_grown _ (w.heap.size + 1) 1 (.int .i64 c)) (fun g e => by cases e; omega)).grown (set_grown _ (w.heap.size + 1) 2 (.slice Ay ks.length cy)) (fun g e => by cases e; omega))
  have Sa_4 := Lib.hid (((Sa_3.out.keep (w' := (W3.setCell ⟨w.heap.size + 1, 0, none⟩ (.int .i64 r))) (fun p hp => World.cell?_setCell_other _ _ _ _ (fun e => by rw [← e] at hp; exact absurd (show w.heap.size + 1 < B from hp) (by omega)))).keep (w' := ((W3.setCell ⟨w.heap.size + 1, 0, none⟩ (.int .i64 r)).setCell ⟨w.heap.size + 1, 1, none⟩ (.int .i64 c))) (fun p hp => World.cell?_setCell_other _ _ _ _ (fun e => by rw [← e] at hp; exact absurd (show w.heap.size + 1 < B from hp) (by omega)))).keep (w' := (((W3.setCell ⟨w.heap.size + 1, 0, none⟩ (.int .i64 r)).setCell ⟨w.heap.size + 1, 1, none⟩ (.int .i64 c)).setCell ⟨w.heap.size + 1, 2, none⟩ (.slice Ay ks.length cy))) (fun p hp => World.cell?_setCell_other _ _ _ _ (fun e => by rw [← e] at hp; exact absurd (show w.heap.size + 1 < B from hp) (by omega))))
  have Sk_4 := Lib.hid (((Sk_3.out.keep (w' := (W3.setCell ⟨w.heap.size + 1, 0, none⟩ (.int .i64 r))) (fun p hp => World.cell?_setCell_other _ _ _ _ (fun e => by rw [← e] at hp; exact absurd (show w.heap.size + 1 < B2 from hp) (by omega)))).keep (w' := ((W3.setCell ⟨w.heap.size + 1, 0, none⟩ (.int .i64 r)).setCell ⟨w.heap.size + 1, 1, none⟩ (.int .i64 c))) (fun p hp => World.cell?_setCell_other _ _ _ _ (fun e => by rw [← e] at hp; exact absurd (show w.heap.size + 1 < B2 from hp) (by omega)))).keep (w' := (((W3.setCell ⟨w.heap.size + 1, 0, none⟩ (.int .i64 r)).setCell ⟨w.heap.size + 1, 1, none⟩ (.int .i64 c)).setCell ⟨w.heap.size + 1, 2, none⟩ (.slice Ay ks.length cy))) (fun p hp => World.cell?_setCell_other _ _ _ _ (fun e => by rw [← e] at hp; exact absurd (show w.heap.size + 1 < B2 from hp) (by omega))))
  have HB_4 := Lib.hid (((HB_3.out.setCell (p := ⟨w.heap.size + 1, 0, none⟩) (show w.heap.size ≤ w.heap.size + 1 by omega) (.int .i64 r)).setCell (p := ⟨w.heap.size + 1, 1, none⟩) (show w.heap.size ≤ w.heap.size + 1 by omega) (.int .i64 c)).setCell (p := ⟨w.heap.size + 1, 2, none⟩) (show w.heap.size ≤ w.heap.size + 1 by omega) (.slice Ay ks.length cy))
  have z4 : (((W3.setCell ⟨w.heap.size + 1, 0, none⟩ (.int .i64 r)).setCell ⟨w.heap.size + 1, 1, none⟩ (.int .i64 c)).setCell ⟨w.heap.size + 1, 2, none⟩ (.slice Ay ks.length cy)).heap.size = W3.heap.size := by simp
  obtain ⟨x00, x01, x02, xf00, xf01, xf02, x0lt⟩ := K0_3.out
  obtain ⟨x10, x11, x12, xf10, xf11, xf12, x1lt⟩ := K1_3.out
  obtain ⟨x20, x21, x22, xf20, xf21, xf22, x2lt⟩ := K2_3.out
  go_wp2_with fail
  obtain ⟨W4, hW4⟩ : ∃ W, (((W3.setCell ⟨w.heap.size + 1, 0, none⟩ (.int .i64 r)).setCell ⟨w.heap.size + 1, 1, none⟩ (.int .i64 c)).setCell ⟨w.heap.size + 1, 2, none⟩ (.slice Ay ks.length cy)) = W := ⟨_, rfl⟩
  rw [hW4] at K0_4 K1_4 K2_4 Rx_4 Ry_4 Sa_4 Sk_4 HB_4 z4 ⊢
  clear x00 x01 x02 xf00 xf01 xf02 x0lt x10 x11 x12 xf10 xf11 xf12 x1lt x20 x21 x22 xf20 xf21 xf22 x2lt
  clear hW4 K0_3 K1_3 K2_3 Rx_3 Ry_3 Sa_3 Sk_3 HB_3
  refine (l3Like_any r c Ax cx _ W4.heap.size zs r c Ay cy _ W4.heap.size ks W4 (Rx_4.out.sl_now.more (show W1.heap.size ≤ W4.heap.size by omega)) (Nat.le_refl _) rfl (by omega) (Ry_4.out.sl_now.more (show W3.heap.size ≤ W4.heap.size by omega)) (Nat.le_refl _) rfl (by omega) true ⟨fun _ => HO.out, fun _ => rfl⟩).mono ?_
  rintro e W5 ⟨rfl, hb⟩
  have s5 := hb.size
  have K0_5 := Lib.hid (K0_4.out.below hb (show w.heap.size < W4.heap.size by omega))
  have K1_5 := Lib.hid (K1_4.out.below hb (show w.heap.size + 1 < W4.heap.size by omega))
  have K2_5 := Lib.hid (K2_4.out.below hb (show w.heap.size + 1 + 1 < W4.heap.size by omega))
  have Rx_5 := Lib.hid (Rx_4.out.below hb (show W1.heap.size ≤ W4.heap.size by omega))
  have Ry_5 := Lib.hid (Ry_4.out.below hb (show W3.heap.size ≤ W4.heap.size by omega))
  have Sa_5 := Lib.hid (Sa_4.out.below hb (show B ≤ W4.heap.size by omega))
  have Sk_5 := Lib.hid (Sk_4.out.below hb (show B2 ≤ W4.heap.size by omega))
  have HB_5 := Lib.hid (HB_4.out.trans (hb.mono (show w.heap.size ≤ W4.heap.size by omega)))
  clear K0_4 K1_4 K2_4 Rx_4 Ry_4 Sa_4 Sk_4 HB_4 hb
  have SX_5 := Lib.hid (Rx_5.out.sl_now.more (show W1.heap.size ≤ W5.heap.size by omega))
  have SY_5 := Lib.hid (Ry_5.out.sl_now.more (show W3.heap.size ≤ W5.heap.size by omega))
  clear Rx_5 Ry_5 Sa_5 Sk_5
  obtain ⟨x00, x01, x02, xf00, xf01, xf02, x0lt⟩ := K0_5.out
  obtain ⟨x10, x11, x12, xf10, xf11, xf12, x1lt⟩ := K1_5.out
  obtain ⟨x20, x21, x22, xf20, xf21, xf22, x2lt⟩ := K2_5.out
  have kn := Cell3.new W5 (.int .i64 r) (.int .i64 c) (.slice none 0 0) 33
  obtain ⟨W6, hW6⟩ : ∃ W, W5.alloc (.cells #[.int .i64 r, .int .i64 c, .slice none 0 0] 33) = W := ⟨_, rfl⟩
  rw [hW6] at kn
  have z6 : W6.heap.size = W5.heap.size + 1 := by rw [← hW6]; simp
  have hal : Below W5.heap.size W5 W6 := hW6 ▸ (Below.refl _ _).alloc (Nat.le_refl _) _
  have s6 := hal.size
  have K0_6 := Lib.hid (K0_5.out.below hal (show w.heap.size < W5.heap.size by omega))
  have K1_6 := Lib.hid (K1_5.out.below hal (show w.heap.size + 1 < W5.heap.size by omega))
  have K2_6 := Lib.hid (K2_5.out.below hal (show w.heap.size + 1 + 1 < W5.heap.size by omega))
  have SX_6 := Lib.hid (SX_5.out.below hal (show W5.heap.size ≤ W5.heap.size by omega))
  have SY_6 := Lib.hid (SY_5.out.below hal (show W5.heap.size ≤ W5.heap.size by omega))
  have HB_6 := Lib.hid (HB_5.out.trans (hal.mono (show w.heap.size ≤ W5.heap.size by omega)))
  clear K0_5 K1_5 K2_5 SX_5 SY_5 HB_5 hal
  have K5_6 := Lib.hid kn
  clear kn
  obtain ⟨x50, x51, x52, xf50, xf51, xf52, x5lt⟩ := K5_6.out
  go_wp2
  clear x00 x01 x02 xf00 xf01 xf02 x0lt x10 x11 x12 xf10 xf11 xf12 x1lt x20 x21 x22 xf20 xf21 xf22 x2lt x50 x51 x52 xf50 xf51 xf52 x5lt
  have hord : w.heap.size + 3 ≤ W5.heap.size := by omega
  go_loopw [6] (fun i wr => ∃ (k : Nat) (sv : Value), k ≤ zs.length ∧ i = .int .i64 k ∧ Cell3 wr W5.heap.size (.int .i64 r) (.int .i64 c) sv ∧ Row wr W6.heap.size wr.heap.size sv (T k) ∧ Cell3 wr w.heap.size (.int .i64 r) (.int .i64 c) (.slice Ax zs.length cx) ∧ Cell3 wr (w.heap.size + 1) (.int .i64 r) (.int .i64 c) (.slice Ay ks.length cy) ∧ Cell3 wr (w.heap.size + 1 + 1) (.int .i64 0) (.int .i64 0) (.slice none 0 0) ∧ Sl wr W5.heap.size Ax zs ∧ Sl wr W5.heap.size Ay ks ∧ Below w.heap.size w wr ∧ W6.heap.size ≤ wr.heap.size) (fun i _ => zs.length - (intOf i).toNat)
  case atStart => exact ⟨0, _, Nat.zero_le _, rfl, K5_6.out.set2 _, by rw [HT0.out]; exact Row.nil_ _ _ _, K0_6.out.far (a := ⟨W5.heap.size, 2, none⟩) (show w.heap.size ≠ W5.heap.size by omega) _, K1_6.out.far (a := ⟨W5.heap.size, 2, none⟩) (show w.heap.size + 1 ≠ W5.heap.size by omega) _, K2_6.out.far (a := ⟨W5.heap.size, 2, none⟩) (show w.heap.size + 1 + 1 ≠ W5.heap.size by omega) _, SX_6.out.keep (fun p hp => World.cell?_setCell_other _ _ _ _ (fun e => by rw [← e] at hp; exact absurd (show W5.heap.size < W5.heap.size from hp) (by omega))), SY_6.out.keep (fun p hp => World.cell?_setCell_other _ _ _ _ (fun e => by rw [← e] at hp; exact absurd (show W5.heap.size < W5.heap.size from hp) (by omega))), HB_6.out.setCell (p := ⟨W5.heap.size, 2, none⟩) (show w.heap.size ≤ W5.heap.size by omega) _, by simp⟩
  case round =>
    obtain ⟨k, sv, hk, rfl, h5, hrow, h0, h2, h1, hsl, hslk, hbel, hsz⟩ := hrel
    obtain ⟨As, cs, hsve, _, _, _⟩ := hrow.form
    rw [HTL.out k hk] at hsve
    subst hsve
    by_cases hlt : k < zs.length
    · have HT := Lib.hid (HTS.out k hlt)
      obtain ⟨b, off, hA2, hbX, hca⟩ := hsl.at_ hlt
      subst hA2
      obtain ⟨bk, offk, hA3, hbkX, hck⟩ := hslk.at_ (show k < ks.length by rw [HLK.out]; exact hlt)
      subst hA3
      have hsc := Lib.hid fun wx => specSubRing (zs.getD k 0) (ks.getD k 0) wx (HZ.out k) (HKZ.out k)
      obtain ⟨xa, hxa⟩ : ∃ x, zs.getD k 0 = x := ⟨_, rfl⟩
      obtain ⟨xb, hxb⟩ : ∃ x, ks.getD k 0 = x := ⟨_, rfl⟩
      rw [hxa] at hca HT hsc
      rw [hxb] at hck HT hsc
      obtain ⟨z, hz⟩ : ∃ z, subF xa xb = z := ⟨_, rfl⟩
      rw [hz] at HT hsc
      clear hxa hxb hz
      obtain ⟨ys, hys⟩ : ∃ ys, T k = ys := ⟨_, rfl⟩
      have hylen : ys.length = k := by rw [← hys]; exact HTL.out k hk
      rw [hys] at HT hrow
      clear hys
      have hkN : (k : Int) < (zs.length : Int) := by omega
      have hkK : (k : Int) < (ks.length : Int) := by rw [HLK.out]; omega
      have HROW := Lib.hid hrow
      have HSL := Lib.hid hsl
      have HKL := Lib.hid hslk
      have HBEL := Lib.hid hbel
      have H5 := Lib.hid h5
      have H0 := Lib.hid h0
      have H1 := Lib.hid h1
      have H2 := Lib.hid h2
      have HYL := Lib.hid hylen
      have hbl := Lib.hid hrow.block_lt
      have hbz : b < wr.heap.size ∧ bk < wr.heap.size := by omega
      clear hrow hsl hslk hbel hylen h5 h0 h1 h2
      
      have hal := World.grownBy_alloc wr (.cells #[.int .i64 z] 3) none
      have hownA := (HROW.out.grown hal (fun g e => by cases e)).wider (Nat.le_refl _) (hi' := wr.heap.size + 1) (by omega)
      have hD : Drew (wr.alloc (.cells #[.int .i64 z] 3)) (wr.alloc (.cells #[.int .i64 z] 3)).drew := ⟨1, rfl⟩
      have hownD := hD.row hownA
      have H5A := Lib.hid ((H5.out.grown hal (by simp)).grown (hD.grown none) (by simp))
      have H0A := Lib.hid ((H0.out.grown hal (by simp)).grown (hD.grown none) (by simp))
      have H1A := Lib.hid ((H1.out.grown hal (by simp)).grown (hD.grown none) (by simp))
      have HSA := Lib.hid (hD.sl (HSL.out.below (B' := wr.heap.size) ((Below.refl _ wr).alloc (Nat.le_refl _) (.cells #[.int .i64 z] 3)) (by omega)))
      have HBA := Lib.hid ((HBEL.out.alloc (by omega) (.cells #[.int .i64 z] 3)).trans (hD.below _))
      have hcz : (wr.alloc (.cells #[.int .i64 z] 3)).drew.cell? ⟨wr.heap.size, 0, none⟩ = some (.int .i64 z) := World.cell?_alloc_at _ _ _ _ rfl
      have hne : ∀ b, b < W6.heap.size → some b ≠ (Value.slice As k cs).ownBlock := fun b hb e => by have := (hbl.out b e.symm).1; omega
      have HNE := Lib.hid hne
      obtain ⟨hx50, hx51, hx52, _, _, _, _⟩ := H5A.out
      obtain ⟨hx00, hx01, hx02, _, _, _, _⟩ := H0A.out
      have H2A := Lib.hid ((H2.out.grown hal (by simp)).grown (hD.grown none) (by simp))
      have HKA := Lib.hid (hD.sl (HKL.out.below (B' := wr.heap.size) ((Below.refl _ wr).alloc (Nat.le_refl _) (.cells #[.int .i64 z] 3)) (by omega)))
      obtain ⟨v0, v1, v2, _, _, _, vlt⟩ := H5.out
      obtain ⟨u0, u1, u2, _, _, _, ult⟩ := H0.out
      obtain ⟨y0', y1', y2', _, _, _, ylt'⟩ := H2.out
      have hcaA := hal.cell hca (by simp)
      have hckA := hal.cell hck (by simp)
      have hu2A := hal.cell u2 (by simp)
      have hy2A := hal.cell y2' (by simp)
      clear hal hD hne
      go_wp2
      refine wp_region_held_drew (S := (fun w' => w'.cell? ⟨b, off + k, none⟩ = some (.int .i64 xa) ∧ w'.cell? ⟨bk, offk + k, none⟩ = some (.int .i64 xb) ∧ w'.cell? ⟨w.heap.size, 2, none⟩ = some (.slice (some ⟨b, off, none⟩) zs.length cx) ∧ w'.cell? ⟨w.heap.size + 1, 2, none⟩ = some (.slice (some ⟨bk, offk, none⟩) ks.length cy))) (by kernel_rfl) ⟨hca, hck, u2, y2'⟩ (fun hHeld => ?_)
      refine wpAnyH_take (i := 0) (oi := { dst := some 28, op := Op.fieldAddr 33 (Operand.tmp 5) 2, type := 0, pos := "l3_matrices.go:43", after := #[], guard := none }) (v := ?_) rfl (by kernel_rfl) (by kernel_rfl) (by kernel_rfl) (fun _ _ _ h => h) (Or.inl ⟨by rfl, ?_⟩) (by assumption) ?_
      rotate_left
      · intro w hSw
        (try dsimp only at hSw)
        go_simp
        (try (with_reducible rfl))
      (try simp only [Act.put, List.setIfInBounds_toArray, List.set_cons_zero, List.set_cons_succ])
      refine wpAnyH_take (i := 2) (oi := { dst := some 30, op := Op.fieldAddr 33 (Operand.tmp 2) 2, type := 0, pos := "l3_matrices.go:43", after := #[], guard := none }) (v := ?_) rfl (by kernel_rfl) (by kernel_rfl) (by kernel_rfl) (fun _ _ _ h => h) (Or.inl ⟨by rfl, ?_⟩) (by assumption) ?_
      rotate_left
      · intro w hSw
        (try dsimp only at hSw)
        go_simp
        (try (with_reducible rfl))
      (try simp only [Act.put, List.setIfInBounds_toArray, List.set_cons_zero, List.set_cons_succ])
      refine wpAnyH_take (i := 3) (oi := { dst := some 31, op := Op.load 22 (Operand.tmp 30), type := 22, pos := "l3_matrices.go:43", after := #[{ on := 2, ground := Ground.data }], guard := none }) (v := ?_) rfl (by kernel_rfl) (by kernel_rfl) (by kernel_rfl) (fun _ _ _ h => h) (Or.inl ⟨by rfl, ?_⟩) (by assumption) ?_
      rotate_left
      · intro w hSw
        (try dsimp only at hSw)
        go_simp
        (try (with_reducible rfl))
      (try simp only [Act.put, List.setIfInBounds_toArray, List.set_cons_zero, List.set_cons_succ])
      refine wpAnyH_take (i := 4) (oi := { dst := some 32, op := Op.move (Operand.tmp 6), type := 3, pos := "l3_matrices.go:43", after := #[], guard := none }) (v := ?_) rfl (by kernel_rfl) (by kernel_rfl) (by kernel_rfl) (fun _ _ _ h => h) (Or.inl ⟨by rfl, ?_⟩) (by assumption) ?_
      rotate_left
      · intro w hSw
        (try dsimp only at hSw)
        go_simp
        (try (with_reducible rfl))
      (try simp only [Act.put, List.setIfInBounds_toArray, List.set_cons_zero, List.set_cons_succ])
      refine wpAnyH_take (i := 5) (oi := { dst := some 33, op := Op.indexAddr 22 (Operand.tmp 31) (Operand.tmp 32), type := 0, pos := "l3_matrices.go:43", after := #[{ on := 3, ground := Ground.data }, { on := 4, ground := Ground.data }], guard := none }) (v := ?_) rfl (by kernel_rfl) (by kernel_rfl) (by kernel_rfl) (fun _ _ _ h => h) (Or.inl ⟨by rfl, ?_⟩) (by assumption) ?_
      rotate_left
      · intro w hSw
        (try dsimp only at hSw)
        go_simp
        (try (with_reducible rfl))
      (try simp only [Act.put, List.setIfInBounds_toArray, List.set_cons_zero, List.set_cons_succ])
      refine wpAnyH_take (i := 6) (oi := { dst := some 34, op := Op.load 3 (Operand.tmp 33), type := 3, pos := "l3_matrices.go:43", after := #[{ on := 5, ground := Ground.data }], guard := none }) (v := ?_) rfl (by kernel_rfl) (by kernel_rfl) (by kernel_rfl) (fun _ _ _ h => h) (Or.inl ⟨by rfl, ?_⟩) (by assumption) ?_
      rotate_left
      · intro w hSw
        (try dsimp only at hSw)
        go_simp
        (try (with_reducible rfl))
      (try simp only [Act.put, List.setIfInBounds_toArray, List.set_cons_zero, List.set_cons_succ])
      refine wpAnyH_take (i := 7) (oi := { dst := some 35, op := Op.fieldAddr 33 (Operand.tmp 3) 2, type := 0, pos := "l3_matrices.go:43", after := #[], guard := none }) (v := ?_) rfl (by kernel_rfl) (by kernel_rfl) (by kernel_rfl) (fun _ _ _ h => h) (Or.inl ⟨by rfl, ?_⟩) (by assumption) ?_
      rotate_left
      · intro w hSw
        (try dsimp only at hSw)
        go_simp
        (try (with_reducible rfl))
      (try simp only [Act.put, List.setIfInBounds_toArray, List.set_cons_zero, List.set_cons_succ])
      refine wpAnyH_take (i := 8) (oi := { dst := some 36, op := Op.load 22 (Operand.tmp 35), type := 22, pos := "l3_matrices.go:43", after := #[{ on := 7, ground := Ground.data }], guard := none }) (v := ?_) rfl (by kernel_rfl) (by kernel_rfl) (by kernel_rfl) (fun _ _ _ h => h) (Or.inl ⟨by rfl, ?_⟩) (by assumption) ?_
      rotate_left
      · intro w hSw
        (try dsimp only at hSw)
        go_simp
        (try (with_reducible rfl))
      (try simp only [Act.put, List.setIfInBounds_toArray, List.set_cons_zero, List.set_cons_succ])
      refine wpAnyH_take (i := 9) (oi := { dst := some 37, op := Op.move (Operand.tmp 6), type := 3, pos := "l3_matrices.go:43", after := #[], guard := none }) (v := ?_) rfl (by kernel_rfl) (by kernel_rfl) (by kernel_rfl) (fun _ _ _ h => h) (Or.inl ⟨by rfl, ?_⟩) (by assumption) ?_
      rotate_left
      · intro w hSw
        (try dsimp only at hSw)
        go_simp
        (try (with_reducible rfl))
      (try simp only [Act.put, List.setIfInBounds_toArray, List.set_cons_zero, List.set_cons_succ])
      refine wpAnyH_take (i := 10) (oi := { dst := some 38, op := Op.indexAddr 22 (Operand.tmp 36) (Operand.tmp 37), type := 0, pos := "l3_matrices.go:43", after := #[{ on := 8, ground := Ground.data }, { on := 9, ground := Ground.data }], guard := none }) (v := ?_) rfl (by kernel_rfl) (by kernel_rfl) (by kernel_rfl) (fun _ _ _ h => h) (Or.inl ⟨by rfl, ?_⟩) (by assumption) ?_
      rotate_left
      · intro w hSw
        (try dsimp only at hSw)
        go_simp
        (try (with_reducible rfl))
      (try simp only [Act.put, List.setIfInBounds_toArray, List.set_cons_zero, List.set_cons_succ])
      refine wpAnyH_take (i := 11) (oi := { dst := some 39, op := Op.load 3 (Operand.tmp 38), type := 3, pos := "l3_matrices.go:43", after := #[{ on := 10, ground := Ground.data }], guard := none }) (v := ?_) rfl (by kernel_rfl) (by kernel_rfl) (by kernel_rfl) (fun _ _ _ h => h) (Or.inl ⟨by rfl, ?_⟩) (by assumption) ?_
      rotate_left
      · intro w hSw
        (try dsimp only at hSw)
        go_simp
        (try (with_reducible rfl))
      (try simp only [Act.put, List.setIfInBounds_toArray, List.set_cons_zero, List.set_cons_succ])
      refine wpAnyH_ready (rs := [1, 12]) (by kernel_rfl) (by simp) ?_
      refine AllReadyH.cons (o := { dst := some 29, op := Op.load 22 (Operand.tmp 28), type := 22, pos := "l3_matrices.go:43", after := #[{ on := 0, ground := Ground.data }], guard := none }) rfl (fun K hK => ?_) (AllReadyH.cons (o := { dst := some 40, op := Op.call { callee := Callee.value (Operand.func 72), args := #[Operand.tmp 34, Operand.tmp 39], argTypes := #[3, 3] }, type := 3, pos := "l3_matrices.go:43", after := #[{ on := 6, ground := Ground.data }, { on := 11, ground := Ground.data }], guard := none }) rfl (fun K hK => ?_) AllReadyH.nil)
      · go_simp
        refine hK.out _ _ ⟨hca, hck, u2, y2'⟩ (fun hHeld => ?_)
        clear hK K
        (try simp only [Act.put, List.setIfInBounds_toArray, List.set_cons_zero, List.set_cons_succ])
        refine wpAnyH_ready (rs := [12]) (by kernel_rfl) (by simp) ?_
        refine AllReadyH.cons (o := { dst := some 40, op := Op.call { callee := Callee.value (Operand.func 72), args := #[Operand.tmp 34, Operand.tmp 39], argTypes := #[3, 3] }, type := 3, pos := "l3_matrices.go:43", after := #[{ on := 6, ground := Ground.data }, { on := 11, ground := Ground.data }], guard := none }) rfl (fun K hK => ?_) AllReadyH.nil
        (go_simp; go_at_call 72; refine (hsc.out _).mono ?_; rintro e w' ⟨rfl, rfl⟩)
        refine hK.out _ _ ⟨hca, hck, u2, y2'⟩ (fun hHeld => ?_)
        clear hK K
        (try simp only [Act.put, List.setIfInBounds_toArray, List.set_cons_zero, List.set_cons_succ])
        refine wpAnyH_ready (rs := [13]) (by kernel_rfl) (by simp) ?_
        refine AllReadyH.cons (o := { dst := some 41, op := Op.buildSlice 22 1 #[(0, Operand.tmp 40)], type := 22, pos := "l3_matrices.go:43", after := #[{ on := 12, ground := Ground.data }], guard := none }) rfl (fun K hK => ?_) AllReadyH.nil
        go_simp
        refine hK.out _ _ ⟨hcaA, hckA, hu2A, hy2A⟩ (fun hHeld => ?_)
        clear hK K
        (try simp only [Act.put, List.setIfInBounds_toArray, List.set_cons_zero, List.set_cons_succ])
        refine wpAnyH_ready (rs := [14]) (by kernel_rfl) (by simp) ?_
        refine AllReadyH.cons (o := { dst := some 42, op := Op.call { callee := Callee.builtin Builtin.append, args := #[Operand.tmp 29, Operand.tmp 41], argTypes := #[22, 22] }, type := 22, pos := "l3_matrices.go:43", after := #[{ on := 1, ground := Ground.data }, { on := 13, ground := Ground.data }, { on := 12, ground := Ground.chain }], guard := none }) rfl (fun K hK => ?_) AllReadyH.nil
        (refine step_app1 (by rfl) (.tmp 29) (.tmp 41) (by rfl) W6.heap.size (wr.heap.size + 1) (.slice As k cs) ys k (by rfl) hownD wr.heap.size z (by rfl) hcz HYL.out (by omega) (by simp; omega) ?_; intro g5 c5 w6 hr5 hg5 hat5 hlt5; have q0 := hg5.cell hcaA (HNE.out b (by omega)); have q1 := hg5.cell hckA (HNE.out bk (by omega)); have q2 := hg5.cell hu2A (HNE.out w.heap.size (by omega)); have q3 := hg5.cell hy2A (HNE.out (w.heap.size + 1) (by omega)); obtain ⟨y3, y4, y5, g3, g4, g5', ylt⟩ := H5A.out.grown hg5 (HNE.out W5.heap.size (by omega)))
        refine hK.out _ _ ⟨q0, q1, q2, q3⟩ (fun hHeld => ?_)
        clear hK K
        (try simp only [Act.put, List.setIfInBounds_toArray, List.set_cons_zero, List.set_cons_succ])
        refine wpAnyH_take (i := 15) (oi := { dst := some 43, op := Op.fieldAddr 33 (Operand.tmp 5) 2, type := 0, pos := "l3_matrices.go:43", after := #[{ on := 0, ground := Ground.phase }, { on := 1, ground := Ground.phase }, { on := 2, ground := Ground.phase }, { on := 3, ground := Ground.phase }, { on := 4, ground := Ground.phase }, { on := 5, ground := Ground.phase }, { on := 6, ground := Ground.phase }, { on := 7, ground := Ground.phase }, { on := 8, ground := Ground.phase }, { on := 9, ground := Ground.phase }, { on := 10, ground := Ground.phase }, { on := 11, ground := Ground.phase }, { on := 12, ground := Ground.phase }, { on := 13, ground := Ground.phase }, { on := 14, ground := Ground.phase }], guard := none }) (v := ?_) rfl (by kernel_rfl) (by kernel_rfl) (by kernel_rfl) (fun _ _ _ h => h) (Or.inl ⟨by rfl, ?_⟩) (by assumption) ?_
        rotate_left
        · intro w hSw
          (try dsimp only at hSw)
          go_simp
          (try (with_reducible rfl))
        (try simp only [Act.put, List.setIfInBounds_toArray, List.set_cons_zero, List.set_cons_succ])
        refine wpAnyH_ready (rs := [16]) (by kernel_rfl) (by simp) ?_
        refine AllReadyH.cons (o := { dst := none, op := Op.store 22 (Operand.tmp 43) (Operand.tmp 42), type := 0, pos := "l3_matrices.go:43", after := #[{ on := 15, ground := Ground.data }, { on := 14, ground := Ground.data }, { on := 14, ground := Ground.chain }, { on := 0, ground := Ground.phase }, { on := 1, ground := Ground.phase }, { on := 2, ground := Ground.phase }, { on := 3, ground := Ground.phase }, { on := 4, ground := Ground.phase }, { on := 5, ground := Ground.phase }, { on := 6, ground := Ground.phase }, { on := 7, ground := Ground.phase }, { on := 8, ground := Ground.phase }, { on := 9, ground := Ground.phase }, { on := 10, ground := Ground.phase }, { on := 11, ground := Ground.phase }, { on := 12, ground := Ground.phase }, { on := 13, ground := Ground.phase }, { on := 14, ground := Ground.phase }], guard := none }) rfl (fun K hK => ?_) AllReadyH.nil
        go_simp
        refine hK.out _ _ ⟨(World.cell?_setCell_other _ _ _ _ (by intro e; injection e with e1; exact absurd e1 (show ¬ W5.heap.size = b by omega))).trans q0, (World.cell?_setCell_other _ _ _ _ (by intro e; injection e with e1; exact absurd e1 (show ¬ W5.heap.size = bk by omega))).trans q1, (World.cell?_setCell_other _ _ _ _ (by intro e; injection e with e1; exact absurd e1 (show ¬ W5.heap.size = w.heap.size by omega))).trans q2, (World.cell?_setCell_other _ _ _ _ (by intro e; injection e with e1; exact absurd e1 (show ¬ W5.heap.size = w.heap.size + 1 by omega))).trans q3⟩ (fun hHeld => ?_)
        clear hK K
        (try simp only [Act.put, List.setIfInBounds_toArray, List.set_cons_zero, List.set_cons_succ])
        refine wpAnyH_done (by kernel_rfl) ?_ _
        have J5 := Lib.hid ((H5A.out.grown hg5 (HNE.out W5.heap.size (by omega))).set2 (.slice (some ⟨g5, 0, none⟩) (k + 1) c5))
        have J0 := Lib.hid ((H0A.out.grown hg5 (HNE.out _ (by omega))).far (a := ⟨W5.heap.size, 2, none⟩) (show w.heap.size ≠ W5.heap.size by omega) (.slice (some ⟨g5, 0, none⟩) (k + 1) c5))
        have J1 := Lib.hid ((H1A.out.grown hg5 (HNE.out _ (by omega))).far (a := ⟨W5.heap.size, 2, none⟩) (show w.heap.size + 1 + 1 ≠ W5.heap.size by omega) (.slice (some ⟨g5, 0, none⟩) (k + 1) c5))
        have JS := Lib.hid ((HSA.out.keep (w' := w6) (fun p hp => World.cell?_of_block (hg5.block _ (by simp; omega) (HNE.out _ (by omega))))).keep (w' := w6.setCell ⟨W5.heap.size, 2, none⟩ (.slice (some ⟨g5, 0, none⟩) (k + 1) c5)) (fun p hp => World.cell?_setCell_other _ _ _ _ (fun e => by rw [← e] at hp; exact absurd (show W5.heap.size < W5.heap.size from hp) (by omega))))
        have J2' := Lib.hid ((H2A.out.grown hg5 (HNE.out _ (by omega))).far (a := ⟨W5.heap.size, 2, none⟩) (show w.heap.size + 1 ≠ W5.heap.size by omega) (.slice (some ⟨g5, 0, none⟩) (k + 1) c5))
        have JK := Lib.hid ((HKA.out.keep (w' := w6) (fun p hp => World.cell?_of_block (hg5.block _ (by simp; omega) (HNE.out _ (by omega))))).keep (w' := w6.setCell ⟨W5.heap.size, 2, none⟩ (.slice (some ⟨g5, 0, none⟩) (k + 1) c5)) (fun p hp => World.cell?_setCell_other _ _ _ _ (fun e => by rw [← e] at hp; exact absurd (show W5.heap.size < W5.heap.size from hp) (by omega))))
        have JB := Lib.hid ((HBA.out.grown hg5 (by simp; omega) (fun g e => by have := (hbl.out g e).1; omega)).setCell (p := ⟨W5.heap.size, 2, none⟩) (show w.heap.size ≤ W5.heap.size by omega) (.slice (some ⟨g5, 0, none⟩) (k + 1) c5))
        have JR := Lib.hid (hr5.grown (set_grown w6 W5.heap.size 2 (.slice (some ⟨g5, 0, none⟩) (k + 1) c5)) (fun g e => by cases e; left; omega))
        have hsz5 := hg5.size
        clear hr5 hg5 hat5 q0 q1 q2 q3 y3 y4 y5
        go_wp2
        go_roundw
        case rel => exact ⟨k + 1, _, by omega, by go_num, J5.out, by rw [HT.out]; simpa using JR.out, J0.out, J2'.out, J1.out, JS.out, JK.out, JB.out, by simp at hsz5 ⊢; omega⟩
        case measure => simp [intOf]; omega
      · (go_simp; go_at_call 72; refine (hsc.out _).mono ?_; rintro e w' ⟨rfl, rfl⟩)
        refine hK.out _ _ ⟨hca, hck, u2, y2'⟩ (fun hHeld => ?_)
        clear hK K
        (try simp only [Act.put, List.setIfInBounds_toArray, List.set_cons_zero, List.set_cons_succ])
        refine wpAnyH_ready (rs := [1, 13]) (by kernel_rfl) (by simp) ?_
        refine AllReadyH.cons (o := { dst := some 29, op := Op.load 22 (Operand.tmp 28), type := 22, pos := "l3_matrices.go:43", after := #[{ on := 0, ground := Ground.data }], guard := none }) rfl (fun K hK => ?_) (AllReadyH.cons (o := { dst := some 41, op := Op.buildSlice 22 1 #[(0, Operand.tmp 40)], type := 22, pos := "l3_matrices.go:43", after := #[{ on := 12, ground := Ground.data }], guard := none }) rfl (fun K hK => ?_) AllReadyH.nil)
        · go_simp
          refine hK.out _ _ ⟨hca, hck, u2, y2'⟩ (fun hHeld => ?_)
          clear hK K
          (try simp only [Act.put, List.setIfInBounds_toArray, List.set_cons_zero, List.set_cons_succ])
          refine wpAnyH_ready (rs := [13]) (by kernel_rfl) (by simp) ?_
          refine AllReadyH.cons (o := { dst := some 41, op := Op.buildSlice 22 1 #[(0, Operand.tmp 40)], type := 22, pos := "l3_matrices.go:43", after := #[{ on := 12, ground := Ground.data }], guard := none }) rfl (fun K hK => ?_) AllReadyH.nil
          go_simp
          refine hK.out _ _ ⟨hcaA, hckA, hu2A, hy2A⟩ (fun hHeld => ?_)
          clear hK K
          (try simp only [Act.put, List.setIfInBounds_toArray, List.set_cons_zero, List.set_cons_succ])
          refine wpAnyH_ready (rs := [14]) (by kernel_rfl) (by simp) ?_
          refine AllReadyH.cons (o := { dst := some 42, op := Op.call { callee := Callee.builtin Builtin.append, args := #[Operand.tmp 29, Operand.tmp 41], argTypes := #[22, 22] }, type := 22, pos := "l3_matrices.go:43", after := #[{ on := 1, ground := Ground.data }, { on := 13, ground := Ground.data }, { on := 12, ground := Ground.chain }], guard := none }) rfl (fun K hK => ?_) AllReadyH.nil
          (refine step_app1 (by rfl) (.tmp 29) (.tmp 41) (by rfl) W6.heap.size (wr.heap.size + 1) (.slice As k cs) ys k (by rfl) hownD wr.heap.size z (by rfl) hcz HYL.out (by omega) (by simp; omega) ?_; intro g5 c5 w6 hr5 hg5 hat5 hlt5; have q0 := hg5.cell hcaA (HNE.out b (by omega)); have q1 := hg5.cell hckA (HNE.out bk (by omega)); have q2 := hg5.cell hu2A (HNE.out w.heap.size (by omega)); have q3 := hg5.cell hy2A (HNE.out (w.heap.size + 1) (by omega)); obtain ⟨y3, y4, y5, g3, g4, g5', ylt⟩ := H5A.out.grown hg5 (HNE.out W5.heap.size (by omega)))
          refine hK.out _ _ ⟨q0, q1, q2, q3⟩ (fun hHeld => ?_)
          clear hK K
          (try simp only [Act.put, List.setIfInBounds_toArray, List.set_cons_zero, List.set_cons_succ])
          refine wpAnyH_take (i := 15) (oi := { dst := some 43, op := Op.fieldAddr 33 (Operand.tmp 5) 2, type := 0, pos := "l3_matrices.go:43", after := #[{ on := 0, ground := Ground.phase }, { on := 1, ground := Ground.phase }, { on := 2, ground := Ground.phase }, { on := 3, ground := Ground.phase }, { on := 4, ground := Ground.phase }, { on := 5, ground := Ground.phase }, { on := 6, ground := Ground.phase }, { on := 7, ground := Ground.phase }, { on := 8, ground := Ground.phase }, { on := 9, ground := Ground.phase }, { on := 10, ground := Ground.phase }, { on := 11, ground := Ground.phase }, { on := 12, ground := Ground.phase }, { on := 13, ground := Ground.phase }, { on := 14, ground := Ground.phase }], guard := none }) (v := ?_) rfl (by kernel_rfl) (by kernel_rfl) (by kernel_rfl) (fun _ _ _ h => h) (Or.inl ⟨by rfl, ?_⟩) (by assumption) ?_
          rotate_left
          · intro w hSw
            (try dsimp only at hSw)
            go_simp
            (try (with_reducible rfl))
          (try simp only [Act.put, List.setIfInBounds_toArray, List.set_cons_zero, List.set_cons_succ])
          refine wpAnyH_ready (rs := [16]) (by kernel_rfl) (by simp) ?_
          refine AllReadyH.cons (o := { dst := none, op := Op.store 22 (Operand.tmp 43) (Operand.tmp 42), type := 0, pos := "l3_matrices.go:43", after := #[{ on := 15, ground := Ground.data }, { on := 14, ground := Ground.data }, { on := 14, ground := Ground.chain }, { on := 0, ground := Ground.phase }, { on := 1, ground := Ground.phase }, { on := 2, ground := Ground.phase }, { on := 3, ground := Ground.phase }, { on := 4, ground := Ground.phase }, { on := 5, ground := Ground.phase }, { on := 6, ground := Ground.phase }, { on := 7, ground := Ground.phase }, { on := 8, ground := Ground.phase }, { on := 9, ground := Ground.phase }, { on := 10, ground := Ground.phase }, { on := 11, ground := Ground.phase }, { on := 12, ground := Ground.phase }, { on := 13, ground := Ground.phase }, { on := 14, ground := Ground.phase }], guard := none }) rfl (fun K hK => ?_) AllReadyH.nil
          go_simp
          refine hK.out _ _ ⟨(World.cell?_setCell_other _ _ _ _ (by intro e; injection e with e1; exact absurd e1 (show ¬ W5.heap.size = b by omega))).trans q0, (World.cell?_setCell_other _ _ _ _ (by intro e; injection e with e1; exact absurd e1 (show ¬ W5.heap.size = bk by omega))).trans q1, (World.cell?_setCell_other _ _ _ _ (by intro e; injection e with e1; exact absurd e1 (show ¬ W5.heap.size = w.heap.size by omega))).trans q2, (World.cell?_setCell_other _ _ _ _ (by intro e; injection e with e1; exact absurd e1 (show ¬ W5.heap.size = w.heap.size + 1 by omega))).trans q3⟩ (fun hHeld => ?_)
          clear hK K
          (try simp only [Act.put, List.setIfInBounds_toArray, List.set_cons_zero, List.set_cons_succ])
          refine wpAnyH_done (by kernel_rfl) ?_ _
          have J5 := Lib.hid ((H5A.out.grown hg5 (HNE.out W5.heap.size (by omega))).set2 (.slice (some ⟨g5, 0, none⟩) (k + 1) c5))
          have J0 := Lib.hid ((H0A.out.grown hg5 (HNE.out _ (by omega))).far (a := ⟨W5.heap.size, 2, none⟩) (show w.heap.size ≠ W5.heap.size by omega) (.slice (some ⟨g5, 0, none⟩) (k + 1) c5))
          have J1 := Lib.hid ((H1A.out.grown hg5 (HNE.out _ (by omega))).far (a := ⟨W5.heap.size, 2, none⟩) (show w.heap.size + 1 + 1 ≠ W5.heap.size by omega) (.slice (some ⟨g5, 0, none⟩) (k + 1) c5))
          have JS := Lib.hid ((HSA.out.keep (w' := w6) (fun p hp => World.cell?_of_block (hg5.block _ (by simp; omega) (HNE.out _ (by omega))))).keep (w' := w6.setCell ⟨W5.heap.size, 2, none⟩ (.slice (some ⟨g5, 0, none⟩) (k + 1) c5)) (fun p hp => World.cell?_setCell_other _ _ _ _ (fun e => by rw [← e] at hp; exact absurd (show W5.heap.size < W5.heap.size from hp) (by omega))))
          have J2' := Lib.hid ((H2A.out.grown hg5 (HNE.out _ (by omega))).far (a := ⟨W5.heap.size, 2, none⟩) (show w.heap.size + 1 ≠ W5.heap.size by omega) (.slice (some ⟨g5, 0, none⟩) (k + 1) c5))
          have JK := Lib.hid ((HKA.out.keep (w' := w6) (fun p hp => World.cell?_of_block (hg5.block _ (by simp; omega) (HNE.out _ (by omega))))).keep (w' := w6.setCell ⟨W5.heap.size, 2, none⟩ (.slice (some ⟨g5, 0, none⟩) (k + 1) c5)) (fun p hp => World.cell?_setCell_other _ _ _ _ (fun e => by rw [← e] at hp; exact absurd (show W5.heap.size < W5.heap.size from hp) (by omega))))
          have JB := Lib.hid ((HBA.out.grown hg5 (by simp; omega) (fun g e => by have := (hbl.out g e).1; omega)).setCell (p := ⟨W5.heap.size, 2, none⟩) (show w.heap.size ≤ W5.heap.size by omega) (.slice (some ⟨g5, 0, none⟩) (k + 1) c5))
          have JR := Lib.hid (hr5.grown (set_grown w6 W5.heap.size 2 (.slice (some ⟨g5, 0, none⟩) (k + 1) c5)) (fun g e => by cases e; left; omega))
          have hsz5 := hg5.size
          clear hr5 hg5 hat5 q0 q1 q2 q3 y3 y4 y5
          go_wp2
          go_roundw
          case rel => exact ⟨k + 1, _, by omega, by go_num, J5.out, by rw [HT.out]; simpa using JR.out, J0.out, J2'.out, J1.out, JS.out, JK.out, JB.out, by simp at hsz5 ⊢; omega⟩
          case measure => simp [intOf]; omega
        · go_simp
          refine hK.out _ _ ⟨hcaA, hckA, hu2A, hy2A⟩ (fun hHeld => ?_)
          clear hK K
          (try simp only [Act.put, List.setIfInBounds_toArray, List.set_cons_zero, List.set_cons_succ])
          refine wpAnyH_ready (rs := [1]) (by kernel_rfl) (by simp) ?_
          refine AllReadyH.cons (o := { dst := some 29, op := Op.load 22 (Operand.tmp 28), type := 22, pos := "l3_matrices.go:43", after := #[{ on := 0, ground := Ground.data }], guard := none }) rfl (fun K hK => ?_) AllReadyH.nil
          go_simp
          refine hK.out _ _ ⟨hcaA, hckA, hu2A, hy2A⟩ (fun hHeld => ?_)
          clear hK K
          (try simp only [Act.put, List.setIfInBounds_toArray, List.set_cons_zero, List.set_cons_succ])
          refine wpAnyH_ready (rs := [14]) (by kernel_rfl) (by simp) ?_
          refine AllReadyH.cons (o := { dst := some 42, op := Op.call { callee := Callee.builtin Builtin.append, args := #[Operand.tmp 29, Operand.tmp 41], argTypes := #[22, 22] }, type := 22, pos := "l3_matrices.go:43", after := #[{ on := 1, ground := Ground.data }, { on := 13, ground := Ground.data }, { on := 12, ground := Ground.chain }], guard := none }) rfl (fun K hK => ?_) AllReadyH.nil
          (refine step_app1 (by rfl) (.tmp 29) (.tmp 41) (by rfl) W6.heap.size (wr.heap.size + 1) (.slice As k cs) ys k (by rfl) hownD wr.heap.size z (by rfl) hcz HYL.out (by omega) (by simp; omega) ?_; intro g5 c5 w6 hr5 hg5 hat5 hlt5; have q0 := hg5.cell hcaA (HNE.out b (by omega)); have q1 := hg5.cell hckA (HNE.out bk (by omega)); have q2 := hg5.cell hu2A (HNE.out w.heap.size (by omega)); have q3 := hg5.cell hy2A (HNE.out (w.heap.size + 1) (by omega)); obtain ⟨y3, y4, y5, g3, g4, g5', ylt⟩ := H5A.out.grown hg5 (HNE.out W5.heap.size (by omega)))
          refine hK.out _ _ ⟨q0, q1, q2, q3⟩ (fun hHeld => ?_)
          clear hK K
          (try simp only [Act.put, List.setIfInBounds_toArray, List.set_cons_zero, List.set_cons_succ])
          refine wpAnyH_take (i := 15) (oi := { dst := some 43, op := Op.fieldAddr 33 (Operand.tmp 5) 2, type := 0, pos := "l3_matrices.go:43", after := #[{ on := 0, ground := Ground.phase }, { on := 1, ground := Ground.phase }, { on := 2, ground := Ground.phase }, { on := 3, ground := Ground.phase }, { on := 4, ground := Ground.phase }, { on := 5, ground := Ground.phase }, { on := 6, ground := Ground.phase }, { on := 7, ground := Ground.phase }, { on := 8, ground := Ground.phase }, { on := 9, ground := Ground.phase }, { on := 10, ground := Ground.phase }, { on := 11, ground := Ground.phase }, { on := 12, ground := Ground.phase }, { on := 13, ground := Ground.phase }, { on := 14, ground := Ground.phase }], guard := none }) (v := ?_) rfl (by kernel_rfl) (by kernel_rfl) (by kernel_rfl) (fun _ _ _ h => h) (Or.inl ⟨by rfl, ?_⟩) (by assumption) ?_
          rotate_left
          · intro w hSw
            (try dsimp only at hSw)
            go_simp
            (try (with_reducible rfl))
          (try simp only [Act.put, List.setIfInBounds_toArray, List.set_cons_zero, List.set_cons_succ])
          refine wpAnyH_ready (rs := [16]) (by kernel_rfl) (by simp) ?_
          refine AllReadyH.cons (o := { dst := none, op := Op.store 22 (Operand.tmp 43) (Operand.tmp 42), type := 0, pos := "l3_matrices.go:43", after := #[{ on := 15, ground := Ground.data }, { on := 14, ground := Ground.data }, { on := 14, ground := Ground.chain }, { on := 0, ground := Ground.phase }, { on := 1, ground := Ground.phase }, { on := 2, ground := Ground.phase }, { on := 3, ground := Ground.phase }, { on := 4, ground := Ground.phase }, { on := 5, ground := Ground.phase }, { on := 6, ground := Ground.phase }, { on := 7, ground := Ground.phase }, { on := 8, ground := Ground.phase }, { on := 9, ground := Ground.phase }, { on := 10, ground := Ground.phase }, { on := 11, ground := Ground.phase }, { on := 12, ground := Ground.phase }, { on := 13, ground := Ground.phase }, { on := 14, ground := Ground.phase }], guard := none }) rfl (fun K hK => ?_) AllReadyH.nil
          go_simp
          refine hK.out _ _ ⟨(World.cell?_setCell_other _ _ _ _ (by intro e; injection e with e1; exact absurd e1 (show ¬ W5.heap.size = b by omega))).trans q0, (World.cell?_setCell_other _ _ _ _ (by intro e; injection e with e1; exact absurd e1 (show ¬ W5.heap.size = bk by omega))).trans q1, (World.cell?_setCell_other _ _ _ _ (by intro e; injection e with e1; exact absurd e1 (show ¬ W5.heap.size = w.heap.size by omega))).trans q2, (World.cell?_setCell_other _ _ _ _ (by intro e; injection e with e1; exact absurd e1 (show ¬ W5.heap.size = w.heap.size + 1 by omega))).trans q3⟩ (fun hHeld => ?_)
          clear hK K
          (try simp only [Act.put, List.setIfInBounds_toArray, List.set_cons_zero, List.set_cons_succ])
          refine wpAnyH_done (by kernel_rfl) ?_ _
          have J5 := Lib.hid ((H5A.out.grown hg5 (HNE.out W5.heap.size (by omega))).set2 (.slice (some ⟨g5, 0, none⟩) (k + 1) c5))
          have J0 := Lib.hid ((H0A.out.grown hg5 (HNE.out _ (by omega))).far (a := ⟨W5.heap.size, 2, none⟩) (show w.heap.size ≠ W5.heap.size by omega) (.slice (some ⟨g5, 0, none⟩) (k + 1) c5))
          have J1 := Lib.hid ((H1A.out.grown hg5 (HNE.out _ (by omega))).far (a := ⟨W5.heap.size, 2, none⟩) (show w.heap.size + 1 + 1 ≠ W5.heap.size by omega) (.slice (some ⟨g5, 0, none⟩) (k + 1) c5))
          have JS := Lib.hid ((HSA.out.keep (w' := w6) (fun p hp => World.cell?_of_block (hg5.block _ (by simp; omega) (HNE.out _ (by omega))))).keep (w' := w6.setCell ⟨W5.heap.size, 2, none⟩ (.slice (some ⟨g5, 0, none⟩) (k + 1) c5)) (fun p hp => World.cell?_setCell_other _ _ _ _ (fun e => by rw [← e] at hp; exact absurd (show W5.heap.size < W5.heap.size from hp) (by omega))))
          have J2' := Lib.hid ((H2A.out.grown hg5 (HNE.out _ (by omega))).far (a := ⟨W5.heap.size, 2, none⟩) (show w.heap.size + 1 ≠ W5.heap.size by omega) (.slice (some ⟨g5, 0, none⟩) (k + 1) c5))
          have JK := Lib.hid ((HKA.out.keep (w' := w6) (fun p hp => World.cell?_of_block (hg5.block _ (by simp; omega) (HNE.out _ (by omega))))).keep (w' := w6.setCell ⟨W5.heap.size, 2, none⟩ (.slice (some ⟨g5, 0, none⟩) (k + 1) c5)) (fun p hp => World.cell?_setCell_other _ _ _ _ (fun e => by rw [← e] at hp; exact absurd (show W5.heap.size < W5.heap.size from hp) (by omega))))
          have JB := Lib.hid ((HBA.out.grown hg5 (by simp; omega) (fun g e => by have := (hbl.out g e).1; omega)).setCell (p := ⟨W5.heap.size, 2, none⟩) (show w.heap.size ≤ W5.heap.size by omega) (.slice (some ⟨g5, 0, none⟩) (k + 1) c5))
          have JR := Lib.hid (hr5.grown (set_grown w6 W5.heap.size 2 (.slice (some ⟨g5, 0, none⟩) (k + 1) c5)) (fun g e => by cases e; left; omega))
          have hsz5 := hg5.size
          clear hr5 hg5 hat5 q0 q1 q2 q3 y3 y4 y5
          go_wp2
          go_roundw
          case rel => exact ⟨k + 1, _, by omega, by go_num, J5.out, by rw [HT.out]; simpa using JR.out, J0.out, J2'.out, J1.out, JS.out, JK.out, JB.out, by simp at hsz5 ⊢; omega⟩
          case measure => simp [intOf]; omega
    · have e : k = zs.length := by omega
      subst e
      rw [HTF.out] at hrow
      have HROW := Lib.hid hrow
      have HBEL := Lib.hid hbel
      have H1 := Lib.hid h1
      obtain ⟨v0, v1, v2, p0, p1, p2, vlt⟩ := h5
      obtain ⟨b0, b1, b2, g0, g1, g2, blt⟩ := h1
      obtain ⟨u0, u1, u2, _, _, _, ult⟩ := h0
      clear hrow hsl hslk hbel
      go_wp2
      have P2 := ((H1.out.set0 (.int .i64 r)).set1 (.int .i64 c)).set2 (.slice As zs.length cs)
      have R2 := HROW.out.grown (set_grown _ (w.heap.size + 1 + 1) 0 (.int .i64 r)) (fun g e => by cases e; left; omega)
      have R3 := R2.grown (set_grown _ (w.heap.size + 1 + 1) 1 (.int .i64 c)) (fun g e => by cases e; left; omega)
      have R4 := R3.grown (set_grown _ (w.heap.size + 1 + 1) 2 (.slice As zs.length cs)) (fun g e => by cases e; left; omega)
      have B4 := ((HBEL.out.setCell (p := ⟨w.heap.size + 1 + 1, 0, none⟩) (by simp; omega) (.int .i64 r)).setCell (p := ⟨w.heap.size + 1 + 1, 1, none⟩) (by simp; omega) (.int .i64 c)).setCell (p := ⟨w.heap.size + 1 + 1, 2, none⟩) (by simp; omega) (.slice As zs.length cs)
      have S4 : ((((wr.setCell ⟨w.heap.size + 1 + 1, 0, none⟩ (.int .i64 r)).setCell ⟨w.heap.size + 1 + 1, 1, none⟩ (.int .i64 c)).setCell ⟨w.heap.size + 1 + 1, 2, none⟩ (.slice As zs.length cs)).heap.size) = wr.heap.size := by simp
      obtain ⟨W4', hW4⟩ : ∃ W4, (((wr.setCell ⟨w.heap.size + 1 + 1, 0, none⟩ (.int .i64 r)).setCell ⟨w.heap.size + 1 + 1, 1, none⟩ (.int .i64 c)).setCell ⟨w.heap.size + 1 + 1, 2, none⟩ (.slice As zs.length cs)) = W4 := ⟨_, rfl⟩
      rw [hW4] at P2 R4 B4 S4 ⊢
      obtain ⟨z0, z1, z2, _, _, _, _⟩ := P2
      refine bodyPost_ret (v := matV r c (.slice As zs.length cs)) (by simp [results, Try.results57, go_sem, z0, z1, z2]) rfl ?_
      exact ⟨_, rfl, R4.wider (by omega) (by omega), B4⟩
theorem specAddRing (a b : Int) (w : World) (ha : 0 ≤ a ∧ a ≤ 4095) (hb : 0 ≤ b ∧ b ≤ 4095) : Calls Try.prog 71 #[.int .i64 a, .int .i64 b] w fun e w' => e = .returned (.int .i64 (addF a b)) ∧ w = w' := by
  have hr : 0 ≤ addF a b ∧ addF a b ≤ 4095 := by unfold addF; omega
  have hcall : Calls Try.prog 67 #[.int .i64 (a + b)] w fun e w' => e = .returned (.int .i64 (addF a b)) ∧ w = w' := by
    have e1 : Int.tmod (Int.tmod (a + b) 4096 + 4096) 4096 = addF a b := tmod_ring _
    obtain ⟨y, hy⟩ : ∃ y, addF a b = y := ⟨_, rfl⟩
    have h4 : -4096 < Int.tmod (a + b) 4096 ∧ Int.tmod (a + b) 4096 < 4096 := tmod_small _
    rw [hy] at e1 hr ⊢
    clear hy
    obtain ⟨x, hx⟩ : ∃ x, a + b = x := ⟨_, rfl⟩
    rw [hx] at e1 h4 ⊢
    have hxr : -4096 ≤ x ∧ x ≤ 8190 := by omega
    clear hx
    obtain ⟨q, hq⟩ : ∃ q, Int.tmod x 4096 = q := ⟨_, rfl⟩
    rw [hq] at e1 h4
    go_enter Try.func67, Try.ntmps67
    go_wp2
    go_ret
    exact ⟨rfl, rfl⟩
  obtain ⟨y, hy⟩ : ∃ y, addF a b = y := ⟨_, rfl⟩
  rw [hy] at hcall ⊢
  clear hy hr
  go_enter Try.func71, Try.ntmps71
  go_wp2_with fail
  refine (specRingValid_yes a w ha.1 ha.2).mono ?_
  rintro e w' ⟨rfl, rfl⟩
  go_wp2_with fail
  refine (specRingValid_yes b w hb.1 hb.2).mono ?_
  rintro e w' ⟨rfl, rfl⟩
  go_wp2_with fail
  refine hcall.mono ?_
  rintro e w' ⟨rfl, rfl⟩
  go_wp2
  go_ret
  exact ⟨rfl, rfl⟩
set_option maxRecDepth 20000 in
set_option maxHeartbeats 3200000 in
theorem specAdd_yes (r c : Int) (A : Option Addr) (cap n B : Nat) (zs : List Int) (A2 : Option Addr) (cap2 n2 B2 : Nat) (ks : List Int) (w : World) (hs : Sl w B A zs) (hB : B ≤ w.heap.size) (e : n = zs.length) (hs2 : Sl w B2 A2 ks) (hB2 : B2 ≤ w.heap.size) (e2 : n2 = ks.length) (hm : OkM r c zs) (hm2 : OkM r c ks) :
    Calls Try.prog 56 #[matV r c (.slice A n cap), matV r c (.slice A2 n2 cap2)] w fun e w' => ∃ s, e = .returned (matV r c s) ∧ Row w' w.heap.size w'.heap.size s (pairZ addF zs ks) ∧ Below w.heap.size w w' := by
  subst e
  subst e2
  have hn := hm.len
  have hn2 := hm2.len
  have hlk : ks.length = zs.length := by have h1 := hm.2.2.1; have h2 := hm2.2.2.1; omega
  have HO := Lib.hid (show OkS r c zs r c ks from ⟨hm, hm2, rfl, rfl⟩)
  have HZ := Lib.hid fun p => getD_rng hm.2.2.2 p
  have HKZ := Lib.hid fun p => getD_rng hm2.2.2.2 p
  have hTS : Hid (∀ k, k < zs.length → (pairZ addF zs ks).take (k + 1) = (pairZ addF zs ks).take k ++ [addF (zs.getD k 0) (ks.getD k 0)]) := fun k hk => pairZ_take _ _ _ hk
  have hTL : Hid (∀ k, k ≤ zs.length → ((pairZ addF zs ks).take k).length = k) := fun k hk => by rw [List.length_take, pairZ_len]; omega
  have hFull : Hid ((pairZ addF zs ks).take zs.length = pairZ addF zs ks) := List.take_of_length_le (by rw [pairZ_len]; omega)
  have hT0 : Hid ((pairZ addF zs ks).take 0 = []) := rfl
  obtain ⟨T, hT⟩ : ∃ T : Nat → List Int, (fun k => (pairZ addF zs ks).take k) = T := ⟨_, rfl⟩
  have hTe : ∀ k, (pairZ addF zs ks).take k = T k := fun k => by rw [← hT]
  have HTF := Lib.hid (show T zs.length = pairZ addF zs ks from (hTe _).symm.trans hFull.out)
  have HTS := Lib.hid (show ∀ k, k < zs.length → T (k + 1) = T k ++ [addF (zs.getD k 0) (ks.getD k 0)] from fun k hk => by rw [← hTe, ← hTe]; exact hTS.out k hk)
  have HTL := Lib.hid (show ∀ k, k ≤ zs.length → (T k).length = k from fun k hk => by rw [← hTe]; exact hTL.out k hk)
  have HT0 := Lib.hid (show T 0 = [] from by rw [← hTe]; exact hT0.out)
  have HLK := Lib.hid hlk
  clear hT hTe hTS hTL hFull hT0 hlk hm hm2
  have q0 := ((Cell3.new (w) (.int .i64 r) (.int .i64 c) (.slice A zs.length cap) 33).alloc (.cells #[.int .i64 r, .int .i64 c, .slice A2 ks.length cap2] 33)).alloc (.cells #[.int .i64 0, .int .i64 0, .slice none 0 0] 33)
  have q1 := (Cell3.new (w.alloc (.cells #[.int .i64 r, .int .i64 c, .slice A zs.length cap] 33)) (.int .i64 r) (.int .i64 c) (.slice A2 ks.length cap2) 33).alloc (.cells #[.int .i64 0, .int .i64 0, .slice none 0 0] 33)
  have q2 := Cell3.new ((w.alloc (.cells #[.int .i64 r, .int .i64 c, .slice A zs.length cap] 33)).alloc (.cells #[.int .i64 r, .int .i64 c, .slice A2 ks.length cap2] 33)) (.int .i64 0) (.int .i64 0) (.slice none 0 0) 33
  have hb : Below w.heap.size w (((w.alloc (.cells #[.int .i64 r, .int .i64 c, .slice A zs.length cap] 33)).alloc (.cells #[.int .i64 r, .int .i64 c, .slice A2 ks.length cap2] 33)).alloc (.cells #[.int .i64 0, .int .i64 0, .slice none 0 0] 33)) := (((Below.refl _ _).alloc (Nat.le_refl _) _).alloc (by simp) _).alloc (by simp; omega) _
  have hsz : (((w.alloc (.cells #[.int .i64 r, .int .i64 c, .slice A zs.length cap] 33)).alloc (.cells #[.int .i64 r, .int .i64 c, .slice A2 ks.length cap2] 33)).alloc (.cells #[.int .i64 0, .int .i64 0, .slice none 0 0] 33)).heap.size = w.heap.size + 3 := by simp
  simp only [World.size_alloc] at q1 q2
  obtain ⟨W0, hW⟩ : ∃ W, ((w.alloc (.cells #[.int .i64 r, .int .i64 c, .slice A zs.length cap] 33)).alloc (.cells #[.int .i64 r, .int .i64 c, .slice A2 ks.length cap2] 33)).alloc (.cells #[.int .i64 0, .int .i64 0, .slice none 0 0] 33) = W := ⟨_, rfl⟩
  rw [hW] at q0 q1 q2 hb hsz
  have K0_0 := Lib.hid q0
  have K1_0 := Lib.hid q1
  have K2_0 := Lib.hid q2
  have Sa_0 := Lib.hid (hs.below hb hB)
  have Sk_0 := Lib.hid (hs2.below hb hB2)
  have HB_0 := Lib.hid hb
  clear hb q0 q1 q2 hs hs2
  go_enter Try.func56, Try.ntmps56
  obtain ⟨x00, x01, x02, xf00, xf01, xf02, x0lt⟩ := K0_0.out
  obtain ⟨x10, x11, x12, xf10, xf11, xf12, x1lt⟩ := K1_0.out
  obtain ⟨x20, x21, x22, xf20, xf21, xf22, x2lt⟩ := K2_0.out
  go_wp2_with fail
  refine (ownM_any r c A cap _ B zs W0 Sa_0.out (by omega) rfl (by omega)).mono ?_
  rintro e W1 ⟨sv1, rfl, hr, hb⟩
  obtain ⟨Ax, cx, rfl, hcp1, hcp2, _⟩ := hr.form
  have HCPx := Lib.hid (And.intro hcp1 hcp2)
  clear hcp1 hcp2
  clear x00 x01 x02 xf00 xf01 xf02 x0lt x10 x11 x12 xf10 xf11 xf12 x1lt x20 x21 x22 xf20 xf21 xf22 x2lt
  have s1 := hb.size
  have K0_1 := Lib.hid (K0_0.out.below hb (show w.heap.size < W0.heap.size by omega))
  have K1_1 := Lib.hid (K1_0.out.below hb (show w.heap.size + 1 < W0.heap.size by omega))
  have K2_1 := Lib.hid (K2_0.out.below hb (show w.heap.size + 1 + 1 < W0.heap.size by omega))
  have Sa_1 := Lib.hid (Sa_0.out.below hb (show B ≤ W0.heap.size by omega))
  have Sk_1 := Lib.hid (Sk_0.out.below hb (show B2 ≤ W0.heap.size by omega))
  have HB_1 := Lib.hid (HB_0.out.trans (hb.mono (show w.heap.size ≤ W0.heap.size by omega)))
  clear K0_0 K1_0 K2_0 Sa_0 Sk_0 HB_0 hb hW
  have Rx_1 := Lib.hid hr
  clear hr
  have K0_2 := Lib.hid (((K0_1.out.set0 (.int .i64 r)).set1 (.int .i64 c)).set2 (.slice Ax zs.length cx))
  have K1_2 := Lib.hid (((K1_1.out.far (a := ⟨w.heap.size, 0, none⟩) (show w.heap.size + 1 ≠ w.heap.size by omega) (.int .i64 r)).far (a := ⟨w.heap.size, 1, none⟩) (show w.heap.size + 1 ≠ w.heap.size by omega) (.int .i64 c)).far (a := ⟨w.heap.size, 2, none⟩) (show w.heap.size + 1 ≠ w.heap.size by omega) (.slice Ax zs.length cx))
  have K2_2 := Lib.hid (((K2_1.out.far (a := ⟨w.heap.size, 0, none⟩) (show w.heap.size + 1 + 1 ≠ w.heap.size by omega) (.int .i64 r)).far (a := ⟨w.heap.size, 1, none⟩) (show w.heap.size + 1 + 1 ≠ w.heap.size by omega) (.int .i64 c)).far (a := ⟨w.heap.size, 2, none⟩) (show w.heap.size + 1 + 1 ≠ w.heap.size by omega) (.slice Ax zs.length cx))
  have Rx_2 := Lib.hid (((Rx_1.out.grown (set_grown _ (w.heap.size) 0 (.int .i64 r)) (fun g e => by cases e; omega)).grown (set_grown _ (w.heap.size) 1 (.int .i64 c)) (fun g e => by cases e; omega)).grown (set_grown _ (w.heap.size) 2 (.slice Ax zs.length cx)) (fun g e => by cases e; omega))
  have Sa_2 := Lib.hid (((Sa_1.out.keep (w' := (W1.setCell ⟨w.heap.size, 0, none⟩ (.int .i64 r))) (fun p hp => World.cell?_setCell_other _ _ _ _ (fun e => by rw [← e] at hp; exact absurd (show w.heap.size < B from hp) (by omega)))).keep (w' := ((W1.setCell ⟨w.heap.size, 0, none⟩ (.int .i64 r)).setCell ⟨w.heap.size, 1, none⟩ (.int .i64 c))) (fun p hp => World.cell?_setCell_other _ _ _ _ (fun e => by rw [← e] at hp; exact absurd (show w.heap.size < B from hp) (by omega)))).keep (w' := (((W1.setCell ⟨w.heap.size, 0, none⟩ (.int .i64 r)).setCell ⟨w.heap.size, 1, none⟩ (.int .i64 c)).setCell ⟨w.heap.size, 2, none⟩ (.slice Ax zs.length cx))) (fun p hp => World.cell?_setCell_other _ _ _ _ (fun e => by rw [← e] at hp; exact absurd (show w.heap.size < B from hp) (by omega))))
  have Sk_2 := Lib.hid (((Sk_1.out.keep (w' := (W1.setCell ⟨w.heap.size, 0, none⟩ (.int .i64 r))) (fun p hp => World.cell?_setCell_other _ _ _ _ (fun e => by rw [← e] at hp; exact absurd (show w.heap.size < B2 from hp) (by omega)))).keep (w' := ((W1.setCell ⟨w.heap.size, 0, none⟩ (.int .i64 r)).setCell ⟨w.heap.size, 1, none⟩ (.int .i64 c))) (fun p hp => World.cell?_setCell_other _ _ _ _ (fun e => by rw [← e] at hp; exact absurd (show w.heap.size < B2 from hp) (by omega)))).keep (w' := (((W1.setCell ⟨w.heap.size, 0, none⟩ (.int .i64 r)).setCell ⟨w.heap.size, 1, none⟩ (.int .i64 c)).setCell ⟨w.heap.size, 2, none⟩ (.slice Ax zs.length cx))) (fun p hp => World.cell?_setCell_other _ _ _ _ (fun e => by rw [← e] at hp; exact absurd (show w.heap.size < B2 from hp) (by omega))))
  have HB_2 := Lib.hid (((HB_1.out.setCell (p := ⟨w.heap.size, 0, none⟩) (show w.heap.size ≤ w.heap.size by omega) (.int .i64 r)).setCell (p := ⟨w.heap.size, 1, none⟩) (show w.heap.size ≤ w.heap.size by omega) (.int .i64 c)).setCell (p := ⟨w.heap.size, 2, none⟩) (show w.heap.size ≤ w.heap.size by omega) (.slice Ax zs.length cx))
  have z2 : (((W1.setCell ⟨w.heap.size, 0, none⟩ (.int .i64 r)).setCell ⟨w.heap.size, 1, none⟩ (.int .i64 c)).setCell ⟨w.heap.size, 2, none⟩ (.slice Ax zs.length cx)).heap.size = W1.heap.size := by simp
  obtain ⟨x00, x01, x02, xf00, xf01, xf02, x0lt⟩ := K0_1.out
  obtain ⟨x10, x11, x12, xf10, xf11, xf12, x1lt⟩ := K1_1.out
  obtain ⟨x20, x21, x22, xf20, xf21, xf22, x2lt⟩ := K2_1.out
  go_wp2_with fail
  obtain ⟨W2, hW2⟩ : ∃ W, (((W1.setCell ⟨w.heap.size, 0, none⟩ (.int .i64 r)).setCell ⟨w.heap.size, 1, none⟩ (.int .i64 c)).setCell ⟨w.heap.size, 2, none⟩ (.slice Ax zs.length cx)) = W := ⟨_, rfl⟩
  rw [hW2] at K0_2 K1_2 K2_2 Rx_2 Sa_2 Sk_2 HB_2 z2 ⊢
  clear x00 x01 x02 xf00 xf01 xf02 x0lt x10 x11 x12 xf10 xf11 xf12 x1lt x20 x21 x22 xf20 xf21 xf22 x2lt
  clear hW2 K0_1 K1_1 K2_1 Rx_1 Sa_1 Sk_1 HB_1
  refine (ownM_any r c A2 cap2 _ B2 ks W2 Sk_2.out (by omega) rfl (by omega)).mono ?_
  rintro e W3 ⟨sv3, rfl, hr, hb⟩
  obtain ⟨Ay, cy, rfl, hcp1, hcp2, _⟩ := hr.form
  have HCPy := Lib.hid (And.intro hcp1 hcp2)
  clear hcp1 hcp2
  have s3 := hb.size
  have K0_3 := Lib.hid (K0_2.out.below hb (show w.heap.size < W2.heap.size by omega))
  have K1_3 := Lib.hid (K1_2.out.below hb (show w.heap.size + 1 < W2.heap.size by omega))
  have K2_3 := Lib.hid (K2_2.out.below hb (show w.heap.size + 1 + 1 < W2.heap.size by omega))
  have Rx_3 := Lib.hid (Rx_2.out.below hb (show W1.heap.size ≤ W2.heap.size by omega))
  have Sa_3 := Lib.hid (Sa_2.out.below hb (show B ≤ W2.heap.size by omega))
  have Sk_3 := Lib.hid (Sk_2.out.below hb (show B2 ≤ W2.heap.size by omega))
  have HB_3 := Lib.hid (HB_2.out.trans (hb.mono (show w.heap.size ≤ W2.heap.size by omega)))
  clear K0_2 K1_2 K2_2 Rx_2 Sa_2 Sk_2 HB_2 hb
  have Ry_3 := Lib.hid hr
  clear hr
  have K0_4 := Lib.hid (((K0_3.out.far (a := ⟨w.heap.size + 1, 0, none⟩) (show w.heap.size ≠ w.heap.size + 1 by omega) (.int .i64 r)).far (a := ⟨w.heap.size + 1, 1, none⟩) (show w.heap.size ≠ w.heap.size + 1 by omega) (.int .i64 c)).far (a := ⟨w.heap.size + 1, 2, none⟩) (show w.heap.size ≠ w.heap.size + 1 by omega) (.slice Ay ks.length cy))
  have K1_4 := Lib.hid (((K1_3.out.set0 (.int .i64 r)).set1 (.int .i64 c)).set2 (.slice Ay ks.length cy))
  have K2_4 := Lib.hid (((K2_3.out.far (a := ⟨w.heap.size + 1, 0, none⟩) (show w.heap.size + 1 + 1 ≠ w.heap.size + 1 by omega) (.int .i64 r)).far (a := ⟨w.heap.size + 1, 1, none⟩) (show w.heap.size + 1 + 1 ≠ w.heap.size + 1 by omega) (.int .i64 c)).far (a := ⟨w.heap.size + 1, 2, none⟩) (show w.heap.size + 1 + 1 ≠ w.heap.size + 1 by omega) (.slice Ay ks.length cy))
  have Rx_4 := Lib.hid (((Rx_3.out.grown (set_grown _ (w.heap.size + 1) 0 (.int .i64 r)) (fun g e => by cases e; omega)).grown (set_grown _ (w.heap.size + 1) 1 (.int .i64 c)) (fun g e => by cases e; omega)).grown (set_grown _ (w.heap.size + 1) 2 (.slice Ay ks.length cy)) (fun g e => by cases e; omega))
  have Ry_4 := Lib.hid (((Ry_3.out.grown (set_grown _ (w.heap.size + 1) 0 (.int .i64 r)) (fun g e => by cases e; omega)).grown (set_grown _ (w.heap.size + 1) 1 (.int .i64 c)) (fun g e => by cases e; omega)).grown (set_grown _ (w.heap.size + 1) 2 (.slice Ay ks.length cy)) (fun g e => by cases e; omega))
  have Sa_4 := Lib.hid (((Sa_3.out.keep (w' := (W3.setCell ⟨w.heap.size + 1, 0, none⟩ (.int .i64 r))) (fun p hp => World.cell?_setCell_other _ _ _ _ (fun e => by rw [← e] at hp; exact absurd (show w.heap.size + 1 < B from hp) (by omega)))).keep (w' := ((W3.setCell ⟨w.heap.size + 1, 0, none⟩ (.int .i64 r)).setCell ⟨w.heap.size + 1, 1, none⟩ (.int .i64 c))) (fun p hp => World.cell?_setCell_other _ _ _ _ (fun e => by rw [← e] at hp; exact absurd (show w.heap.size + 1 < B from hp) (by omega)))).keep (w' := (((W3.setCell ⟨w.heap.size + 1, 0, none⟩ (.int .i64 r)).setCell ⟨w.heap.size + 1, 1, none⟩ (.int .i64 c)).setCell ⟨w.heap.size + 1, 2, none⟩ (.slice Ay ks.length cy))) (fun p hp => World.cell?_setCell_other _ _ _ _ (fun e => by rw [← e] at hp; exact absurd (show w.heap.size + 1 < B from hp) (by omega))))
  have Sk_4 := Lib.hid (((Sk_3.out.keep (w' := (W3.setCell ⟨w.heap.size + 1, 0, none⟩ (.int .i64 r))) (fun p hp => World.cell?_setCell_other _ _ _ _ (fun e => by rw [← e] at hp; exact absurd (show w.heap.size + 1 < B2 from hp) (by omega)))).keep (w' := ((W3.setCell ⟨w.heap.size + 1, 0, none⟩ (.int .i64 r)).setCell ⟨w.heap.size + 1, 1, none⟩ (.int .i64 c))) (fun p hp => World.cell?_setCell_other _ _ _ _ (fun e => by rw [← e] at hp; exact absurd (show w.heap.size + 1 < B2 from hp) (by omega)))).keep (w' := (((W3.setCell ⟨w.heap.size + 1, 0, none⟩ (.int .i64 r)).setCell ⟨w.heap.size + 1, 1, none⟩ (.int .i64 c)).setCell ⟨w.heap.size + 1, 2, none⟩ (.slice Ay ks.length cy))) (fun p hp => World.cell?_setCell_other _ _ _ _ (fun e => by rw [← e] at hp; exact absurd (show w.heap.size + 1 < B2 from hp) (by omega))))
  have HB_4 := Lib.hid (((HB_3.out.setCell (p := ⟨w.heap.size + 1, 0, none⟩) (show w.heap.size ≤ w.heap.size + 1 by omega) (.int .i64 r)).setCell (p := ⟨w.heap.size + 1, 1, none⟩) (show w.heap.size ≤ w.heap.size + 1 by omega) (.int .i64 c)).setCell (p := ⟨w.heap.size + 1, 2, none⟩) (show w.heap.size ≤ w.heap.size + 1 by omega) (.slice Ay ks.length cy))
  have z4 : (((W3.setCell ⟨w.heap.size + 1, 0, none⟩ (.int .i64 r)).setCell ⟨w.heap.size + 1, 1, none⟩ (.int .i64 c)).setCell ⟨w.heap.size + 1, 2, none⟩ (.slice Ay ks.length cy)).heap.size = W3.heap.size := by simp
  obtain ⟨x00, x01, x02, xf00, xf01, xf02, x0lt⟩ := K0_3.out
  obtain ⟨x10, x11, x12, xf10, xf11, xf12, x1lt⟩ := K1_3.out
  obtain ⟨x20, x21, x22, xf20, xf21, xf22, x2lt⟩ := K2_3.out
  go_wp2_with fail
  obtain ⟨W4, hW4⟩ : ∃ W, (((W3.setCell ⟨w.heap.size + 1, 0, none⟩ (.int .i64 r)).setCell ⟨w.heap.size + 1, 1, none⟩ (.int .i64 c)).setCell ⟨w.heap.size + 1, 2, none⟩ (.slice Ay ks.length cy)) = W := ⟨_, rfl⟩
  rw [hW4] at K0_4 K1_4 K2_4 Rx_4 Ry_4 Sa_4 Sk_4 HB_4 z4 ⊢
  clear x00 x01 x02 xf00 xf01 xf02 x0lt x10 x11 x12 xf10 xf11 xf12 x1lt x20 x21 x22 xf20 xf21 xf22 x2lt
  clear hW4 K0_3 K1_3 K2_3 Rx_3 Ry_3 Sa_3 Sk_3 HB_3
  refine (l3Like_any r c Ax cx _ W4.heap.size zs r c Ay cy _ W4.heap.size ks W4 (Rx_4.out.sl_now.more (show W1.heap.size ≤ W4.heap.size by omega)) (Nat.le_refl _) rfl (by omega) (Ry_4.out.sl_now.more (show W3.heap.size ≤ W4.heap.size by omega)) (Nat.le_refl _) rfl (by omega) true ⟨fun _ => HO.out, fun _ => rfl⟩).mono ?_
  rintro e W5 ⟨rfl, hb⟩
  have s5 := hb.size
  have K0_5 := Lib.hid (K0_4.out.below hb (show w.heap.size < W4.heap.size by omega))
  have K1_5 := Lib.hid (K1_4.out.below hb (show w.heap.size + 1 < W4.heap.size by omega))
  have K2_5 := Lib.hid (K2_4.out.below hb (show w.heap.size + 1 + 1 < W4.heap.size by omega))
  have Rx_5 := Lib.hid (Rx_4.out.below hb (show W1.heap.size ≤ W4.heap.size by omega))
  have Ry_5 := Lib.hid (Ry_4.out.below hb (show W3.heap.size ≤ W4.heap.size by omega))
  have Sa_5 := Lib.hid (Sa_4.out.below hb (show B ≤ W4.heap.size by omega))
  have Sk_5 := Lib.hid (Sk_4.out.below hb (show B2 ≤ W4.heap.size by omega))
  have HB_5 := Lib.hid (HB_4.out.trans (hb.mono (show w.heap.size ≤ W4.heap.size by omega)))
  clear K0_4 K1_4 K2_4 Rx_4 Ry_4 Sa_4 Sk_4 HB_4 hb
  have SX_5 := Lib.hid (Rx_5.out.sl_now.more (show W1.heap.size ≤ W5.heap.size by omega))
  have SY_5 := Lib.hid (Ry_5.out.sl_now.more (show W3.heap.size ≤ W5.heap.size by omega))
  clear Rx_5 Ry_5 Sa_5 Sk_5
  obtain ⟨x00, x01, x02, xf00, xf01, xf02, x0lt⟩ := K0_5.out
  obtain ⟨x10, x11, x12, xf10, xf11, xf12, x1lt⟩ := K1_5.out
  obtain ⟨x20, x21, x22, xf20, xf21, xf22, x2lt⟩ := K2_5.out
  have kn := Cell3.new W5 (.int .i64 r) (.int .i64 c) (.slice none 0 0) 33
  obtain ⟨W6, hW6⟩ : ∃ W, W5.alloc (.cells #[.int .i64 r, .int .i64 c, .slice none 0 0] 33) = W := ⟨_, rfl⟩
  rw [hW6] at kn
  have z6 : W6.heap.size = W5.heap.size + 1 := by rw [← hW6]; simp
  have hal : Below W5.heap.size W5 W6 := hW6 ▸ (Below.refl _ _).alloc (Nat.le_refl _) _
  have s6 := hal.size
  have K0_6 := Lib.hid (K0_5.out.below hal (show w.heap.size < W5.heap.size by omega))
  have K1_6 := Lib.hid (K1_5.out.below hal (show w.heap.size + 1 < W5.heap.size by omega))
  have K2_6 := Lib.hid (K2_5.out.below hal (show w.heap.size + 1 + 1 < W5.heap.size by omega))
  have SX_6 := Lib.hid (SX_5.out.below hal (show W5.heap.size ≤ W5.heap.size by omega))
  have SY_6 := Lib.hid (SY_5.out.below hal (show W5.heap.size ≤ W5.heap.size by omega))
  have HB_6 := Lib.hid (HB_5.out.trans (hal.mono (show w.heap.size ≤ W5.heap.size by omega)))
  clear K0_5 K1_5 K2_5 SX_5 SY_5 HB_5 hal
  have K5_6 := Lib.hid kn
  clear kn
  obtain ⟨x50, x51, x52, xf50, xf51, xf52, x5lt⟩ := K5_6.out
  go_wp2
  clear x00 x01 x02 xf00 xf01 xf02 x0lt x10 x11 x12 xf10 xf11 xf12 x1lt x20 x21 x22 xf20 xf21 xf22 x2lt x50 x51 x52 xf50 xf51 xf52 x5lt
  have hord : w.heap.size + 3 ≤ W5.heap.size := by omega
  go_loopw [6] (fun i wr => ∃ (k : Nat) (sv : Value), k ≤ zs.length ∧ i = .int .i64 k ∧ Cell3 wr W5.heap.size (.int .i64 r) (.int .i64 c) sv ∧ Row wr W6.heap.size wr.heap.size sv (T k) ∧ Cell3 wr w.heap.size (.int .i64 r) (.int .i64 c) (.slice Ax zs.length cx) ∧ Cell3 wr (w.heap.size + 1) (.int .i64 r) (.int .i64 c) (.slice Ay ks.length cy) ∧ Cell3 wr (w.heap.size + 1 + 1) (.int .i64 0) (.int .i64 0) (.slice none 0 0) ∧ Sl wr W5.heap.size Ax zs ∧ Sl wr W5.heap.size Ay ks ∧ Below w.heap.size w wr ∧ W6.heap.size ≤ wr.heap.size) (fun i _ => zs.length - (intOf i).toNat)
  case atStart => exact ⟨0, _, Nat.zero_le _, rfl, K5_6.out.set2 _, by rw [HT0.out]; exact Row.nil_ _ _ _, K0_6.out.far (a := ⟨W5.heap.size, 2, none⟩) (show w.heap.size ≠ W5.heap.size by omega) _, K1_6.out.far (a := ⟨W5.heap.size, 2, none⟩) (show w.heap.size + 1 ≠ W5.heap.size by omega) _, K2_6.out.far (a := ⟨W5.heap.size, 2, none⟩) (show w.heap.size + 1 + 1 ≠ W5.heap.size by omega) _, SX_6.out.keep (fun p hp => World.cell?_setCell_other _ _ _ _ (fun e => by rw [← e] at hp; exact absurd (show W5.heap.size < W5.heap.size from hp) (by omega))), SY_6.out.keep (fun p hp => World.cell?_setCell_other _ _ _ _ (fun e => by rw [← e] at hp; exact absurd (show W5.heap.size < W5.heap.size from hp) (by omega))), HB_6.out.setCell (p := ⟨W5.heap.size, 2, none⟩) (show w.heap.size ≤ W5.heap.size by omega) _, by simp⟩
  case round =>
    obtain ⟨k, sv, hk, rfl, h5, hrow, h0, h2, h1, hsl, hslk, hbel, hsz⟩ := hrel
    obtain ⟨As, cs, hsve, _, _, _⟩ := hrow.form
    rw [HTL.out k hk] at hsve
    subst hsve
    by_cases hlt : k < zs.length
    · have HT := Lib.hid (HTS.out k hlt)
      obtain ⟨b, off, hA2, hbX, hca⟩ := hsl.at_ hlt
      subst hA2
      obtain ⟨bk, offk, hA3, hbkX, hck⟩ := hslk.at_ (show k < ks.length by rw [HLK.out]; exact hlt)
      subst hA3
      have hsc := Lib.hid fun wx => specAddRing (zs.getD k 0) (ks.getD k 0) wx (HZ.out k) (HKZ.out k)
      obtain ⟨xa, hxa⟩ : ∃ x, zs.getD k 0 = x := ⟨_, rfl⟩
      obtain ⟨xb, hxb⟩ : ∃ x, ks.getD k 0 = x := ⟨_, rfl⟩
      rw [hxa] at hca HT hsc
      rw [hxb] at hck HT hsc
      obtain ⟨z, hz⟩ : ∃ z, addF xa xb = z := ⟨_, rfl⟩
      rw [hz] at HT hsc
      clear hxa hxb hz
      obtain ⟨ys, hys⟩ : ∃ ys, T k = ys := ⟨_, rfl⟩
      have hylen : ys.length = k := by rw [← hys]; exact HTL.out k hk
      rw [hys] at HT hrow
      clear hys
      have hkN : (k : Int) < (zs.length : Int) := by omega
      have hkK : (k : Int) < (ks.length : Int) := by rw [HLK.out]; omega
      have HROW := Lib.hid hrow
      have HSL := Lib.hid hsl
      have HKL := Lib.hid hslk
      have HBEL := Lib.hid hbel
      have H5 := Lib.hid h5
      have H0 := Lib.hid h0
      have H1 := Lib.hid h1
      have H2 := Lib.hid h2
      have HYL := Lib.hid hylen
      have hbl := Lib.hid hrow.block_lt
      have hbz : b < wr.heap.size ∧ bk < wr.heap.size := by omega
      clear hrow hsl hslk hbel hylen h5 h0 h1 h2
      
      have hal := World.grownBy_alloc wr (.cells #[.int .i64 z] 3) none
      have hownA := (HROW.out.grown hal (fun g e => by cases e)).wider (Nat.le_refl _) (hi' := wr.heap.size + 1) (by omega)
      have hD : Drew (wr.alloc (.cells #[.int .i64 z] 3)) (wr.alloc (.cells #[.int .i64 z] 3)).drew := ⟨1, rfl⟩
      have hownD := hD.row hownA
      have H5A := Lib.hid ((H5.out.grown hal (by simp)).grown (hD.grown none) (by simp))
      have H0A := Lib.hid ((H0.out.grown hal (by simp)).grown (hD.grown none) (by simp))
      have H1A := Lib.hid ((H1.out.grown hal (by simp)).grown (hD.grown none) (by simp))
      have HSA := Lib.hid (hD.sl (HSL.out.below (B' := wr.heap.size) ((Below.refl _ wr).alloc (Nat.le_refl _) (.cells #[.int .i64 z] 3)) (by omega)))
      have HBA := Lib.hid ((HBEL.out.alloc (by omega) (.cells #[.int .i64 z] 3)).trans (hD.below _))
      have hcz : (wr.alloc (.cells #[.int .i64 z] 3)).drew.cell? ⟨wr.heap.size, 0, none⟩ = some (.int .i64 z) := World.cell?_alloc_at _ _ _ _ rfl
      have hne : ∀ b, b < W6.heap.size → some b ≠ (Value.slice As k cs).ownBlock := fun b hb e => by have := (hbl.out b e.symm).1; omega
      have HNE := Lib.hid hne
      obtain ⟨hx50, hx51, hx52, _, _, _, _⟩ := H5A.out
      obtain ⟨hx00, hx01, hx02, _, _, _, _⟩ := H0A.out
      have H2A := Lib.hid ((H2.out.grown hal (by simp)).grown (hD.grown none) (by simp))
      have HKA := Lib.hid (hD.sl (HKL.out.below (B' := wr.heap.size) ((Below.refl _ wr).alloc (Nat.le_refl _) (.cells #[.int .i64 z] 3)) (by omega)))
      obtain ⟨v0, v1, v2, _, _, _, vlt⟩ := H5.out
      obtain ⟨u0, u1, u2, _, _, _, ult⟩ := H0.out
      obtain ⟨y0', y1', y2', _, _, _, ylt'⟩ := H2.out
      have hcaA := hal.cell hca (by simp)
      have hckA := hal.cell hck (by simp)
      have hu2A := hal.cell u2 (by simp)
      have hy2A := hal.cell y2' (by simp)
      clear hal hD hne
      go_wp2
      refine wp_region_held_drew (S := (fun w' => w'.cell? ⟨b, off + k, none⟩ = some (.int .i64 xa) ∧ w'.cell? ⟨bk, offk + k, none⟩ = some (.int .i64 xb) ∧ w'.cell? ⟨w.heap.size, 2, none⟩ = some (.slice (some ⟨b, off, none⟩) zs.length cx) ∧ w'.cell? ⟨w.heap.size + 1, 2, none⟩ = some (.slice (some ⟨bk, offk, none⟩) ks.length cy))) (by kernel_rfl) ⟨hca, hck, u2, y2'⟩ (fun hHeld => ?_)
      refine wpAnyH_take (i := 0) (oi := { dst := some 28, op := Op.fieldAddr 33 (Operand.tmp 5) 2, type := 0, pos := "l3_matrices.go:29", after := #[], guard := none }) (v := ?_) rfl (by kernel_rfl) (by kernel_rfl) (by kernel_rfl) (fun _ _ _ h => h) (Or.inl ⟨by rfl, ?_⟩) (by assumption) ?_
      rotate_left
      · intro w hSw
        (try dsimp only at hSw)
        go_simp
        (try (with_reducible rfl))
      (try simp only [Act.put, List.setIfInBounds_toArray, List.set_cons_zero, List.set_cons_succ])
      refine wpAnyH_take (i := 2) (oi := { dst := some 30, op := Op.fieldAddr 33 (Operand.tmp 2) 2, type := 0, pos := "l3_matrices.go:29", after := #[], guard := none }) (v := ?_) rfl (by kernel_rfl) (by kernel_rfl) (by kernel_rfl) (fun _ _ _ h => h) (Or.inl ⟨by rfl, ?_⟩) (by assumption) ?_
      rotate_left
      · intro w hSw
        (try dsimp only at hSw)
        go_simp
        (try (with_reducible rfl))
      (try simp only [Act.put, List.setIfInBounds_toArray, List.set_cons_zero, List.set_cons_succ])
      refine wpAnyH_take (i := 3) (oi := { dst := some 31, op := Op.load 22 (Operand.tmp 30), type := 22, pos := "l3_matrices.go:29", after := #[{ on := 2, ground := Ground.data }], guard := none }) (v := ?_) rfl (by kernel_rfl) (by kernel_rfl) (by kernel_rfl) (fun _ _ _ h => h) (Or.inl ⟨by rfl, ?_⟩) (by assumption) ?_
      rotate_left
      · intro w hSw
        (try dsimp only at hSw)
        go_simp
        (try (with_reducible rfl))
      (try simp only [Act.put, List.setIfInBounds_toArray, List.set_cons_zero, List.set_cons_succ])
      refine wpAnyH_take (i := 4) (oi := { dst := some 32, op := Op.move (Operand.tmp 6), type := 3, pos := "l3_matrices.go:29", after := #[], guard := none }) (v := ?_) rfl (by kernel_rfl) (by kernel_rfl) (by kernel_rfl) (fun _ _ _ h => h) (Or.inl ⟨by rfl, ?_⟩) (by assumption) ?_
      rotate_left
      · intro w hSw
        (try dsimp only at hSw)
        go_simp
        (try (with_reducible rfl))
      (try simp only [Act.put, List.setIfInBounds_toArray, List.set_cons_zero, List.set_cons_succ])
      refine wpAnyH_take (i := 5) (oi := { dst := some 33, op := Op.indexAddr 22 (Operand.tmp 31) (Operand.tmp 32), type := 0, pos := "l3_matrices.go:29", after := #[{ on := 3, ground := Ground.data }, { on := 4, ground := Ground.data }], guard := none }) (v := ?_) rfl (by kernel_rfl) (by kernel_rfl) (by kernel_rfl) (fun _ _ _ h => h) (Or.inl ⟨by rfl, ?_⟩) (by assumption) ?_
      rotate_left
      · intro w hSw
        (try dsimp only at hSw)
        go_simp
        (try (with_reducible rfl))
      (try simp only [Act.put, List.setIfInBounds_toArray, List.set_cons_zero, List.set_cons_succ])
      refine wpAnyH_take (i := 6) (oi := { dst := some 34, op := Op.load 3 (Operand.tmp 33), type := 3, pos := "l3_matrices.go:29", after := #[{ on := 5, ground := Ground.data }], guard := none }) (v := ?_) rfl (by kernel_rfl) (by kernel_rfl) (by kernel_rfl) (fun _ _ _ h => h) (Or.inl ⟨by rfl, ?_⟩) (by assumption) ?_
      rotate_left
      · intro w hSw
        (try dsimp only at hSw)
        go_simp
        (try (with_reducible rfl))
      (try simp only [Act.put, List.setIfInBounds_toArray, List.set_cons_zero, List.set_cons_succ])
      refine wpAnyH_take (i := 7) (oi := { dst := some 35, op := Op.fieldAddr 33 (Operand.tmp 3) 2, type := 0, pos := "l3_matrices.go:29", after := #[], guard := none }) (v := ?_) rfl (by kernel_rfl) (by kernel_rfl) (by kernel_rfl) (fun _ _ _ h => h) (Or.inl ⟨by rfl, ?_⟩) (by assumption) ?_
      rotate_left
      · intro w hSw
        (try dsimp only at hSw)
        go_simp
        (try (with_reducible rfl))
      (try simp only [Act.put, List.setIfInBounds_toArray, List.set_cons_zero, List.set_cons_succ])
      refine wpAnyH_take (i := 8) (oi := { dst := some 36, op := Op.load 22 (Operand.tmp 35), type := 22, pos := "l3_matrices.go:29", after := #[{ on := 7, ground := Ground.data }], guard := none }) (v := ?_) rfl (by kernel_rfl) (by kernel_rfl) (by kernel_rfl) (fun _ _ _ h => h) (Or.inl ⟨by rfl, ?_⟩) (by assumption) ?_
      rotate_left
      · intro w hSw
        (try dsimp only at hSw)
        go_simp
        (try (with_reducible rfl))
      (try simp only [Act.put, List.setIfInBounds_toArray, List.set_cons_zero, List.set_cons_succ])
      refine wpAnyH_take (i := 9) (oi := { dst := some 37, op := Op.move (Operand.tmp 6), type := 3, pos := "l3_matrices.go:29", after := #[], guard := none }) (v := ?_) rfl (by kernel_rfl) (by kernel_rfl) (by kernel_rfl) (fun _ _ _ h => h) (Or.inl ⟨by rfl, ?_⟩) (by assumption) ?_
      rotate_left
      · intro w hSw
        (try dsimp only at hSw)
        go_simp
        (try (with_reducible rfl))
      (try simp only [Act.put, List.setIfInBounds_toArray, List.set_cons_zero, List.set_cons_succ])
      refine wpAnyH_take (i := 10) (oi := { dst := some 38, op := Op.indexAddr 22 (Operand.tmp 36) (Operand.tmp 37), type := 0, pos := "l3_matrices.go:29", after := #[{ on := 8, ground := Ground.data }, { on := 9, ground := Ground.data }], guard := none }) (v := ?_) rfl (by kernel_rfl) (by kernel_rfl) (by kernel_rfl) (fun _ _ _ h => h) (Or.inl ⟨by rfl, ?_⟩) (by assumption) ?_
      rotate_left
      · intro w hSw
        (try dsimp only at hSw)
        go_simp
        (try (with_reducible rfl))
      (try simp only [Act.put, List.setIfInBounds_toArray, List.set_cons_zero, List.set_cons_succ])
      refine wpAnyH_take (i := 11) (oi := { dst := some 39, op := Op.load 3 (Operand.tmp 38), type := 3, pos := "l3_matrices.go:29", after := #[{ on := 10, ground := Ground.data }], guard := none }) (v := ?_) rfl (by kernel_rfl) (by kernel_rfl) (by kernel_rfl) (fun _ _ _ h => h) (Or.inl ⟨by rfl, ?_⟩) (by assumption) ?_
      rotate_left
      · intro w hSw
        (try dsimp only at hSw)
        go_simp
        (try (with_reducible rfl))
      (try simp only [Act.put, List.setIfInBounds_toArray, List.set_cons_zero, List.set_cons_succ])
      refine wpAnyH_ready (rs := [1, 12]) (by kernel_rfl) (by simp) ?_
      refine AllReadyH.cons (o := { dst := some 29, op := Op.load 22 (Operand.tmp 28), type := 22, pos := "l3_matrices.go:29", after := #[{ on := 0, ground := Ground.data }], guard := none }) rfl (fun K hK => ?_) (AllReadyH.cons (o := { dst := some 40, op := Op.call { callee := Callee.value (Operand.func 71), args := #[Operand.tmp 34, Operand.tmp 39], argTypes := #[3, 3] }, type := 3, pos := "l3_matrices.go:29", after := #[{ on := 6, ground := Ground.data }, { on := 11, ground := Ground.data }], guard := none }) rfl (fun K hK => ?_) AllReadyH.nil)
      · go_simp
        refine hK.out _ _ ⟨hca, hck, u2, y2'⟩ (fun hHeld => ?_)
        clear hK K
        (try simp only [Act.put, List.setIfInBounds_toArray, List.set_cons_zero, List.set_cons_succ])
        refine wpAnyH_ready (rs := [12]) (by kernel_rfl) (by simp) ?_
        refine AllReadyH.cons (o := { dst := some 40, op := Op.call { callee := Callee.value (Operand.func 71), args := #[Operand.tmp 34, Operand.tmp 39], argTypes := #[3, 3] }, type := 3, pos := "l3_matrices.go:29", after := #[{ on := 6, ground := Ground.data }, { on := 11, ground := Ground.data }], guard := none }) rfl (fun K hK => ?_) AllReadyH.nil
        (go_simp; go_at_call 71; refine (hsc.out _).mono ?_; rintro e w' ⟨rfl, rfl⟩)
        refine hK.out _ _ ⟨hca, hck, u2, y2'⟩ (fun hHeld => ?_)
        clear hK K
        (try simp only [Act.put, List.setIfInBounds_toArray, List.set_cons_zero, List.set_cons_succ])
        refine wpAnyH_ready (rs := [13]) (by kernel_rfl) (by simp) ?_
        refine AllReadyH.cons (o := { dst := some 41, op := Op.buildSlice 22 1 #[(0, Operand.tmp 40)], type := 22, pos := "l3_matrices.go:29", after := #[{ on := 12, ground := Ground.data }], guard := none }) rfl (fun K hK => ?_) AllReadyH.nil
        go_simp
        refine hK.out _ _ ⟨hcaA, hckA, hu2A, hy2A⟩ (fun hHeld => ?_)
        clear hK K
        (try simp only [Act.put, List.setIfInBounds_toArray, List.set_cons_zero, List.set_cons_succ])
        refine wpAnyH_ready (rs := [14]) (by kernel_rfl) (by simp) ?_
        refine AllReadyH.cons (o := { dst := some 42, op := Op.call { callee := Callee.builtin Builtin.append, args := #[Operand.tmp 29, Operand.tmp 41], argTypes := #[22, 22] }, type := 22, pos := "l3_matrices.go:29", after := #[{ on := 1, ground := Ground.data }, { on := 13, ground := Ground.data }, { on := 12, ground := Ground.chain }], guard := none }) rfl (fun K hK => ?_) AllReadyH.nil
        (refine step_app1 (by rfl) (.tmp 29) (.tmp 41) (by rfl) W6.heap.size (wr.heap.size + 1) (.slice As k cs) ys k (by rfl) hownD wr.heap.size z (by rfl) hcz HYL.out (by omega) (by simp; omega) ?_; intro g5 c5 w6 hr5 hg5 hat5 hlt5; have q0 := hg5.cell hcaA (HNE.out b (by omega)); have q1 := hg5.cell hckA (HNE.out bk (by omega)); have q2 := hg5.cell hu2A (HNE.out w.heap.size (by omega)); have q3 := hg5.cell hy2A (HNE.out (w.heap.size + 1) (by omega)); obtain ⟨y3, y4, y5, g3, g4, g5', ylt⟩ := H5A.out.grown hg5 (HNE.out W5.heap.size (by omega)))
        refine hK.out _ _ ⟨q0, q1, q2, q3⟩ (fun hHeld => ?_)
        clear hK K
        (try simp only [Act.put, List.setIfInBounds_toArray, List.set_cons_zero, List.set_cons_succ])
        refine wpAnyH_take (i := 15) (oi := { dst := some 43, op := Op.fieldAddr 33 (Operand.tmp 5) 2, type := 0, pos := "l3_matrices.go:29", after := #[{ on := 0, ground := Ground.phase }, { on := 1, ground := Ground.phase }, { on := 2, ground := Ground.phase }, { on := 3, ground := Ground.phase }, { on := 4, ground := Ground.phase }, { on := 5, ground := Ground.phase }, { on := 6, ground := Ground.phase }, { on := 7, ground := Ground.phase }, { on := 8, ground := Ground.phase }, { on := 9, ground := Ground.phase }, { on := 10, ground := Ground.phase }, { on := 11, ground := Ground.phase }, { on := 12, ground := Ground.phase }, { on := 13, ground := Ground.phase }, { on := 14, ground := Ground.phase }], guard := none }) (v := ?_) rfl (by kernel_rfl) (by kernel_rfl) (by kernel_rfl) (fun _ _ _ h => h) (Or.inl ⟨by rfl, ?_⟩) (by assumption) ?_
        rotate_left
        · intro w hSw
          (try dsimp only at hSw)
          go_simp
          (try (with_reducible rfl))
        (try simp only [Act.put, List.setIfInBounds_toArray, List.set_cons_zero, List.set_cons_succ])
        refine wpAnyH_ready (rs := [16]) (by kernel_rfl) (by simp) ?_
        refine AllReadyH.cons (o := { dst := none, op := Op.store 22 (Operand.tmp 43) (Operand.tmp 42), type := 0, pos := "l3_matrices.go:29", after := #[{ on := 15, ground := Ground.data }, { on := 14, ground := Ground.data }, { on := 14, ground := Ground.chain }, { on := 0, ground := Ground.phase }, { on := 1, ground := Ground.phase }, { on := 2, ground := Ground.phase }, { on := 3, ground := Ground.phase }, { on := 4, ground := Ground.phase }, { on := 5, ground := Ground.phase }, { on := 6, ground := Ground.phase }, { on := 7, ground := Ground.phase }, { on := 8, ground := Ground.phase }, { on := 9, ground := Ground.phase }, { on := 10, ground := Ground.phase }, { on := 11, ground := Ground.phase }, { on := 12, ground := Ground.phase }, { on := 13, ground := Ground.phase }, { on := 14, ground := Ground.phase }], guard := none }) rfl (fun K hK => ?_) AllReadyH.nil
        go_simp
        refine hK.out _ _ ⟨(World.cell?_setCell_other _ _ _ _ (by intro e; injection e with e1; exact absurd e1 (show ¬ W5.heap.size = b by omega))).trans q0, (World.cell?_setCell_other _ _ _ _ (by intro e; injection e with e1; exact absurd e1 (show ¬ W5.heap.size = bk by omega))).trans q1, (World.cell?_setCell_other _ _ _ _ (by intro e; injection e with e1; exact absurd e1 (show ¬ W5.heap.size = w.heap.size by omega))).trans q2, (World.cell?_setCell_other _ _ _ _ (by intro e; injection e with e1; exact absurd e1 (show ¬ W5.heap.size = w.heap.size + 1 by omega))).trans q3⟩ (fun hHeld => ?_)
        clear hK K
        (try simp only [Act.put, List.setIfInBounds_toArray, List.set_cons_zero, List.set_cons_succ])
        refine wpAnyH_done (by kernel_rfl) ?_ _
        have J5 := Lib.hid ((H5A.out.grown hg5 (HNE.out W5.heap.size (by omega))).set2 (.slice (some ⟨g5, 0, none⟩) (k + 1) c5))
        have J0 := Lib.hid ((H0A.out.grown hg5 (HNE.out _ (by omega))).far (a := ⟨W5.heap.size, 2, none⟩) (show w.heap.size ≠ W5.heap.size by omega) (.slice (some ⟨g5, 0, none⟩) (k + 1) c5))
        have J1 := Lib.hid ((H1A.out.grown hg5 (HNE.out _ (by omega))).far (a := ⟨W5.heap.size, 2, none⟩) (show w.heap.size + 1 + 1 ≠ W5.heap.size by omega) (.slice (some ⟨g5, 0, none⟩) (k + 1) c5))
        have JS := Lib.hid ((HSA.out.keep (w' := w6) (fun p hp => World.cell?_of_block (hg5.block _ (by simp; omega) (HNE.out _ (by omega))))).keep (w' := w6.setCell ⟨W5.heap.size, 2, none⟩ (.slice (some ⟨g5, 0, none⟩) (k + 1) c5)) (fun p hp => World.cell?_setCell_other _ _ _ _ (fun e => by rw [← e] at hp; exact absurd (show W5.heap.size < W5.heap.size from hp) (by omega))))
        have J2' := Lib.hid ((H2A.out.grown hg5 (HNE.out _ (by omega))).far (a := ⟨W5.heap.size, 2, none⟩) (show w.heap.size + 1 ≠ W5.heap.size by omega) (.slice (some ⟨g5, 0, none⟩) (k + 1) c5))
        have JK := Lib.hid ((HKA.out.keep (w' := w6) (fun p hp => World.cell?_of_block (hg5.block _ (by simp; omega) (HNE.out _ (by omega))))).keep (w' := w6.setCell ⟨W5.heap.size, 2, none⟩ (.slice (some ⟨g5, 0, none⟩) (k + 1) c5)) (fun p hp => World.cell?_setCell_other _ _ _ _ (fun e => by rw [← e] at hp; exact absurd (show W5.heap.size < W5.heap.size from hp) (by omega))))
        have JB := Lib.hid ((HBA.out.grown hg5 (by simp; omega) (fun g e => by have := (hbl.out g e).1; omega)).setCell (p := ⟨W5.heap.size, 2, none⟩) (show w.heap.size ≤ W5.heap.size by omega) (.slice (some ⟨g5, 0, none⟩) (k + 1) c5))
        have JR := Lib.hid (hr5.grown (set_grown w6 W5.heap.size 2 (.slice (some ⟨g5, 0, none⟩) (k + 1) c5)) (fun g e => by cases e; left; omega))
        have hsz5 := hg5.size
        clear hr5 hg5 hat5 q0 q1 q2 q3 y3 y4 y5
        go_wp2
        go_roundw
        case rel => exact ⟨k + 1, _, by omega, by go_num, J5.out, by rw [HT.out]; simpa using JR.out, J0.out, J2'.out, J1.out, JS.out, JK.out, JB.out, by simp at hsz5 ⊢; omega⟩
        case measure => simp [intOf]; omega
      · (go_simp; go_at_call 71; refine (hsc.out _).mono ?_; rintro e w' ⟨rfl, rfl⟩)
        refine hK.out _ _ ⟨hca, hck, u2, y2'⟩ (fun hHeld => ?_)
        clear hK K
        (try simp only [Act.put, List.setIfInBounds_toArray, List.set_cons_zero, List.set_cons_succ])
        refine wpAnyH_ready (rs := [1, 13]) (by kernel_rfl) (by simp) ?_
        refine AllReadyH.cons (o := { dst := some 29, op := Op.load 22 (Operand.tmp 28), type := 22, pos := "l3_matrices.go:29", after := #[{ on := 0, ground := Ground.data }], guard := none }) rfl (fun K hK => ?_) (AllReadyH.cons (o := { dst := some 41, op := Op.buildSlice 22 1 #[(0, Operand.tmp 40)], type := 22, pos := "l3_matrices.go:29", after := #[{ on := 12, ground := Ground.data }], guard := none }) rfl (fun K hK => ?_) AllReadyH.nil)
        · go_simp
          refine hK.out _ _ ⟨hca, hck, u2, y2'⟩ (fun hHeld => ?_)
          clear hK K
          (try simp only [Act.put, List.setIfInBounds_toArray, List.set_cons_zero, List.set_cons_succ])
          refine wpAnyH_ready (rs := [13]) (by kernel_rfl) (by simp) ?_
          refine AllReadyH.cons (o := { dst := some 41, op := Op.buildSlice 22 1 #[(0, Operand.tmp 40)], type := 22, pos := "l3_matrices.go:29", after := #[{ on := 12, ground := Ground.data }], guard := none }) rfl (fun K hK => ?_) AllReadyH.nil
          go_simp
          refine hK.out _ _ ⟨hcaA, hckA, hu2A, hy2A⟩ (fun hHeld => ?_)
          clear hK K
          (try simp only [Act.put, List.setIfInBounds_toArray, List.set_cons_zero, List.set_cons_succ])
          refine wpAnyH_ready (rs := [14]) (by kernel_rfl) (by simp) ?_
          refine AllReadyH.cons (o := { dst := some 42, op := Op.call { callee := Callee.builtin Builtin.append, args := #[Operand.tmp 29, Operand.tmp 41], argTypes := #[22, 22] }, type := 22, pos := "l3_matrices.go:29", after := #[{ on := 1, ground := Ground.data }, { on := 13, ground := Ground.data }, { on := 12, ground := Ground.chain }], guard := none }) rfl (fun K hK => ?_) AllReadyH.nil
          (refine step_app1 (by rfl) (.tmp 29) (.tmp 41) (by rfl) W6.heap.size (wr.heap.size + 1) (.slice As k cs) ys k (by rfl) hownD wr.heap.size z (by rfl) hcz HYL.out (by omega) (by simp; omega) ?_; intro g5 c5 w6 hr5 hg5 hat5 hlt5; have q0 := hg5.cell hcaA (HNE.out b (by omega)); have q1 := hg5.cell hckA (HNE.out bk (by omega)); have q2 := hg5.cell hu2A (HNE.out w.heap.size (by omega)); have q3 := hg5.cell hy2A (HNE.out (w.heap.size + 1) (by omega)); obtain ⟨y3, y4, y5, g3, g4, g5', ylt⟩ := H5A.out.grown hg5 (HNE.out W5.heap.size (by omega)))
          refine hK.out _ _ ⟨q0, q1, q2, q3⟩ (fun hHeld => ?_)
          clear hK K
          (try simp only [Act.put, List.setIfInBounds_toArray, List.set_cons_zero, List.set_cons_succ])
          refine wpAnyH_take (i := 15) (oi := { dst := some 43, op := Op.fieldAddr 33 (Operand.tmp 5) 2, type := 0, pos := "l3_matrices.go:29", after := #[{ on := 0, ground := Ground.phase }, { on := 1, ground := Ground.phase }, { on := 2, ground := Ground.phase }, { on := 3, ground := Ground.phase }, { on := 4, ground := Ground.phase }, { on := 5, ground := Ground.phase }, { on := 6, ground := Ground.phase }, { on := 7, ground := Ground.phase }, { on := 8, ground := Ground.phase }, { on := 9, ground := Ground.phase }, { on := 10, ground := Ground.phase }, { on := 11, ground := Ground.phase }, { on := 12, ground := Ground.phase }, { on := 13, ground := Ground.phase }, { on := 14, ground := Ground.phase }], guard := none }) (v := ?_) rfl (by kernel_rfl) (by kernel_rfl) (by kernel_rfl) (fun _ _ _ h => h) (Or.inl ⟨by rfl, ?_⟩) (by assumption) ?_
          rotate_left
          · intro w hSw
            (try dsimp only at hSw)
            go_simp
            (try (with_reducible rfl))
          (try simp only [Act.put, List.setIfInBounds_toArray, List.set_cons_zero, List.set_cons_succ])
          refine wpAnyH_ready (rs := [16]) (by kernel_rfl) (by simp) ?_
          refine AllReadyH.cons (o := { dst := none, op := Op.store 22 (Operand.tmp 43) (Operand.tmp 42), type := 0, pos := "l3_matrices.go:29", after := #[{ on := 15, ground := Ground.data }, { on := 14, ground := Ground.data }, { on := 14, ground := Ground.chain }, { on := 0, ground := Ground.phase }, { on := 1, ground := Ground.phase }, { on := 2, ground := Ground.phase }, { on := 3, ground := Ground.phase }, { on := 4, ground := Ground.phase }, { on := 5, ground := Ground.phase }, { on := 6, ground := Ground.phase }, { on := 7, ground := Ground.phase }, { on := 8, ground := Ground.phase }, { on := 9, ground := Ground.phase }, { on := 10, ground := Ground.phase }, { on := 11, ground := Ground.phase }, { on := 12, ground := Ground.phase }, { on := 13, ground := Ground.phase }, { on := 14, ground := Ground.phase }], guard := none }) rfl (fun K hK => ?_) AllReadyH.nil
          go_simp
          refine hK.out _ _ ⟨(World.cell?_setCell_other _ _ _ _ (by intro e; injection e with e1; exact absurd e1 (show ¬ W5.heap.size = b by omega))).trans q0, (World.cell?_setCell_other _ _ _ _ (by intro e; injection e with e1; exact absurd e1 (show ¬ W5.heap.size = bk by omega))).trans q1, (World.cell?_setCell_other _ _ _ _ (by intro e; injection e with e1; exact absurd e1 (show ¬ W5.heap.size = w.heap.size by omega))).trans q2, (World.cell?_setCell_other _ _ _ _ (by intro e; injection e with e1; exact absurd e1 (show ¬ W5.heap.size = w.heap.size + 1 by omega))).trans q3⟩ (fun hHeld => ?_)
          clear hK K
          (try simp only [Act.put, List.setIfInBounds_toArray, List.set_cons_zero, List.set_cons_succ])
          refine wpAnyH_done (by kernel_rfl) ?_ _
          have J5 := Lib.hid ((H5A.out.grown hg5 (HNE.out W5.heap.size (by omega))).set2 (.slice (some ⟨g5, 0, none⟩) (k + 1) c5))
          have J0 := Lib.hid ((H0A.out.grown hg5 (HNE.out _ (by omega))).far (a := ⟨W5.heap.size, 2, none⟩) (show w.heap.size ≠ W5.heap.size by omega) (.slice (some ⟨g5, 0, none⟩) (k + 1) c5))
          have J1 := Lib.hid ((H1A.out.grown hg5 (HNE.out _ (by omega))).far (a := ⟨W5.heap.size, 2, none⟩) (show w.heap.size + 1 + 1 ≠ W5.heap.size by omega) (.slice (some ⟨g5, 0, none⟩) (k + 1) c5))
          have JS := Lib.hid ((HSA.out.keep (w' := w6) (fun p hp => World.cell?_of_block (hg5.block _ (by simp; omega) (HNE.out _ (by omega))))).keep (w' := w6.setCell ⟨W5.heap.size, 2, none⟩ (.slice (some ⟨g5, 0, none⟩) (k + 1) c5)) (fun p hp => World.cell?_setCell_other _ _ _ _ (fun e => by rw [← e] at hp; exact absurd (show W5.heap.size < W5.heap.size from hp) (by omega))))
          have J2' := Lib.hid ((H2A.out.grown hg5 (HNE.out _ (by omega))).far (a := ⟨W5.heap.size, 2, none⟩) (show w.heap.size + 1 ≠ W5.heap.size by omega) (.slice (some ⟨g5, 0, none⟩) (k + 1) c5))
          have JK := Lib.hid ((HKA.out.keep (w' := w6) (fun p hp => World.cell?_of_block (hg5.block _ (by simp; omega) (HNE.out _ (by omega))))).keep (w' := w6.setCell ⟨W5.heap.size, 2, none⟩ (.slice (some ⟨g5, 0, none⟩) (k + 1) c5)) (fun p hp => World.cell?_setCell_other _ _ _ _ (fun e => by rw [← e] at hp; exact absurd (show W5.heap.size < W5.heap.size from hp) (by omega))))
          have JB := Lib.hid ((HBA.out.grown hg5 (by simp; omega) (fun g e => by have := (hbl.out g e).1; omega)).setCell (p := ⟨W5.heap.size, 2, none⟩) (show w.heap.size ≤ W5.heap.size by omega) (.slice (some ⟨g5, 0, none⟩) (k + 1) c5))
          have JR := Lib.hid (hr5.grown (set_grown w6 W5.heap.size 2 (.slice (some ⟨g5, 0, none⟩) (k + 1) c5)) (fun g e => by cases e; left; omega))
          have hsz5 := hg5.size
          clear hr5 hg5 hat5 q0 q1 q2 q3 y3 y4 y5
          go_wp2
          go_roundw
          case rel => exact ⟨k + 1, _, by omega, by go_num, J5.out, by rw [HT.out]; simpa using JR.out, J0.out, J2'.out, J1.out, JS.out, JK.out, JB.out, by simp at hsz5 ⊢; omega⟩
          case measure => simp [intOf]; omega
        · go_simp
          refine hK.out _ _ ⟨hcaA, hckA, hu2A, hy2A⟩ (fun hHeld => ?_)
          clear hK K
          (try simp only [Act.put, List.setIfInBounds_toArray, List.set_cons_zero, List.set_cons_succ])
          refine wpAnyH_ready (rs := [1]) (by kernel_rfl) (by simp) ?_
          refine AllReadyH.cons (o := { dst := some 29, op := Op.load 22 (Operand.tmp 28), type := 22, pos := "l3_matrices.go:29", after := #[{ on := 0, ground := Ground.data }], guard := none }) rfl (fun K hK => ?_) AllReadyH.nil
          go_simp
          refine hK.out _ _ ⟨hcaA, hckA, hu2A, hy2A⟩ (fun hHeld => ?_)
          clear hK K
          (try simp only [Act.put, List.setIfInBounds_toArray, List.set_cons_zero, List.set_cons_succ])
          refine wpAnyH_ready (rs := [14]) (by kernel_rfl) (by simp) ?_
          refine AllReadyH.cons (o := { dst := some 42, op := Op.call { callee := Callee.builtin Builtin.append, args := #[Operand.tmp 29, Operand.tmp 41], argTypes := #[22, 22] }, type := 22, pos := "l3_matrices.go:29", after := #[{ on := 1, ground := Ground.data }, { on := 13, ground := Ground.data }, { on := 12, ground := Ground.chain }], guard := none }) rfl (fun K hK => ?_) AllReadyH.nil
          (refine step_app1 (by rfl) (.tmp 29) (.tmp 41) (by rfl) W6.heap.size (wr.heap.size + 1) (.slice As k cs) ys k (by rfl) hownD wr.heap.size z (by rfl) hcz HYL.out (by omega) (by simp; omega) ?_; intro g5 c5 w6 hr5 hg5 hat5 hlt5; have q0 := hg5.cell hcaA (HNE.out b (by omega)); have q1 := hg5.cell hckA (HNE.out bk (by omega)); have q2 := hg5.cell hu2A (HNE.out w.heap.size (by omega)); have q3 := hg5.cell hy2A (HNE.out (w.heap.size + 1) (by omega)); obtain ⟨y3, y4, y5, g3, g4, g5', ylt⟩ := H5A.out.grown hg5 (HNE.out W5.heap.size (by omega)))
          refine hK.out _ _ ⟨q0, q1, q2, q3⟩ (fun hHeld => ?_)
          clear hK K
          (try simp only [Act.put, List.setIfInBounds_toArray, List.set_cons_zero, List.set_cons_succ])
          refine wpAnyH_take (i := 15) (oi := { dst := some 43, op := Op.fieldAddr 33 (Operand.tmp 5) 2, type := 0, pos := "l3_matrices.go:29", after := #[{ on := 0, ground := Ground.phase }, { on := 1, ground := Ground.phase }, { on := 2, ground := Ground.phase }, { on := 3, ground := Ground.phase }, { on := 4, ground := Ground.phase }, { on := 5, ground := Ground.phase }, { on := 6, ground := Ground.phase }, { on := 7, ground := Ground.phase }, { on := 8, ground := Ground.phase }, { on := 9, ground := Ground.phase }, { on := 10, ground := Ground.phase }, { on := 11, ground := Ground.phase }, { on := 12, ground := Ground.phase }, { on := 13, ground := Ground.phase }, { on := 14, ground := Ground.phase }], guard := none }) (v := ?_) rfl (by kernel_rfl) (by kernel_rfl) (by kernel_rfl) (fun _ _ _ h => h) (Or.inl ⟨by rfl, ?_⟩) (by assumption) ?_
          rotate_left
          · intro w hSw
            (try dsimp only at hSw)
            go_simp
            (try (with_reducible rfl))
          (try simp only [Act.put, List.setIfInBounds_toArray, List.set_cons_zero, List.set_cons_succ])
          refine wpAnyH_ready (rs := [16]) (by kernel_rfl) (by simp) ?_
          refine AllReadyH.cons (o := { dst := none, op := Op.store 22 (Operand.tmp 43) (Operand.tmp 42), type := 0, pos := "l3_matrices.go:29", after := #[{ on := 15, ground := Ground.data }, { on := 14, ground := Ground.data }, { on := 14, ground := Ground.chain }, { on := 0, ground := Ground.phase }, { on := 1, ground := Ground.phase }, { on := 2, ground := Ground.phase }, { on := 3, ground := Ground.phase }, { on := 4, ground := Ground.phase }, { on := 5, ground := Ground.phase }, { on := 6, ground := Ground.phase }, { on := 7, ground := Ground.phase }, { on := 8, ground := Ground.phase }, { on := 9, ground := Ground.phase }, { on := 10, ground := Ground.phase }, { on := 11, ground := Ground.phase }, { on := 12, ground := Ground.phase }, { on := 13, ground := Ground.phase }, { on := 14, ground := Ground.phase }], guard := none }) rfl (fun K hK => ?_) AllReadyH.nil
          go_simp
          refine hK.out _ _ ⟨(World.cell?_setCell_other _ _ _ _ (by intro e; injection e with e1; exact absurd e1 (show ¬ W5.heap.size = b by omega))).trans q0, (World.cell?_setCell_other _ _ _ _ (by intro e; injection e with e1; exact absurd e1 (show ¬ W5.heap.size = bk by omega))).trans q1, (World.cell?_setCell_other _ _ _ _ (by intro e; injection e with e1; exact absurd e1 (show ¬ W5.heap.size = w.heap.size by omega))).trans q2, (World.cell?_setCell_other _ _ _ _ (by intro e; injection e with e1; exact absurd e1 (show ¬ W5.heap.size = w.heap.size + 1 by omega))).trans q3⟩ (fun hHeld => ?_)
          clear hK K
          (try simp only [Act.put, List.setIfInBounds_toArray, List.set_cons_zero, List.set_cons_succ])
          refine wpAnyH_done (by kernel_rfl) ?_ _
          have J5 := Lib.hid ((H5A.out.grown hg5 (HNE.out W5.heap.size (by omega))).set2 (.slice (some ⟨g5, 0, none⟩) (k + 1) c5))
          have J0 := Lib.hid ((H0A.out.grown hg5 (HNE.out _ (by omega))).far (a := ⟨W5.heap.size, 2, none⟩) (show w.heap.size ≠ W5.heap.size by omega) (.slice (some ⟨g5, 0, none⟩) (k + 1) c5))
          have J1 := Lib.hid ((H1A.out.grown hg5 (HNE.out _ (by omega))).far (a := ⟨W5.heap.size, 2, none⟩) (show w.heap.size + 1 + 1 ≠ W5.heap.size by omega) (.slice (some ⟨g5, 0, none⟩) (k + 1) c5))
          have JS := Lib.hid ((HSA.out.keep (w' := w6) (fun p hp => World.cell?_of_block (hg5.block _ (by simp; omega) (HNE.out _ (by omega))))).keep (w' := w6.setCell ⟨W5.heap.size, 2, none⟩ (.slice (some ⟨g5, 0, none⟩) (k + 1) c5)) (fun p hp => World.cell?_setCell_other _ _ _ _ (fun e => by rw [← e] at hp; exact absurd (show W5.heap.size < W5.heap.size from hp) (by omega))))
          have J2' := Lib.hid ((H2A.out.grown hg5 (HNE.out _ (by omega))).far (a := ⟨W5.heap.size, 2, none⟩) (show w.heap.size + 1 ≠ W5.heap.size by omega) (.slice (some ⟨g5, 0, none⟩) (k + 1) c5))
          have JK := Lib.hid ((HKA.out.keep (w' := w6) (fun p hp => World.cell?_of_block (hg5.block _ (by simp; omega) (HNE.out _ (by omega))))).keep (w' := w6.setCell ⟨W5.heap.size, 2, none⟩ (.slice (some ⟨g5, 0, none⟩) (k + 1) c5)) (fun p hp => World.cell?_setCell_other _ _ _ _ (fun e => by rw [← e] at hp; exact absurd (show W5.heap.size < W5.heap.size from hp) (by omega))))
          have JB := Lib.hid ((HBA.out.grown hg5 (by simp; omega) (fun g e => by have := (hbl.out g e).1; omega)).setCell (p := ⟨W5.heap.size, 2, none⟩) (show w.heap.size ≤ W5.heap.size by omega) (.slice (some ⟨g5, 0, none⟩) (k + 1) c5))
          have JR := Lib.hid (hr5.grown (set_grown w6 W5.heap.size 2 (.slice (some ⟨g5, 0, none⟩) (k + 1) c5)) (fun g e => by cases e; left; omega))
          have hsz5 := hg5.size
          clear hr5 hg5 hat5 q0 q1 q2 q3 y3 y4 y5
          go_wp2
          go_roundw
          case rel => exact ⟨k + 1, _, by omega, by go_num, J5.out, by rw [HT.out]; simpa using JR.out, J0.out, J2'.out, J1.out, JS.out, JK.out, JB.out, by simp at hsz5 ⊢; omega⟩
          case measure => simp [intOf]; omega
    · have e : k = zs.length := by omega
      subst e
      rw [HTF.out] at hrow
      have HROW := Lib.hid hrow
      have HBEL := Lib.hid hbel
      have H1 := Lib.hid h1
      obtain ⟨v0, v1, v2, p0, p1, p2, vlt⟩ := h5
      obtain ⟨b0, b1, b2, g0, g1, g2, blt⟩ := h1
      obtain ⟨u0, u1, u2, _, _, _, ult⟩ := h0
      clear hrow hsl hslk hbel
      go_wp2
      have P2 := ((H1.out.set0 (.int .i64 r)).set1 (.int .i64 c)).set2 (.slice As zs.length cs)
      have R2 := HROW.out.grown (set_grown _ (w.heap.size + 1 + 1) 0 (.int .i64 r)) (fun g e => by cases e; left; omega)
      have R3 := R2.grown (set_grown _ (w.heap.size + 1 + 1) 1 (.int .i64 c)) (fun g e => by cases e; left; omega)
      have R4 := R3.grown (set_grown _ (w.heap.size + 1 + 1) 2 (.slice As zs.length cs)) (fun g e => by cases e; left; omega)
      have B4 := ((HBEL.out.setCell (p := ⟨w.heap.size + 1 + 1, 0, none⟩) (by simp; omega) (.int .i64 r)).setCell (p := ⟨w.heap.size + 1 + 1, 1, none⟩) (by simp; omega) (.int .i64 c)).setCell (p := ⟨w.heap.size + 1 + 1, 2, none⟩) (by simp; omega) (.slice As zs.length cs)
      have S4 : ((((wr.setCell ⟨w.heap.size + 1 + 1, 0, none⟩ (.int .i64 r)).setCell ⟨w.heap.size + 1 + 1, 1, none⟩ (.int .i64 c)).setCell ⟨w.heap.size + 1 + 1, 2, none⟩ (.slice As zs.length cs)).heap.size) = wr.heap.size := by simp
      obtain ⟨W4', hW4⟩ : ∃ W4, (((wr.setCell ⟨w.heap.size + 1 + 1, 0, none⟩ (.int .i64 r)).setCell ⟨w.heap.size + 1 + 1, 1, none⟩ (.int .i64 c)).setCell ⟨w.heap.size + 1 + 1, 2, none⟩ (.slice As zs.length cs)) = W4 := ⟨_, rfl⟩
      rw [hW4] at P2 R4 B4 S4 ⊢
      obtain ⟨z0, z1, z2, _, _, _, _⟩ := P2
      refine bodyPost_ret (v := matV r c (.slice As zs.length cs)) (by simp [results, Try.results56, go_sem, z0, z1, z2]) rfl ?_
      exact ⟨_, rfl, R4.wider (by omega) (by omega), B4⟩
end Go.Proofs.Ytilmglockldddaa
