/- Contracts: products of cells, the reference's. (Printed by gen_H7.py.) -/
import Derived.Test.YtdebnbgjnmoleaaFnsH5
import Derived.Test.YtdebnbgjnmoleaaFnsH6
import Derived.Deep.RegionHeld3
import Derived.StillTailTactics
namespace Go.Proofs.Ytdebnbgjnmoleaa
open Go.RowKit

theorem specRingT (x : Int) (w : World) (h0 : 0 ≤ x) (_ : x ≤ 4000000000000000000) : Calls Try.prog 60 #[.int .i64 x] w fun e w' => e = .returned (.int .i64 (x % 4096)) ∧ w = w' := by
  have e1 : Int.tmod x 4096 = x % 4096 := Int.tmod_eq_emod_of_nonneg h0
  have e2 : Int.tmod (x % 4096 + 4096) 4096 = x % 4096 := by rw [Int.tmod_eq_emod_of_nonneg (by omega)]; omega
  have h2 : 0 ≤ x % 4096 ∧ x % 4096 < 4096 := by omega
  obtain ⟨y, hy⟩ : ∃ y, x % 4096 = y := ⟨_, rfl⟩
  rw [hy] at e1 e2 h2 ⊢
  clear hy
  have hcall : Calls Try.prog 69 #[.int .i64 x] w fun e w' => e = .returned (.int .i64 y) ∧ w = w' := by
    go_enter Try.func69, Try.ntmps69
    go_wp2
    go_ret
    exact ⟨by first | rfl | (simp; omega), rfl⟩
  go_enter Try.func60, Try.ntmps60
  go_wp2_with fail
  refine hcall.mono ?_
  rintro e w' ⟨rfl, rfl⟩
  go_wp2
  go_ret
  exact ⟨rfl, rfl⟩
theorem mkA (w : World) (n : Nat) (r c : Int) (hn : n ≤ 2000000) : ∀ X, X = ((w.alloc (.cells (madeCells #[Value.int .i64 0] n) 3)).alloc (.cells #[.int .i64 r, .int .i64 c, .slice (some ⟨w.heap.size, 0, none⟩) n n] 28)).drew →
    Cell3 X (w.heap.size + 1) (.int .i64 r) (.int .i64 c) (.slice (some ⟨w.heap.size, 0, none⟩) n n) ∧ Row X w.heap.size X.heap.size (.slice (some ⟨w.heap.size, 0, none⟩) n n) (List.replicate n 0) ∧ Below w.heap.size w X := by
  rintro X rfl
  have k := Cell3.new (w.alloc (.cells (madeCells #[Value.int .i64 0] n) 3)) (.int .i64 r) (.int .i64 c) (.slice (some ⟨w.heap.size, 0, none⟩) n n) 28
  simp only [World.size_alloc] at k
  have r0 := (made_rowM w n hn).grown (World.grownBy_alloc _ (.cells #[.int .i64 r, .int .i64 c, .slice (some ⟨w.heap.size, 0, none⟩) n n] 28) none) (fun g e => by cases e)
  exact ⟨k.grown ((drewT _).grown none) (by simp), ((drewT _).row r0).wider (Nat.le_refl _) (by simp), (((Below.refl _ _).alloc (Nat.le_refl _) _).alloc (by simp) _).trans (Below.of_drew _)⟩
theorem mkB (w : World) (n : Nat) (r c : Int) (hn : n ≤ 2000000) : ∀ X, X = ((w.alloc (.cells #[.int .i64 r, .int .i64 c, .slice (some ⟨w.heap.size + 1, 0, none⟩) n n] 28)).alloc (.cells (madeCells #[Value.int .i64 0] n) 3)).drew →
    Cell3 X w.heap.size (.int .i64 r) (.int .i64 c) (.slice (some ⟨w.heap.size + 1, 0, none⟩) n n) ∧ Row X w.heap.size X.heap.size (.slice (some ⟨w.heap.size + 1, 0, none⟩) n n) (List.replicate n 0) ∧ Below w.heap.size w X := by
  rintro X rfl
  have k := (Cell3.new w (.int .i64 r) (.int .i64 c) (.slice (some ⟨w.heap.size + 1, 0, none⟩) n n) 28).alloc (.cells (madeCells #[Value.int .i64 0] n) 3)
  have r0 := made_rowM (w.alloc (.cells #[.int .i64 r, .int .i64 c, .slice (some ⟨w.heap.size + 1, 0, none⟩) n n] 28)) n hn
  simp only [World.size_alloc] at r0
  exact ⟨k.grown ((drewT _).grown none) (by simp), ((drewT _).row r0).wider (by omega) (by simp), (((Below.refl _ _).alloc (Nat.le_refl _) _).alloc (by simp) _).trans (Below.of_drew _)⟩
theorem cmB_yes {rows cols : Int} {ts : List Tri} (h : OkC rows cols ts) : cmB rows cols ts = true := by
  classical
  unfold cmB; exact decide_eq_true h
theorem cmB_not {rows cols : Int} {ts : List Tri} (h : ¬ OkC rows cols ts) : cmB rows cols ts = false := by
  classical
  unfold cmB; exact decide_eq_false h
section
variable (rows cols : Int) (A : Option Addr) (cap B : Nat) (ts : List Tri) (mr mc : Int) (Am : Option Addr) (capm nm Bm : Nat) (ms : List Int) (w : World) (hs : Sl w B A (fl ts)) (hB : B ≤ w.heap.size) (hn : ts.length ≤ 2000000)
  (hsm : Sl w Bm Am ms) (hBm : Bm ≤ w.heap.size) (em : nm = ms.length) (hnm : nm ≤ 1100000)
include hs hB hn hsm hBm em hnm
set_option maxHeartbeats 3200000 in
theorem specCT_no (h : ¬ OkT rows cols ts mr mc ms) :
    Calls Try.prog 31 #[.int .i64 rows, .int .i64 cols, .slice A ts.length cap, matV mr mc (.slice Am nm capm)] w fun e w' => e = .returned (.tuple #[matV 0 0 (.slice none 0 0), .bool false]) ∧ Below w.heap.size w w' := by
  subst em
  obtain ⟨W, hW⟩ : ∃ W, (w.alloc (.cells #[.int .i64 mr, .int .i64 mc, .slice Am ms.length capm] 28)).alloc (.cells #[.int .i64 0, .int .i64 0, .slice none 0 0] 28) = W := ⟨_, rfl⟩
  obtain ⟨q0, q1, hb, hws⟩ := nestT w mr mc (.slice Am ms.length capm) W hW.symm
  have HS := Lib.hid (hs.below hb hB)
  have HSM := Lib.hid (hsm.below hb hBm)
  have Q0 := Lib.hid q0
  have Q1 := Lib.hid q1
  have HB := Lib.hid hb
  obtain ⟨a0, a1, a2, f0, f1, f2, alt⟩ := q0
  clear hs hsm q1 hb
  go_enter Try.func31, Try.ntmps31
  go_wp2_with fail
  refine (ownM_any mr mc Am capm _ Bm ms W HSM.out (by omega) rfl hnm).mono ?_
  rintro e w2 ⟨s2, rfl, hr2, hb2⟩
  obtain ⟨A2, c2, rfl, _, _, hs2⟩ := hr2.form
  have k0 := Q0.out.below hb2 (by omega)
  have k1 := Q1.out.below hb2 (by omega)
  have K0 := Lib.hid (((k0.set0 (.int .i64 mr)).set1 (.int .i64 mc)).set2 (.slice A2 ms.length c2))
  have K1 := Lib.hid (((k1.far (a := ⟨w.heap.size, 0, none⟩) (by simp) (.int .i64 mr)).far (a := ⟨w.heap.size, 1, none⟩) (by simp) (.int .i64 mc)).far (a := ⟨w.heap.size, 2, none⟩) (by simp) (.slice A2 ms.length c2))
  have hz2 := hb2.size
  have HS2 := Lib.hid (HS.out.below hb2 (by omega))
  have hsf : ∀ (a : Addr) (u : Value) (X : World), a.block = w.heap.size → Sl X B A (fl ts) → Sl (X.setCell a u) B A (fl ts) := fun a u X ha h => h.keep (fun p hp => World.cell?_setCell_other _ _ _ _ (fun e => by rw [← e, ha] at hp; exact absurd hp (by omega)))
  have HS3 := Lib.hid (hsf ⟨w.heap.size, 2, none⟩ (.slice A2 ms.length c2) _ rfl (hsf ⟨w.heap.size, 1, none⟩ (.int .i64 mc) _ rfl (hsf ⟨w.heap.size, 0, none⟩ (.int .i64 mr) _ rfl HS2.out)))
  obtain ⟨c0, c1, c2', d0, d1, d2, clt⟩ := k0
  clear a0 a1 a2 f0 f1 f2 alt Q0 Q1 k1 HS HS2 hsf
  go_wp2_with fail
  have R1 := hr2.grown (set_grown _ w.heap.size 0 (.int .i64 mr)) (fun g e => by cases e; left; omega)
  have R2 := R1.grown (set_grown _ w.heap.size 1 (.int .i64 mc)) (fun g e => by cases e; left; omega)
  have R3 := R2.grown (set_grown _ w.heap.size 2 (.slice A2 ms.length c2)) (fun g e => by cases e; left; omega)
  have B3 := (((HB.out.trans (hb2.mono (show w.heap.size ≤ W.heap.size by omega))).setCell (p := ⟨w.heap.size, 0, none⟩) (Nat.le_refl _) (.int .i64 mr)).setCell (p := ⟨w.heap.size, 1, none⟩) (Nat.le_refl _) (.int .i64 mc)).setCell (p := ⟨w.heap.size, 2, none⟩) (Nat.le_refl _) (.slice A2 ms.length c2)
  have S3 : ((((w2.setCell ⟨w.heap.size, 0, none⟩ (.int .i64 mr)).setCell ⟨w.heap.size, 1, none⟩ (.int .i64 mc)).setCell ⟨w.heap.size, 2, none⟩ (.slice A2 ms.length c2)).heap.size) = w2.heap.size := by simp
  obtain ⟨U, hU⟩ : ∃ U, (((w2.setCell ⟨w.heap.size, 0, none⟩ (.int .i64 mr)).setCell ⟨w.heap.size, 1, none⟩ (.int .i64 mc)).setCell ⟨w.heap.size, 2, none⟩ (.slice A2 ms.length c2)) = U := ⟨_, rfl⟩
  rw [hU] at K0 K1 R3 B3 S3 HS3 ⊢
  have HSU := Lib.hid (R3.sl_now.more (Nat.le_of_eq S3.symm))
  have HBU := Lib.hid B3
  have hUs : w.heap.size + 2 ≤ U.heap.size := by omega
  clear R1 R2 R3 B3 hb2 hr2 hs2 c0 c1 c2' d0 d1 d2 clt HB HSM hws S3 hz2
  clear hU hW
  refine (specCM_any rows cols A cap B ts U HS3.out (by omega) hn).mono ?_
  rintro e w3 ⟨s3, rfl, hr3, hb3⟩
  obtain ⟨pr, hpr⟩ : ∃ x, cmR rows cols ts = x := ⟨_, rfl⟩
  obtain ⟨pc, hpc⟩ : ∃ x, cmC rows cols ts = x := ⟨_, rfl⟩
  obtain ⟨A3, c3, rfl, _, _, _⟩ := hr3.form
  obtain ⟨l3, hl3⟩ : ∃ x, (cmZ rows cols ts).length = x := ⟨_, rfl⟩
  rw [hpr, hpc, hl3]
  have hz3 := hb3.size
  have hb4 := hb3.alloc hz3 (.cells #[.int .i64 pr, .int .i64 pc, .slice A3 l3 c3] 28)
  obtain ⟨X, hX⟩ : ∃ X, w3.alloc (.cells #[.int .i64 pr, .int .i64 pc, .slice A3 l3 c3] 28) = X := ⟨_, rfl⟩
  rw [hX] at hb4
  have hz4 := hb4.size
  have HK0 := Lib.hid (K0.out.below hb4 (by omega))
  have HK1 := Lib.hid (K1.out.below hb4 (by omega))
  have HS4 := Lib.hid (HS3.out.below hb4 (by omega))
  have HSV := Lib.hid (HSU.out.below hb4 (Nat.le_refl _))
  have HBV := Lib.hid (HBU.out.trans (hb4.mono (by omega)))
  clear hb3 hb4 hr3 hpr hpc hl3 K0 K1 HS3 HSU HBU hz3
  obtain ⟨c0, c1, c2', _, _, _, clt⟩ := HK0.out
  by_cases hC : OkC rows cols ts
  · rw [cmB_yes hC]
    by_cases hM : OkM mr mc ms
    · have hne : (mr == cols) = false := by
        have : mr ≠ cols := fun e => h ⟨hC, hM, e⟩
        simpa using this
      have HM := Lib.hid hM
      clear hM hC h
      go_wp2_with fail
      refine (specMV_yes mr mc A2 c2 _ U.heap.size ms X HSV.out hz4 rfl (by omega) HM.out).mono ?_
      rintro e w5 ⟨rfl, hb5⟩
      have HQ1 := Lib.hid (HK0.out.below hb5 (by omega))
      have HP := Lib.hid (HK1.out.below hb5 (by omega))
      have HB2 := Lib.hid (HBV.out.trans (hb5.mono (by omega)))
      clear hb5 c0 c1 c2' clt
      obtain ⟨c0, c1, c2', _, _, _, clt⟩ := HQ1.out
      obtain ⟨b0, b1, b2, g0, g1, g2, blt⟩ := HP.out
      go_wp2
      have P2 := ((HP.out.set0 (.int .i64 0)).set1 (.int .i64 0)).set2 (.slice none 0 0)
      have B4 := ((HB2.out.setCell (p := ⟨w.heap.size + 1, 0, none⟩) (by simp) (.int .i64 0)).setCell (p := ⟨w.heap.size + 1, 1, none⟩) (by simp) (.int .i64 0)).setCell (p := ⟨w.heap.size + 1, 2, none⟩) (by simp) (.slice none 0 0)
      obtain ⟨W4, hW4⟩ : ∃ W4, (((w5.setCell ⟨w.heap.size + 1, 0, none⟩ (.int .i64 0)).setCell ⟨w.heap.size + 1, 1, none⟩ (.int .i64 0)).setCell ⟨w.heap.size + 1, 2, none⟩ (.slice none 0 0)) = W4 := ⟨_, rfl⟩
      rw [hW4] at P2 B4 ⊢
      obtain ⟨z0, z1, z2, _, _, _, _⟩ := P2
      refine bodyPost_ret (v := .tuple #[matV 0 0 (.slice none 0 0), .bool false]) (by simp [results, Try.results31, go_sem, z0, z1, z2]) rfl ?_
      exact ⟨rfl, B4⟩
    · have HM := Lib.hid hM
      clear hM hC h
      go_wp2_with fail
      refine (specMV_no mr mc A2 c2 _ U.heap.size ms X HSV.out hz4 rfl (by omega) HM.out).mono ?_
      rintro e w5 ⟨rfl, hb5⟩
      have HP := Lib.hid (HK1.out.below hb5 (by omega))
      have HB2 := Lib.hid (HBV.out.trans (hb5.mono (by omega)))
      clear hb5 c0 c1 c2' clt
      obtain ⟨b0, b1, b2, g0, g1, g2, blt⟩ := HP.out
      go_wp2
      have P2 := ((HP.out.set0 (.int .i64 0)).set1 (.int .i64 0)).set2 (.slice none 0 0)
      have B4 := ((HB2.out.setCell (p := ⟨w.heap.size + 1, 0, none⟩) (by simp) (.int .i64 0)).setCell (p := ⟨w.heap.size + 1, 1, none⟩) (by simp) (.int .i64 0)).setCell (p := ⟨w.heap.size + 1, 2, none⟩) (by simp) (.slice none 0 0)
      obtain ⟨W4, hW4⟩ : ∃ W4, (((w5.setCell ⟨w.heap.size + 1, 0, none⟩ (.int .i64 0)).setCell ⟨w.heap.size + 1, 1, none⟩ (.int .i64 0)).setCell ⟨w.heap.size + 1, 2, none⟩ (.slice none 0 0)) = W4 := ⟨_, rfl⟩
      rw [hW4] at P2 B4 ⊢
      obtain ⟨z0, z1, z2, _, _, _, _⟩ := P2
      refine bodyPost_ret (v := .tuple #[matV 0 0 (.slice none 0 0), .bool false]) (by simp [results, Try.results31, go_sem, z0, z1, z2]) rfl ?_
      exact ⟨rfl, B4⟩
  · rw [cmB_not hC]
    clear hC h
    have HP := Lib.hid HK1.out
    have HB2 := Lib.hid HBV.out
    obtain ⟨b0, b1, b2, g0, g1, g2, blt⟩ := HP.out
    go_wp2
    have P2 := ((HP.out.set0 (.int .i64 0)).set1 (.int .i64 0)).set2 (.slice none 0 0)
    have B4 := ((HB2.out.setCell (p := ⟨w.heap.size + 1, 0, none⟩) (by simp) (.int .i64 0)).setCell (p := ⟨w.heap.size + 1, 1, none⟩) (by simp) (.int .i64 0)).setCell (p := ⟨w.heap.size + 1, 2, none⟩) (by simp) (.slice none 0 0)
    obtain ⟨W4, hW4⟩ : ∃ W4, (((X.setCell ⟨w.heap.size + 1, 0, none⟩ (.int .i64 0)).setCell ⟨w.heap.size + 1, 1, none⟩ (.int .i64 0)).setCell ⟨w.heap.size + 1, 2, none⟩ (.slice none 0 0)) = W4 := ⟨_, rfl⟩
    rw [hW4] at P2 B4 ⊢
    obtain ⟨z0, z1, z2, _, _, _, _⟩ := P2
    refine bodyPost_ret (v := .tuple #[matV 0 0 (.slice none 0 0), .bool false]) (by simp [results, Try.results31, go_sem, z0, z1, z2]) rfl ?_
    exact ⟨rfl, B4⟩
set_option maxRecDepth 20000 in
set_option maxHeartbeats 6400000 in
theorem specCT_yes (n M : Nat) (hM : mc = (M : Int)) (hN : (n : Int) = rows * mc) (h : OkT rows cols ts mr mc ms) :
    Calls Try.prog 31 #[.int .i64 rows, .int .i64 cols, .slice A ts.length cap, matV mr mc (.slice Am nm capm)] w fun e w' => ∃ s, e = .returned (.tuple #[matV rows mc s, .bool true]) ∧ Row w' w.heap.size w'.heap.size s (tTo n M ms ts ts.length) ∧ Below w.heap.size w w' := by
  subst em
  subst hM
  obtain ⟨hC, hMv, rfl⟩ := h
  have h1 := hC.1
  have h2 := hC.2.1
  have h3 := hMv.2.1
  have hMR := hMv.1
  have HML := Lib.hid hMv.2.2.1
  have hn25 : 1 ≤ n ∧ n ≤ 25 := by have := side_mul h1 h3; omega
  have HMV := Lib.hid hMv
  have HMS := Lib.hid hMv.2.2.2
  have HOK := Lib.hid hC.2.2
  have H := Lib.hid hC
  have HN := Lib.hid hN
  have HT0 : Hid (tTo n M ms ts 0 = List.replicate n 0) := rfl
  have HTL : Hid (∀ k, (tTo n M ms ts k).length = n) := fun k => tTo_len n M ms ts k
  have HTS : Hid (∀ k, tTo n M ms ts (k + 1) = tStep M ms (ts.getD k t0) (tTo n M ms ts k) M) := fun _ => rfl
  have HTR : Hid (∀ k p, 0 ≤ (tTo n M ms ts k).getD p 0 ∧ (tTo n M ms ts k).getD p 0 ≤ 4095) := fun k => tTo_range n M ms ts k
  obtain ⟨T, hT⟩ : ∃ T, tTo n M ms ts = T := ⟨_, rfl⟩
  rw [hT] at HT0 HTL HTS HTR ⊢
  clear hT hC hMv hN
  obtain ⟨W, hW⟩ : ∃ W, (w.alloc (.cells #[.int .i64 mr, .int .i64 M, .slice Am ms.length capm] 28)).alloc (.cells #[.int .i64 0, .int .i64 0, .slice none 0 0] 28) = W := ⟨_, rfl⟩
  obtain ⟨q0, q1, hb, hws⟩ := nestT w mr M (.slice Am ms.length capm) W hW.symm
  have HS := Lib.hid (hs.below hb hB)
  have HSM := Lib.hid (hsm.below hb hBm)
  have Q0 := Lib.hid q0
  have Q1 := Lib.hid q1
  have HB := Lib.hid hb
  obtain ⟨a0, a1, a2, f0, f1, f2, alt⟩ := q0
  clear hs hsm q1 hb
  go_enter Try.func31, Try.ntmps31
  go_wp2_with fail
  refine (ownM_any mr M Am capm _ Bm ms W HSM.out (by omega) rfl hnm).mono ?_
  rintro e w2 ⟨s2, rfl, hr2, hb2⟩
  obtain ⟨A2, c2, rfl, _, _, hs2⟩ := hr2.form
  have k0 := Q0.out.below hb2 (by omega)
  have k1 := Q1.out.below hb2 (by omega)
  have K0 := Lib.hid (((k0.set0 (.int .i64 mr)).set1 (.int .i64 M)).set2 (.slice A2 ms.length c2))
  have K1 := Lib.hid (((k1.far (a := ⟨w.heap.size, 0, none⟩) (by simp) (.int .i64 mr)).far (a := ⟨w.heap.size, 1, none⟩) (by simp) (.int .i64 M)).far (a := ⟨w.heap.size, 2, none⟩) (by simp) (.slice A2 ms.length c2))
  have hz2 := hb2.size
  have HS2 := Lib.hid (HS.out.below hb2 (by omega))
  have hsf : ∀ (a : Addr) (u : Value) (X : World), a.block = w.heap.size → Sl X B A (fl ts) → Sl (X.setCell a u) B A (fl ts) := fun a u X ha h => h.keep (fun p hp => World.cell?_setCell_other _ _ _ _ (fun e => by rw [← e, ha] at hp; exact absurd hp (by omega)))
  have HS3 := Lib.hid (hsf ⟨w.heap.size, 2, none⟩ (.slice A2 ms.length c2) _ rfl (hsf ⟨w.heap.size, 1, none⟩ (.int .i64 M) _ rfl (hsf ⟨w.heap.size, 0, none⟩ (.int .i64 mr) _ rfl HS2.out)))
  obtain ⟨c0, c1, c2', d0, d1, d2, clt⟩ := k0
  clear a0 a1 a2 f0 f1 f2 alt Q0 Q1 k1 HS HS2 hsf
  go_wp2_with fail
  have R1 := hr2.grown (set_grown _ w.heap.size 0 (.int .i64 mr)) (fun g e => by cases e; left; omega)
  have R2 := R1.grown (set_grown _ w.heap.size 1 (.int .i64 M)) (fun g e => by cases e; left; omega)
  have R3 := R2.grown (set_grown _ w.heap.size 2 (.slice A2 ms.length c2)) (fun g e => by cases e; left; omega)
  have B3 := (((HB.out.trans (hb2.mono (show w.heap.size ≤ W.heap.size by omega))).setCell (p := ⟨w.heap.size, 0, none⟩) (Nat.le_refl _) (.int .i64 mr)).setCell (p := ⟨w.heap.size, 1, none⟩) (Nat.le_refl _) (.int .i64 M)).setCell (p := ⟨w.heap.size, 2, none⟩) (Nat.le_refl _) (.slice A2 ms.length c2)
  have S3 : ((((w2.setCell ⟨w.heap.size, 0, none⟩ (.int .i64 mr)).setCell ⟨w.heap.size, 1, none⟩ (.int .i64 M)).setCell ⟨w.heap.size, 2, none⟩ (.slice A2 ms.length c2)).heap.size) = w2.heap.size := by simp
  obtain ⟨U, hU⟩ : ∃ U, (((w2.setCell ⟨w.heap.size, 0, none⟩ (.int .i64 mr)).setCell ⟨w.heap.size, 1, none⟩ (.int .i64 M)).setCell ⟨w.heap.size, 2, none⟩ (.slice A2 ms.length c2)) = U := ⟨_, rfl⟩
  rw [hU] at K0 K1 R3 B3 S3 HS3 ⊢
  have HSU := Lib.hid (R3.sl_now.more (Nat.le_of_eq S3.symm))
  have HBU := Lib.hid B3
  have hUs : w.heap.size + 2 ≤ U.heap.size := by omega
  clear R1 R2 R3 B3 hb2 hr2 hs2 c0 c1 c2' d0 d1 d2 clt HB HSM hws S3 hz2
  clear hU hW
  refine (specCM_any rows mr A cap B ts U HS3.out (by omega) hn).mono ?_
  rintro e w3 ⟨s3, rfl, hr3, hb3⟩
  obtain ⟨pr, hpr⟩ : ∃ x, cmR rows mr ts = x := ⟨_, rfl⟩
  obtain ⟨pc, hpc⟩ : ∃ x, cmC rows mr ts = x := ⟨_, rfl⟩
  obtain ⟨A3, c3, rfl, _, _, _⟩ := hr3.form
  obtain ⟨l3, hl3⟩ : ∃ x, (cmZ rows mr ts).length = x := ⟨_, rfl⟩
  rw [hpr, hpc, hl3]
  have hz3 := hb3.size
  have hb4 := hb3.alloc hz3 (.cells #[.int .i64 pr, .int .i64 pc, .slice A3 l3 c3] 28)
  obtain ⟨X, hX⟩ : ∃ X, w3.alloc (.cells #[.int .i64 pr, .int .i64 pc, .slice A3 l3 c3] 28) = X := ⟨_, rfl⟩
  rw [hX] at hb4
  have hz4 := hb4.size
  have HK0 := Lib.hid (K0.out.below hb4 (by omega))
  have HK1 := Lib.hid (K1.out.below hb4 (by omega))
  have HS4 := Lib.hid (HS3.out.below hb4 (by omega))
  have HSV := Lib.hid (HSU.out.below hb4 (Nat.le_refl _))
  have HBV := Lib.hid (HBU.out.trans (hb4.mono (by omega)))
  clear hb3 hb4 hr3 hpr hpc hl3 K0 K1 HS3 HSU HBU hz3
  obtain ⟨c0, c1, c2', _, _, _, clt⟩ := HK0.out
  rw [cmB_yes H.out]
  go_wp2_with fail
  refine (specMV_yes mr M A2 c2 _ U.heap.size ms X HSV.out hz4 rfl (by omega) HMV.out).mono ?_
  rintro e w5 ⟨rfl, hb5⟩
  have hz5 := hb5.size
  have KK0 := Lib.hid (HK0.out.below hb5 (by omega))
  have KK1 := Lib.hid (HK1.out.below hb5 (by omega))
  have HS5 := Lib.hid (HS4.out.below hb5 (by omega))
  have HSV5 := Lib.hid (HSV.out.below hb5 (by omega))
  have HB5 := Lib.hid (HBV.out.trans (hb5.mono (by omega)))
  clear hb5 c0 c1 c2' clt HK0 HK1 HS4 HSV HBV
  obtain ⟨c0, c1, c2', _, _, _, clt⟩ := KK0.out
  have hrc : rows * (M : Int) = (n : Int) := HN.out.symm
  have hwn : IntKind.i64.wrap (n : Int) = (n : Int) := by rw [IntKind.wrap_i64]; omega
  have hmk := run_make_row' (P := Try.prog) 22 3 (.int .i64 0) 8 Try.underlying22 info_int rfl .i64 .i64 n (by omega) (by omega)
  have HMK := Lib.hid fun w' (hx : Below w5.heap.size w5 w') => (KK0.out.below hx (show w.heap.size < w5.heap.size by omega)).c1
  go_upto_region 5 with fail
  go_cut [12] (fun sx wx => ∃ b5 gr : Nat, sx = .pointer (some ⟨b5, 0, none⟩) ∧ w5.heap.size ≤ b5 ∧ w5.heap.size ≤ gr ∧ b5 ≠ gr ∧ Cell3 wx b5 (.int .i64 rows) (.int .i64 M) (.slice (some ⟨gr, 0, none⟩) n n) ∧ Row wx w5.heap.size wx.heap.size (.slice (some ⟨gr, 0, none⟩) n n) (List.replicate n 0) ∧ Below w5.heap.size w5 wx)
  case first =>
    go_region_held3 (fun w' => w'.cell? ⟨w.heap.size, 1, none⟩ = some (.int .i64 M))
      (first | exact c1 | exact HMK.out _ (by repeat (first | exact Below.refl _ _ | (with_reducible refine Below.drew ?_) | (with_reducible refine Below.alloc ?_ (by simp; try omega) _) | (with_reducible refine Below.setCell ?_ (by simp; try omega) _))) | fail) (fail)
    all_goals (
      go_wp2_with fail
      go_meet
      first
        | (obtain ⟨x1, x2, x3⟩ := mkA w5 n rows M (by omega) _ rfl; exact ⟨_, _, rfl, by omega, by omega, by omega, x1, x2, x3⟩)
        | (obtain ⟨x1, x2, x3⟩ := mkB w5 n rows M (by omega) _ rfl; exact ⟨_, _, rfl, by omega, by omega, by omega, x1, x2, x3⟩))
  case rest =>
    obtain ⟨V, rfl⟩ : ∃ V, V = wc := ⟨_, rfl⟩
    obtain ⟨b5, gr, rfl, hb5l, hgrl, hbg, k5, r5, hbv⟩ := hcut
    have hb5h := k5.lt
    have hgrh := (r5.block_lt gr rfl).2
    have hzv := hbv.size
    have HV0 := Lib.hid (KK0.out.below hbv (by omega))
    have HV1 := Lib.hid (KK1.out.below hbv (by omega))
    have HBV := Lib.hid (HB5.out.trans (hbv.mono (by omega)))
    have HSV := Lib.hid (HS5.out.below hbv (by omega))
    have HSMV := Lib.hid (HSV5.out.below hbv (by omega))
    have HRV := Lib.hid r5
    have K5 := Lib.hid k5
    clear k5 r5 hbv KK0 KK1 HB5 HS5 HSV5 HMK hmk c0 c1 c2' clt
    go_wp2
    obtain ⟨NV, hNV⟩ : ∃ x, V.heap.size = x := ⟨_, rfl⟩
    rw [hNV] at HRV
    have hws' : w.heap.size + 2 ≤ w5.heap.size := by omega
    go_loopw [13] (fun i wr => ∃ k : Nat, k ≤ ts.length ∧ i = .int .i64 k ∧ Row wr w5.heap.size NV (.slice (some ⟨gr, 0, none⟩) n n) (T k) ∧ Below w.heap.size w wr ∧ Cell3 wr b5 (.int .i64 rows) (.int .i64 M) (.slice (some ⟨gr, 0, none⟩) n n) ∧ Cell3 wr (w.heap.size + 1) (.int .i64 0) (.int .i64 0) (.slice none 0 0) ∧ Cell3 wr w.heap.size (.int .i64 mr) (.int .i64 M) (.slice A2 ms.length c2) ∧ Sl wr B A (fl ts) ∧ Sl wr U.heap.size A2 ms ∧ NV ≤ wr.heap.size) (fun i _ => ts.length - (intOf i).toNat)
    case atStart => exact ⟨0, Nat.zero_le _, rfl, by rw [HT0.out]; exact HRV.out, HBV.out, K5.out, HV1.out, HV0.out, HSV.out, HSMV.out, by omega⟩
    case round =>
      clear HRV HBV K5 HV0 HV1 HSV HSMV
      obtain ⟨k, hk, rfl, hrow, hbel, hc5c, hc1c, hc0c, hsl, hslm, hsz⟩ := hrel
      by_cases hlt : k < ts.length
      · obtain ⟨b, off, rfl, hbB, c0, c1, c2x⟩ := hsl.tri hlt
        obtain ⟨o1, o2, o3, o4, _⟩ := HOK.out k hlt
        have hTk := HTS.out k
        have hR0 := Lib.hid fun p => HTR.out k p
        obtain ⟨t, ht⟩ : ∃ t, ts.getD k t0 = t := ⟨_, rfl⟩
        rw [ht] at c0 c1 c2x o1 o2 o3 hTk
        obtain ⟨p, q, z⟩ := t
        simp only at c0 c1 c2x o1 o2 o3
        obtain ⟨P, rfl⟩ := Int.eq_ofNat_of_zero_le o1.1
        obtain ⟨Q, rfl⟩ := Int.eq_ofNat_of_zero_le o2.1
        have hPl : P * M + M ≤ n := by
          have e1 : ((P : Int) + 1) * (M : Int) ≤ rows * (M : Int) := Int.mul_le_mul_of_nonneg_right (by omega) (by omega)
          rw [← HN.out, Int.add_mul, Int.one_mul] at e1
          have e2 : ((P * M : Nat) : Int) = (P : Int) * (M : Int) := by simp
          omega
        have hQl : Q * M + M ≤ ms.length := by
          have e1 : ((Q : Int) + 1) * (M : Int) ≤ mr * (M : Int) := Int.mul_le_mul_of_nonneg_right (by omega) (by omega)
          rw [← HML.out, Int.add_mul, Int.one_mul] at e1
          have e2 : ((Q * M : Nat) : Int) = (Q : Int) * (M : Int) := by simp
          omega
        have hPi : (P : Int) * (M : Int) = ((P * M : Nat) : Int) := by simp
        have hQi : (Q : Int) * (M : Int) = ((Q * M : Nat) : Int) := by simp
        have HU0 : Hid (tStep M ms ((P : Int), (Q : Int), z) (T k) 0 = T k) := rfl
        have HUS : Hid (∀ j, tStep M ms ((P : Int), (Q : Int), z) (T k) (j + 1) = (tStep M ms ((P : Int), (Q : Int), z) (T k) j).set (P * M + j) (((tStep M ms ((P : Int), (Q : Int), z) (T k) j).getD (P * M + j) 0 + z * ms.getD (Q * M + j) 0) % 4096)) := fun _ => rfl
        have HUL : Hid (∀ j, (tStep M ms ((P : Int), (Q : Int), z) (T k) j).length = n) := fun j => by rw [tStep_len, HTL.out]
        have HUR : Hid (∀ j p, 0 ≤ (tStep M ms ((P : Int), (Q : Int), z) (T k) j).getD p 0 ∧ (tStep M ms ((P : Int), (Q : Int), z) (T k) j).getD p 0 ≤ 4095) := fun j => tStep_range M ms _ _ hR0.out j
        obtain ⟨G, hG⟩ : ∃ G, tStep M ms ((P : Int), (Q : Int), z) (T k) = G := ⟨_, rfl⟩
        rw [hG] at HU0 HUS HUL HUR hTk
        have HTk := Lib.hid hTk
        obtain ⟨L1, hL1⟩ : ∃ L, P * M = L := ⟨_, rfl⟩
        obtain ⟨L2, hL2⟩ : ∃ L, Q * M = L := ⟨_, rfl⟩
        rw [hL1] at hPl hPi HUS
        rw [hL2] at hQl hQi HUS
        obtain ⟨bm, offm, hAm, hbBm, _⟩ := hslm.at_ (k := 0) (by omega)
        subst hAm
        have hki : (k : Int) < (ts.length : Int) := by omega
        have hwL1 : IntKind.i64.wrap (L1 : Int) = (L1 : Int) := by rw [IntKind.wrap_i64]; omega
        have hwL2 : IntKind.i64.wrap (L2 : Int) = (L2 : Int) := by rw [IntKind.wrap_i64]; omega
        have hal := World.grownBy_alloc wr (.cells #[.int .i64 P, .int .i64 Q, .int .i64 z] 59) none
        have KN := Cell3.new wr (.int .i64 P) (.int .i64 Q) (.int .i64 z) 59
        have hbA : Below wr.heap.size wr (wr.alloc (.cells #[.int .i64 P, .int .i64 Q, .int .i64 z] 59)) := (Below.refl _ wr).alloc (Nat.le_refl _) _
        have HRA := Lib.hid (hrow.grown hal (fun g e => by cases e))
        have H5 := Lib.hid (hc5c.alloc (.cells #[.int .i64 P, .int .i64 Q, .int .i64 z] 59))
        have H1 := Lib.hid (hc1c.alloc (.cells #[.int .i64 P, .int .i64 Q, .int .i64 z] 59))
        have H0 := Lib.hid (hc0c.alloc (.cells #[.int .i64 P, .int .i64 Q, .int .i64 z] 59))
        have HBL := Lib.hid (hbel.alloc hbel.size (.cells #[.int .i64 P, .int .i64 Q, .int .i64 z] 59))
        have HSL := Lib.hid (hsl.below hbA (by omega))
        have HSM := Lib.hid (hslm.below hbA (by omega))
        have hszA : (wr.alloc (.cells #[.int .i64 P, .int .i64 Q, .int .i64 z] 59)).heap.size = wr.heap.size + 1 := by simp
        obtain ⟨Y, hY⟩ : ∃ Y, wr.alloc (.cells #[.int .i64 P, .int .i64 Q, .int .i64 z] 59) = Y := ⟨_, rfl⟩
        rw [hY] at KN HRA H5 H1 H0 HBL HSL HSM hszA
        have KC := Lib.hid KN
        clear hrow hbel hc5c hc1c hc0c hsl hslm hal hbA ht hTk hG hL1 hL2
        obtain ⟨a0, a1, a2, _, _, _, alt⟩ := H0.out
        go_wp2
        clear a0 a1 a2 alt
        obtain ⟨N0, hN0⟩ : ∃ N0, wr.heap.size = N0 := ⟨_, rfl⟩
        rw [hN0] at KC hszA hsz ⊢
        clear hN0
        go_loopw [15] (fun i wq => ∃ j : Nat, j ≤ M ∧ i = .int .i64 j ∧ Row wq w5.heap.size NV (.slice (some ⟨gr, 0, none⟩) n n) (G j) ∧ Below w.heap.size w wq ∧ Cell3 wq b5 (.int .i64 rows) (.int .i64 M) (.slice (some ⟨gr, 0, none⟩) n n) ∧ Cell3 wq (w.heap.size + 1) (.int .i64 0) (.int .i64 0) (.slice none 0 0) ∧ Cell3 wq w.heap.size (.int .i64 mr) (.int .i64 M) (.slice (some ⟨bm, offm, none⟩) ms.length c2) ∧ Sl wq B (some ⟨b, off, none⟩) (fl ts) ∧ Sl wq U.heap.size (some ⟨bm, offm, none⟩) ms ∧ Cell3 wq N0 (.int .i64 P) (.int .i64 Q) (.int .i64 z) ∧ NV ≤ wq.heap.size) (fun i _ => M - (intOf i).toNat)
        case atStart => exact ⟨0, Nat.zero_le _, rfl, by rw [HU0.out]; exact HRA.out, HBL.out, H5.out, H1.out, H0.out, HSL.out, HSM.out, KC.out, by omega⟩
        case round =>
          clear HRA HBL H5 H1 H0 HSL HSM KC
          obtain ⟨j, hj, rfl, hrow, hbel, hc5c, hc1c, hc0c, hsl, hslm, hcc, hsz⟩ := hrel
          by_cases hjl : j < M
          · obtain ⟨bm', offm', hA', _, hcx⟩ := hslm.at_ (k := L2 + j) (by omega)
            injection hA' with hA'
            injection hA' with e1 e2
            subst e1 e2
            obtain ⟨g', hg', _, _, hcy, hfy⟩ := hrow.cell_ (j := L1 + j) (by rw [HUL.out]; omega)
            injection hg' with hg'
            injection hg' with hg'
            subst hg'
            have hxr := HMS.out (L2 + j) (by omega)
            have hyr := HUR.out j (L1 + j)
            have hUj := HUS.out j
            obtain ⟨x, hx⟩ : ∃ x, ms.getD (L2 + j) 0 = x := ⟨_, rfl⟩
            obtain ⟨y, hy⟩ : ∃ y, (G j).getD (L1 + j) 0 = y := ⟨_, rfl⟩
            rw [hx] at hcx hxr hUj
            rw [hy] at hcy hyr hUj
            have hur := mul_rngT o3 hxr
            obtain ⟨u, hu⟩ : ∃ u, z * x = u := ⟨_, rfl⟩
            rw [hu] at hur hUj
            have hcall := Lib.hid fun wx => specRingT (y + u) wx (by omega) (by omega)
            obtain ⟨s, hsE⟩ : ∃ s, (y + u) % 4096 = s := ⟨_, rfl⟩
            rw [hsE] at hUj hcall
            have HUj := Lib.hid hUj
            have hwu : IntKind.i64.wrap u = u := by rw [IntKind.wrap_i64]; omega
            have hwv : IntKind.i64.wrap (y + u) = y + u := by rw [IntKind.wrap_i64]; omega
            have hwa : IntKind.i64.wrap ((L1 : Int) + (j : Int)) = ((L1 + j : Nat) : Int) := by rw [IntKind.wrap_i64]; omega
            have hwb : IntKind.i64.wrap ((L2 : Int) + (j : Int)) = ((L2 + j : Nat) : Int) := by rw [IntKind.wrap_i64]; omega
            have hL1i : ((L1 + j : Nat) : Int) < (n : Int) := by omega
            have hL2i : ((L2 + j : Nat) : Int) < (ms.length : Int) := by omega
            obtain ⟨I1, hI1⟩ : ∃ I, L1 + j = I := ⟨_, rfl⟩
            obtain ⟨I2, hI2⟩ : ∃ I, L2 + j = I := ⟨_, rfl⟩
            rw [hI1] at hcy hfy hwa hL1i HUj
            rw [hI2] at hcx hwb hL2i
            clear hx hy hsE hUj hI1 hI2
            have hji : (j : Int) < (M : Int) := by omega
            have hD := Lib.hid (drewT wr)
            have HROW := Lib.hid (hD.out.row hrow)
            have HSL := Lib.hid (hD.out.sl hsl)
            have HSK := Lib.hid (hD.out.sl hslm)
            have HBL := Lib.hid (hbel.trans (hD.out.below _))
            have H5 := Lib.hid (hc5c.grown (hD.out.grown none) (by simp))
            have H1 := Lib.hid (hc1c.grown (hD.out.grown none) (by simp))
            have H0 := Lib.hid (hc0c.grown (hD.out.grown none) (by simp))
            have HC := Lib.hid (hcc.grown (hD.out.grown none) (by simp))
            have hccl := hcc.lt
            have hcyd := (hD.out.grown none).cell hcy (by simp)
            have hcxd := (hD.out.grown none).cell hcx (by simp)
            have hfyd : wr.drew.frozen? ⟨gr, I1, none⟩ = false := hfy
            have S := Lib.hid (HROW.out.stored I1 s)
            obtain ⟨e0, e1, e2, _, _, _, elt⟩ := hcc
            obtain ⟨a0, a1, a2, _, _, _, alt⟩ := hc0c
            clear hrow hsl hslm hbel hc5c hc1c hcy hfy hcx
            go_upto_region 14 with fail
            clear e0 e1 e2 elt a0 a1 a2 alt
            obtain ⟨e0, e1, e2, _, _, _, elt⟩ := HC.out
            obtain ⟨a0, a1, a2, _, _, _, alt⟩ := H0.out
            obtain ⟨d0, d1, d2, _, _, _, dlt⟩ := H5.out
            refine wp_region_still_tail 25 (by kernel_rfl) (by kernel_rfl) ?_
            simp only [List.take_succ_cons, List.take_zero, List.drop_succ_cons, List.drop_zero]
            change wpStill Try.prog _ wr.drew (fun a' => wpList Try.prog _ _ _ a' wr.drew) _ _
            repeat still_step
            still_call ((hcall.out _).mono fun e w'' h => ⟨h.1, h.2.symm⟩)
            repeat still_step
            refine wpStill_nil ?_
            go_wp2
            go_roundw
            case rel => exact ⟨j + 1, by omega, by go_num, by rw [HUj.out]; exact S.out.1, HBL.out.setCell (p := ⟨gr, I1, none⟩) (show w.heap.size ≤ gr by omega) _, H5.out.far (a := ⟨gr, I1, none⟩) (show b5 ≠ gr by omega) _, H1.out.far (a := ⟨gr, I1, none⟩) (show w.heap.size + 1 ≠ gr by omega) _, H0.out.far (a := ⟨gr, I1, none⟩) (show w.heap.size ≠ gr by omega) _, HSL.out.keep (fun p hp => World.cell?_setCell_other _ _ _ _ (fun e => by rw [← e] at hp; exact absurd (show gr < B from hp) (by omega))), HSK.out.keep (fun p hp => World.cell?_setCell_other _ _ _ _ (fun e => by rw [← e] at hp; exact absurd (show gr < U.heap.size from hp) (by omega))), HC.out.far (a := ⟨gr, I1, none⟩) (show N0 ≠ gr by omega) _, by simpa using hsz⟩
            case measure => simp [intOf]; omega
          · have hjM : j = M := by omega
            subst hjM
            have HROW := Lib.hid hrow
            have HBL := Lib.hid hbel
            have H5 := Lib.hid hc5c
            have H1 := Lib.hid hc1c
            have H0 := Lib.hid hc0c
            have HSL := Lib.hid hsl
            have HSK := Lib.hid hslm
            obtain ⟨a0, a1, a2, _, _, _, alt⟩ := hc0c
            clear hrow hbel hc5c hc1c hsl hslm hcc
            go_wp2
            go_roundw
            case rel => exact ⟨k + 1, by omega, by go_num, by rw [HTk.out]; exact HROW.out, HBL.out, H5.out, H1.out, H0.out, HSL.out, HSK.out, hsz⟩
            case measure => simp [intOf]; omega
      · have e : k = ts.length := by omega
        rw [e] at hrow
        have hE := Lib.hid e
        have HR := Lib.hid hrow
        have HB5 := Lib.hid hbel
        have HC1 := Lib.hid hc1c
        obtain ⟨v0, v1, v2, p0, p1, p2, vlt⟩ := hc5c
        obtain ⟨b0, b1, b2, g0, g1, g2, blt⟩ := hc1c
        clear hrow hbel e hsl hslm hc0c
        go_wp2
        have P2 := ((HC1.out.set0 (.int .i64 rows)).set1 (.int .i64 M)).set2 (.slice (some ⟨gr, 0, none⟩) n n)
        have R2 := HR.out.grown (set_grown _ (w.heap.size + 1) 0 (.int .i64 rows)) (fun g e => by cases e; left; omega)
        have R3 := R2.grown (set_grown _ (w.heap.size + 1) 1 (.int .i64 M)) (fun g e => by cases e; left; omega)
        have R4 := R3.grown (set_grown _ (w.heap.size + 1) 2 (.slice (some ⟨gr, 0, none⟩) n n)) (fun g e => by cases e; left; omega)
        have B4 := ((HB5.out.setCell (p := ⟨w.heap.size + 1, 0, none⟩) (by simp) (.int .i64 rows)).setCell (p := ⟨w.heap.size + 1, 1, none⟩) (by simp) (.int .i64 M)).setCell (p := ⟨w.heap.size + 1, 2, none⟩) (by simp) (.slice (some ⟨gr, 0, none⟩) n n)
        have S4 : ((((wr.setCell ⟨w.heap.size + 1, 0, none⟩ (.int .i64 rows)).setCell ⟨w.heap.size + 1, 1, none⟩ (.int .i64 M)).setCell ⟨w.heap.size + 1, 2, none⟩ (.slice (some ⟨gr, 0, none⟩) n n)).heap.size) = wr.heap.size := by simp
        obtain ⟨W4, hW4⟩ : ∃ W4, (((wr.setCell ⟨w.heap.size + 1, 0, none⟩ (.int .i64 rows)).setCell ⟨w.heap.size + 1, 1, none⟩ (.int .i64 M)).setCell ⟨w.heap.size + 1, 2, none⟩ (.slice (some ⟨gr, 0, none⟩) n n)) = W4 := ⟨_, rfl⟩
        rw [hW4] at P2 R4 B4 S4 ⊢
        obtain ⟨z0, z1, z2, _, _, _, _⟩ := P2
        refine bodyPost_ret (v := .tuple #[matV rows M (.slice (some ⟨gr, 0, none⟩) n n), .bool true]) (by simp [results, Try.results31, go_sem, z0, z1, z2]) rfl ?_
        exact ⟨_, rfl, R4.wider (by omega) (by omega), B4⟩
end
theorem specCT_any (rows cols : Int) (A : Option Addr) (cap B : Nat) (ts : List Tri) (mr mc : Int) (Am : Option Addr) (capm nm Bm : Nat) (ms : List Int) (w : World) (hs : Sl w B A (fl ts)) (hB : B ≤ w.heap.size) (hn : ts.length ≤ 2000000)
    (hsm : Sl w Bm Am ms) (hBm : Bm ≤ w.heap.size) (em : nm = ms.length) (hnm : nm ≤ 1100000) :
    Calls Try.prog 31 #[.int .i64 rows, .int .i64 cols, .slice A ts.length cap, matV mr mc (.slice Am nm capm)] w fun e w' => ∃ s, e = .returned (.tuple #[matV (ctR rows cols ts mr mc ms) (ctC rows cols ts mr mc ms) s, .bool (ctB rows cols ts mr mc ms)]) ∧ Row w' w.heap.size w'.heap.size s (ctZ rows cols ts mr mc ms) ∧ Below w.heap.size w w' := by
  classical
  unfold ctR ctC ctZ ctB
  by_cases h : OkT rows cols ts mr mc ms
  · rw [if_pos h, if_pos h, if_pos h, decide_eq_true h]
    have h2 := side_mul h.1.1 h.2.1.2.1
    have h3 := h.2.1.2.1
    exact specCT_yes rows cols A cap B ts mr mc Am capm nm Bm ms w hs hB hn hsm hBm em hnm _ _ (by omega) (by omega) h
  · rw [if_neg h, if_neg h, if_neg h, decide_eq_false h]
    exact (specCT_no rows cols A cap B ts mr mc Am capm nm Bm ms w hs hB hn hsm hBm em hnm h).mono fun e w' ⟨h1, h2⟩ => ⟨_, h1, Row.nil_ _ _ _, h2⟩
end Go.Proofs.Ytdebnbgjnmoleaa
