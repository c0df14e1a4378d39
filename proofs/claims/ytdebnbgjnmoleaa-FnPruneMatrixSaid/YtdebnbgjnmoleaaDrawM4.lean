/- Contracts of the drawing functions of a matrix and a number from a list. -/
import Derived.Test.YtdebnbgjnmoleaaDrawM2
import Derived.Test.YtdebnbgjnmoleaaDrawSt
namespace Go.Proofs.Ytdebnbgjnmoleaa
open Go.RowKit

set_option maxRecDepth 20000 in
set_option maxHeartbeats 3200000 in
theorem drawPrune (A : Option Addr) (n c : Nat) (w : World) (hn : n ≤ 1048576) (hnc : n ≤ c) (hcm : c ≤ maxLen) (hc : Code8 w A n) :
    Calls Try.prog 37 #[.slice A n c] w fun e w' => ∃ (r c : Int) (s : Value) (zs : List Int) (k : Int), e = .returned (.tuple #[matV r c s, .int .i64 k]) ∧ Row w' w.heap.size w'.heap.size s zs ∧ zs.length ≤ 37 ∧ -1 ≤ r ∧ r ≤ 6 ∧ 0 ≤ c ∧ c ≤ 7 ∧ -1 ≤ k ∧ k ≤ 4097 ∧ Below w.heap.size w w' := by
  have k0 := Cell3.new w (.int .i64 0) (.int .i64 0) (.slice none 0 0) 28
  have hb0 := (Below.refl w.heap.size w).alloc (Nat.le_refl _) (.cells #[.int .i64 0, .int .i64 0, .slice none 0 0] 28)
  have hc0 : Code8 (w.alloc (.cells #[.int .i64 0, .int .i64 0, .slice none 0 0] 28)) A n := hc.below hb0
  obtain ⟨W, hW⟩ : ∃ W, w.alloc (.cells #[.int .i64 0, .int .i64 0, .slice none 0 0] 28) = W := ⟨_, rfl⟩
  rw [hW] at k0 hb0 hc0
  have HSW := Lib.hid (show W.heap.size = w.heap.size + 1 by rw [← hW]; simp)
  have K0 := Lib.hid k0
  have HB0 := Lib.hid hb0
  clear k0 hb0 hc
  go_enter Try.func37, Try.ntmps37
  go_wp2_with fail
  refine (open_any A n c W hn hnc hcm hc0).mono ?_
  rintro e w1 ⟨rfl, hR, hb⟩
  have hsW := HSW.out
  have K1 := Lib.hid (K0.out.below hb (by omega))
  have B1 := Lib.hid (HB0.out.trans (hb.mono (by omega)))
  clear hc0 K0 HB0 hb hsW hW
  go_wp2_with fail
  refine (l20Side_any W.heap.size 0 w1 hR (by omega)).mono ?_
  rintro e w2 ⟨s1, rfl, s1l, s1h, hg2, hR2⟩
  go_wp2_with fail
  refine (l20Side_any W.heap.size (0 + 20) w2 hR2 (by omega)).mono ?_
  rintro e w3 ⟨s2, rfl, s2l, s2h, hg3, hR3⟩
  go_wp2_with fail
  refine (l20Matrix_any W.heap.size (0 + 20 + 20) s1 s2 12 w3 hR3 (by omega) (by omega) (by omega) (by omega) (by omega) (by omega) (by omega)).mono ?_
  rintro e w4 ⟨r, cc, s, zs, rfl, hrow, zl, r0, r1, c0, c1, hg4, hR4, _⟩
  have hsW := HSW.out
  obtain ⟨A4, c4, rfl, hz1, hz2, _⟩ := hrow.form
  have k5 := Cell3.new w4 (.int .i64 r) (.int .i64 cc) (.slice A4 zs.length c4) 28
  have hg14 : w1.grownBy w4 (some W.heap.size) := gtrans (gtrans hg2 hg3) hg4
  have K4 := (K1.out.grown hg14 (by simp; omega)).alloc (.cells #[.int .i64 r, .int .i64 cc, .slice A4 zs.length c4] 28)
  have hb4 := (B1.out.grown hg14 B1.out.size (fun g e => by cases e; omega))
  have B4 := hb4.alloc hb4.size (.cells #[.int .i64 r, .int .i64 cc, .slice A4 zs.length c4] 28)
  have R4 := (hrow.grown (World.grownBy_alloc w4 (.cells #[.int .i64 r, .int .i64 cc, .slice A4 zs.length c4] 28) none) (fun g e => by cases e)).wider (Nat.le_refl _) (hi' := w4.heap.size + 1) (by omega)
  have hRd4 := hR4.alloc (.cells #[.int .i64 r, .int .i64 cc, .slice A4 zs.length c4] 28)
  obtain ⟨V, hV⟩ : ∃ V, w4.alloc (.cells #[.int .i64 r, .int .i64 cc, .slice A4 zs.length c4] 28) = V := ⟨_, rfl⟩
  have hsV : V.heap.size = w4.heap.size + 1 := by rw [← hV]; simp
  rw [hV] at k5 K4 B4 R4 hRd4
  rw [← hsV] at R4
  have hlt1 := hR.lt
  have h31 := (gtrans hg2 hg3).size
  have h41 := hg14.size
  have hord := Lib.hid (show w.heap.size < w3.heap.size ∧ W.heap.size ≠ w.heap.size ∧ W.heap.size < w3.heap.size ∧ w.heap.size < V.heap.size ∧ W.heap.size ≠ w4.heap.size ∧ w.heap.size ≤ W.heap.size by omega)
  have KK4 := Lib.hid K4
  have KB4 := Lib.hid B4
  have KR4 := Lib.hid R4
  have h9 : Ty.ok W.heap.size (XD W.heap.size W.heap.size (fun _ v => v = matV r cc (.slice A4 zs.length c4))) TD V.drew ⟨9, 1, 0, 0⟩ (.pointer (some ⟨w4.heap.size, 0, none⟩)) := by
    simp only [Ty.ok, Ty.ok0]
    simp
    exact ⟨by omega, _, k5.c0, _, k5.c1, _, k5.c2, by simp [XD]⟩
  clear hsW hsV hrow k5 hg2 hg3 hg4 hR hR2 hR3 hR4 hg14 K4 hb4 B4 R4 hlt1 h31 h41
  go_upto_region 3 with fail
  refine draw_region_store (R := W.heap.size) (B0 := W.heap.size) (N := 0 + 20 + 20 + 40000) (E := fun _ v => v = matV r cc (.slice A4 zs.length c4)) 1000000000000 1 20 [(63, pickG)] ⟨pick_sound _ 1 (by omega) (by omega), trivial⟩ [(4, Ty.rd), (5, ⟨9, 1, 0, 0⟩)] [(14, Ty.own 1), (24, Ty.int (-1) 4097)] (Nat.le_refl _) 11 (by kernel_rfl) (by omega) hRd4 ⟨ok_rd _ _ _ _, h9, trivial⟩ 2 14 0 0 rfl rfl rfl (by kernel_rfl) rfl rfl r cc A4 zs.length c4 (fun u hu => hu) w.heap.size (by have := hord.out; omega) rfl KK4.out ?_
  intro w5 hg5 hR5
  simp only [List.take_succ_cons, List.take_zero, List.drop_succ_cons, List.drop_zero, Puts, Option.bind_some, envOf, List.find?, Nat.reduceBEq, Ty.own, Ty.int, Nat.reduceEqDiff, if_true, if_false]
  intro v14 h14
  obtain rfl := of_ok_own (k := 0) h14
  intros
  rename_i y ylo yhi
  simp only [Act.put, List.setIfInBounds_toArray, List.set_cons_succ, List.set_cons_zero]
  have HE := Lib.hid (mat_ret (r := .int .i64 r) (c := .int .i64 cc) (Nat.le_refl _) (X := V.drew) ⟨KK4.out.c0, KK4.out.c1, KK4.out.c2, KK4.out.f0, KK4.out.f1, KK4.out.f2, KK4.out.lt⟩ (show Row V.drew w3.heap.size V.drew.heap.size _ zs from KR4.out.below (B := V.heap.size) ⟨rfl, rfl, rfl, Nat.le_refl _, fun _ _ => rfl⟩ (Nat.le_refl _)) hord.out.1 (KB4.out.trans ⟨rfl, rfl, rfl, Nat.le_refl _, fun _ _ => rfl⟩))
  have HE2 : Hid (Cell3 w5 w.heap.size (.int .i64 r) (.int .i64 cc) (.slice A4 zs.length c4) ∧ Row w5 w3.heap.size w5.heap.size (.slice A4 zs.length c4) zs ∧ Below w.heap.size w w5) := by
    obtain ⟨e1, e2, e3⟩ := HE.out
    have h5 : (((V.drew.setCell ⟨w.heap.size, 0, none⟩ (.int .i64 r)).setCell ⟨w.heap.size, 1, none⟩ (.int .i64 cc)).setCell ⟨w.heap.size, 2, none⟩ (.slice A4 zs.length c4)).grownBy w5 (some W.heap.size) := hg5
    exact ⟨e1.grown h5 (by have := hord.out; simp; omega), (e2.grown h5 (fun g e => by cases e; left; exact hord.out.2.2.1)).wider (Nat.le_refl _) h5.size, e3.grown h5 e3.size (fun g e => by cases e; exact hord.out.2.2.2.2.2)⟩
  clear h14 h9 hg5 hR5 hRd4 HE
  obtain ⟨⟨z0, z1, z2, _, _, _, _⟩, e1, e2⟩ := HE2.out
  clear HE2
  have E1 := Lib.hid e1
  have E2 := Lib.hid e2
  clear e1 e2
  go_wp2
  refine bodyPost_ret (v := .tuple #[matV r cc (.slice A4 zs.length c4), .int .i64 y]) (by simp [results, Try.results37, go_sem, z0, z1, z2]) rfl ?_
  exact ⟨r, cc, _, zs, y, rfl, E1.out.wider (by have := hord.out; omega) (Nat.le_refl _), zl, r0, r1, c0, c1, ylo, yhi, E2.out⟩
end Go.Proofs.Ytdebnbgjnmoleaa
