/- Contract of the drawing function of a matrix and an order. -/
import Derived.Test.YtilmglockldddaaDrawM2
import Derived.Test.YtilmglockldddaaDrawD
namespace Go.Proofs.Ytilmglockldddaa
open Go.RowKit

theorem Sl.far3 {X : World} {B b : Nat} {A : Option Addr} {zs : List Int} (h : Sl X B A zs) (hA : ∀ a, A = some a → b < a.block) (r c s : Value) :
    Sl (((X.setCell ⟨b, 0, none⟩ r).setCell ⟨b, 1, none⟩ c).setCell ⟨b, 2, none⟩ s) B A zs := by
  obtain ⟨g, off, h1, h2⟩ := h
  refine ⟨g, off, h1, fun j hj => ?_⟩
  have hb := hA _ (h1 (by omega)).1
  have hne : b < g := hb
  rw [World.cell?_setCell_other _ _ _ _ (fun e => by injection e with e1; omega), World.cell?_setCell_other _ _ _ _ (fun e => by injection e with e1; omega), World.cell?_setCell_other _ _ _ _ (fun e => by injection e with e1; omega)]
  exact h2 j hj
set_option maxRecDepth 20000 in
set_option maxHeartbeats 1600000 in
theorem drawOrder (A : Option Addr) (n c : Nat) (w : World) (hn : n ≤ 1048576) (hnc : n ≤ c) (hcm : c ≤ maxLen) (hc : Code8 w A n) :
    Calls Try.prog 23 #[.slice A n c] w fun e w' => ∃ (r c : Int) (s : Value) (zs : List Int) (Ao : Option Addr) (m co : Nat) (os : List Int), e = .returned (.tuple #[matV r c s, .slice Ao m co]) ∧ Row w' w.heap.size w'.heap.size s zs ∧ (zs.length ≤ 37 ∧ -1 ≤ r ∧ r ≤ 6 ∧ 0 ≤ c ∧ c ≤ 7) ∧ os.length = m ∧ m ≤ co ∧ co ≤ maxLen ∧ Sl w' w'.heap.size Ao os ∧ m ≤ 8 ∧ Below w.heap.size w w' := by
  have k0 := Cell3.new w (.int .i64 0) (.int .i64 0) (.slice none 0 0) 33
  have hb0 := (Below.refl w.heap.size w).alloc (Nat.le_refl _) (.cells #[.int .i64 0, .int .i64 0, .slice none 0 0] 33)
  have hc0 : Code8 (w.alloc (.cells #[.int .i64 0, .int .i64 0, .slice none 0 0] 33)) A n := hc.below hb0
  obtain ⟨W, hW⟩ : ∃ W, w.alloc (.cells #[.int .i64 0, .int .i64 0, .slice none 0 0] 33) = W := ⟨_, rfl⟩
  rw [hW] at k0 hb0 hc0
  have HSW := Lib.hid (show W.heap.size = w.heap.size + 1 by rw [← hW]; simp)
  have K0 := Lib.hid k0
  have HB0 := Lib.hid hb0
  clear k0 hb0 hc
  go_enter Try.func23, Try.ntmps23
  go_wp2_with fail
  refine (open_any A n c W hn hnc hcm hc0).mono ?_
  rintro e w1 ⟨rfl, hR, hb⟩
  have hsW := HSW.out
  have K1 := Lib.hid (K0.out.below hb (by omega))
  have B1 := Lib.hid (HB0.out.trans (hb.mono (by omega)))
  clear hc0 K0 HB0 hb hsW hW
  go_wp2_with fail
  refine (l20Side_any W.heap.size 0 w1 hR (by omega)).mono ?_
  rintro e w2 ⟨s1, rfl, s1l, s1h, hg2, hR2⟩
  go_wp2_with fail
  refine (l20Side_any W.heap.size (0 + 20) w2 hR2 (by omega)).mono ?_
  rintro e w3 ⟨s2, rfl, s2l, s2h, hg3, hR3⟩
  go_wp2_with fail
  refine (l20Matrix_any W.heap.size (0 + 20 + 20) s1 s2 12 w3 hR3 (by omega) (by omega) (by omega) (by omega) (by omega) (by omega) (by omega)).mono ?_
  rintro e w4 ⟨r, cc, s, zs, rfl, hrow, zl, r0, r1, c0, c1, hg4, hR4, _⟩
  have hsW := HSW.out
  obtain ⟨A4, c4, rfl, hz1, hz2, _⟩ := hrow.form
  have k5 := Cell3.new w4 (.int .i64 r) (.int .i64 cc) (.slice A4 zs.length c4) 33
  have hg14 : w1.grownBy w4 (some W.heap.size) := gtrans (gtrans hg2 hg3) hg4
  have K4 := (K1.out.grown hg14 (by simp; omega)).alloc (.cells #[.int .i64 r, .int .i64 cc, .slice A4 zs.length c4] 33)
  have hb4 := (B1.out.grown hg14 B1.out.size (fun g e => by cases e; omega))
  have B4 := hb4.alloc hb4.size (.cells #[.int .i64 r, .int .i64 cc, .slice A4 zs.length c4] 33)
  have R4 := (hrow.grown (World.grownBy_alloc w4 (.cells #[.int .i64 r, .int .i64 cc, .slice A4 zs.length c4] 33) none) (fun g e => by cases e)).wider (Nat.le_refl _) (hi' := w4.heap.size + 1) (by omega)
  have hRd4 := hR4.alloc (.cells #[.int .i64 r, .int .i64 cc, .slice A4 zs.length c4] 33)
  obtain ⟨V, hV⟩ : ∃ V, w4.alloc (.cells #[.int .i64 r, .int .i64 cc, .slice A4 zs.length c4] 33) = V := ⟨_, rfl⟩
  have hsV : V.heap.size = w4.heap.size + 1 := by rw [← hV]; simp
  rw [hV] at k5 K4 B4 R4 hRd4
  rw [← hsV] at R4
  have hlt1 := hR.lt
  have h31 := (gtrans hg2 hg3).size
  have h41 := hg14.size
  have hord := Lib.hid (show w.heap.size < w3.heap.size ∧ W.heap.size ≠ w.heap.size ∧ W.heap.size < w3.heap.size ∧ w.heap.size < V.heap.size ∧ W.heap.size ≠ w4.heap.size ∧ w.heap.size ≤ W.heap.size by omega)
  have hne4 := Lib.hid (show w4.heap.size ≠ w.heap.size by omega)
  have KK4 := Lib.hid K4
  have KB4 := Lib.hid B4
  have KR4 := Lib.hid R4
  have K5 := Lib.hid k5
  have hRdd := Lib.hid hRd4.drew
  have m0 : V.drew.cell? ⟨w4.heap.size, 0, none⟩ = some (.int .i64 r) := k5.c0
  have m1 : V.drew.cell? ⟨w4.heap.size, 1, none⟩ = some (.int .i64 cc) := k5.c1
  have m2 : V.drew.cell? ⟨w4.heap.size, 2, none⟩ = some (.slice A4 zs.length c4) := k5.c2
  clear hsW hsV hrow k5 hg2 hg3 hg4 hR hR2 hR3 hR4 hg14 K4 hb4 B4 R4 hRd4 hlt1 h31 h41
  go_upto_region 4 with fail
  go_region_held3 (fun w' => w'.cell? ⟨w4.heap.size, 0, none⟩ = some (.int .i64 r) ∧ w'.cell? ⟨w4.heap.size, 1, none⟩ = some (.int .i64 cc) ∧ w'.cell? ⟨w4.heap.size, 2, none⟩ = some (.slice A4 zs.length c4))
    (first | exact ⟨m0, m1, m2⟩ | exact ⟨n0, n1, n2⟩ | exact ⟨f0, f1, f2⟩ | fail)
    (first
      | (go_simp; go_at_call 40; refine (l20Order_any W.heap.size (0 + 20 + 20 + 40000) s1 9 V.drew hRdd.out (by omega) (by omega) (by omega) (by omega)).mono ?_; rintro e w5 ⟨Ao, m, co, os, rfl, o1, o2, o3, o4, ⟨o5, o6⟩, hg5, _⟩; have hgd : V.grownBy w5 (some W.heap.size) := gtrans ((drew1 V).grown _) hg5; have M5 := K5.out.grown hgd (by have := hord.out; simp; omega); have M0 := KK4.out.grown hgd (by have := hord.out; simp; omega); obtain ⟨n0, n1, n2, _, _, _, _⟩ := id M5; obtain ⟨f0, f1, f2, _, _, _, _⟩ := ((M5.far (a := ⟨w.heap.size, 0, none⟩) hne4.out (.int .i64 r)).far (a := ⟨w.heap.size, 1, none⟩) hne4.out (.int .i64 cc)).far (a := ⟨w.heap.size, 2, none⟩) hne4.out (.slice A4 zs.length c4); obtain ⟨v0, v1, v2, p0, p1, p2, vl⟩ := id M0)
      | fail)
  have R5 := (KR4.out.grown hgd (fun g e => by cases e; left; have := hord.out; omega)).wider (Nat.le_refl _) (hi' := w5.heap.size) hgd.size
  have B5 := KB4.out.grown hgd KB4.out.size (fun g e => by cases e; exact hord.out.2.2.2.2.2)
  have HE := Lib.hid (mat_ret (r := .int .i64 r) (c := .int .i64 cc) (Nat.le_refl _) M0 R5 hord.out.1 B5)
  have HO := Lib.hid (o4.far3 (b := w.heap.size) (fun a e => by have h1 := o6 a e; have h2 := hord.out; have h3 : V.drew.heap.size = V.heap.size := rfl; omega) (.int .i64 r) (.int .i64 cc) (.slice A4 zs.length c4))
  subst o1
  clear R5 B5 M0 M5 o4 hg5 hgd n0 n1 n2 m0 m1 m2 f0 f1 f2
  go_wp2
  obtain ⟨⟨z0, z1, z2, _, _, _, _⟩, e1, e2⟩ := HE.out
  refine bodyPost_ret (v := .tuple #[matV r cc (.slice A4 zs.length c4), .slice Ao os.length co]) (by simp [results, Try.results23, go_sem, z0, z1, z2]) rfl ?_
  exact ⟨r, cc, _, zs, Ao, _, co, os, rfl, e1.wider (by have := hord.out; omega) (Nat.le_refl _), ⟨zl, r0, r1, c0, c1⟩, rfl, o2, o3, HO.out.more (by simp), o5, e2⟩
end Go.Proofs.Ytilmglockldddaa
