/- Contracts of the drawing function of a shared matrix, an order and a seed. (Printed by gen_R8.py.) -/
import Derived.Test.YtilmglockldddaaFnsR4
import Derived.Test.YtilmglockldddaaDrawD
import Derived.Deep.RegionHeld3
namespace Go.Proofs.Ytilmglockldddaa
open Go.RowKit
theorem Sl.farB {X : World} {B b : Nat} {A : Option Addr} {zs : List Int} (h : Sl X B A zs) (hA : ∀ a, A = some a → b ≠ a.block) (i : Nat) (v : Value) : Sl (X.setCell ⟨b, i, none⟩ v) B A zs := by
  obtain ⟨g, off, h1, h2⟩ := h
  refine ⟨g, off, h1, fun j hj => ?_⟩
  have hb : b ≠ g := hA _ (h1 (by omega)).1
  rw [World.cell?_setCell_other _ _ _ _ (fun e => by injection e with e1; omega)]
  exact h2 j hj
theorem Sl.grownR {X Y : World} {B R : Nat} {A : Option Addr} {zs : List Int} (h : Sl X B A zs) (hg : X.grownBy Y (some R)) (hA : ∀ a, A = some a → R ≠ a.block) : Sl Y B A zs := by
  obtain ⟨g, off, h1, h2⟩ := h
  refine ⟨g, off, h1, fun j hj => hg.cell (h2 j hj) (fun e => ?_)⟩
  have hb : R ≠ g := hA _ (h1 (by omega)).1
  injection e with e
  exact hb e.symm

set_option maxRecDepth 20000 in
set_option maxHeartbeats 3200000 in
theorem drawOS (A : Option Addr) (n c : Nat) (w : World) (hn : n ≤ 1048576) (hnc : n ≤ c) (hcm : c ≤ maxLen) (hc : Code8 w A n) :
    Calls Try.prog 33 #[.slice A n c] w fun e w' => ∃ (r c : Int) (s : Value) (zs : List Int) (r2 c2 : Int) (s2 : Value) (ks : List Int) (Ao : Option Addr) (co : Nat) (os : List Int) (sd : Int), e = .returned (.tuple #[smV r c s r2 c2 s2, .slice Ao os.length co, .int .i64 sd]) ∧ Row w' w.heap.size w'.heap.size s zs ∧ Row w' w.heap.size w'.heap.size s2 ks ∧ Sl w' w'.heap.size Ao os ∧ zs.length ≤ 37 ∧ ks.length ≤ 37 ∧ os.length ≤ 8 ∧ (-1 ≤ sd ∧ sd ≤ 2147483647) ∧ Below w.heap.size w w' := by
  have q2 := Cell6.new (w) (.int .i64 0) (.int .i64 0) (.slice none 0 0) (.int .i64 0) (.int .i64 0) (.slice none 0 0) 47
  have hb : Below w.heap.size w (w.alloc (.cells #[.int .i64 0, .int .i64 0, .slice none 0 0, .int .i64 0, .int .i64 0, .slice none 0 0] 47)) := (Below.refl _ _).alloc (Nat.le_refl _) _
  have hsz : (w.alloc (.cells #[.int .i64 0, .int .i64 0, .slice none 0 0, .int .i64 0, .int .i64 0, .slice none 0 0] 47)).heap.size = w.heap.size + 1 := by simp
  obtain ⟨W0, hW⟩ : ∃ W, w.alloc (.cells #[.int .i64 0, .int .i64 0, .slice none 0 0, .int .i64 0, .int .i64 0, .slice none 0 0] 47) = W := ⟨_, rfl⟩
  rw [hW] at q2 hb hsz
  replace hsz := And.intro (Nat.le_of_eq hsz) (Nat.le_of_eq hsz.symm)
  have K2_0 := Lib.hid q2
  have HB_0 := Lib.hid hb
  have hc0 := hc.below HB_0.out
  have hszl : w.heap.size + 1 ≤ W0.heap.size ∧ W0.heap.size ≤ w.heap.size + 1 := by omega
  clear hb q2 hc hsz
  go_enter Try.func33, Try.ntmps33
  obtain ⟨x20, x21, x22, x23, x24, x25, xf20, xf21, xf22, xf23, xf24, xf25, x2lt⟩ := K2_0.out
  go_wp2_with fail
  refine (open_any A n c W0 hn hnc hcm hc0).mono ?_
  rintro e W1 ⟨rfl, hR, hb⟩
  clear hc0
  clear x20 x21 x22 x23 x24 x25 xf20 xf21 xf22 xf23 xf24 xf25 x2lt
  have s1 := hb.size
  have K2_1 := Lib.hid (K2_0.out.below hb (show w.heap.size < W0.heap.size by omega))
  have HB_1 := Lib.hid (HB_0.out.trans (hb.mono (show w.heap.size ≤ W0.heap.size by omega)))
  clear K2_0 HB_0 hb hW
  have hRlt := hR.lt
  have HR_1 := Lib.hid hR
  clear hR
  obtain ⟨x20, x21, x22, x23, x24, x25, xf20, xf21, xf22, xf23, xf24, xf25, x2lt⟩ := K2_1.out
  go_wp2_with fail
  refine (l20Side_any W0.heap.size 0 W1 HR_1.out (by omega)).mono ?_
  rintro e W2 ⟨t1, rfl, t1l, t1h, hg, hr⟩
  clear x20 x21 x22 x23 x24 x25 xf20 xf21 xf22 xf23 xf24 xf25 x2lt
  have s2 := hg.size
  have K2_2 := Lib.hid (K2_1.out.grown hg (by simp; omega))
  have HB_2 := Lib.hid (HB_1.out.grown hg (show w.heap.size ≤ W1.heap.size by omega) (fun g e => by cases e; omega))
  have HR_2 := Lib.hid hr
  clear K2_1 HB_1 HR_1 hg hr
  obtain ⟨x20, x21, x22, x23, x24, x25, xf20, xf21, xf22, xf23, xf24, xf25, x2lt⟩ := K2_2.out
  go_wp2_with fail
  refine (l20Side_any W0.heap.size (0 + 20) W2 HR_2.out (by omega)).mono ?_
  rintro e W3 ⟨t2, rfl, t2l, t2h, hg, hr⟩
  clear x20 x21 x22 x23 x24 x25 xf20 xf21 xf22 xf23 xf24 xf25 x2lt
  have s3 := hg.size
  have K2_3 := Lib.hid (K2_2.out.grown hg (by simp; omega))
  have HB_3 := Lib.hid (HB_2.out.grown hg (show w.heap.size ≤ W2.heap.size by omega) (fun g e => by cases e; omega))
  have HR_3 := Lib.hid hr
  clear K2_2 HB_2 HR_2 hg hr
  obtain ⟨x20, x21, x22, x23, x24, x25, xf20, xf21, xf22, xf23, xf24, xf25, x2lt⟩ := K2_3.out
  go_wp2_with fail
  refine (l20SM_any W0.heap.size (0 + 20 + 20) t1 t2 12 W3 HR_3.out (by omega) (by omega) (by omega) (by omega) (by omega) (by omega) (by omega)).mono ?_
  rintro e W4 ⟨r, cc, s1, zs, r2, c2, s2', ks, rfl, hra, hrb, zl, kl, hg, hr⟩
  obtain ⟨Aa, ca, rfl, _, _, _⟩ := hra.form
  obtain ⟨Ab, cb, rfl, _, _, _⟩ := hrb.form
  clear x20 x21 x22 x23 x24 x25 xf20 xf21 xf22 xf23 xf24 xf25 x2lt
  have s4 := hg.size
  have K2_4 := Lib.hid (K2_3.out.grown hg (by simp; omega))
  have HB_4 := Lib.hid (HB_3.out.grown hg (show w.heap.size ≤ W3.heap.size by omega) (fun g e => by cases e; omega))
  have HR_4 := Lib.hid hr
  clear K2_3 HB_3 HR_3 hg hr
  have Ra_4 := Lib.hid hra
  have Rb_4 := Lib.hid hrb
  clear hra hrb
  have hRa := HR_4.out.alloc (.cells #[.int .i64 r, .int .i64 cc, .slice Aa zs.length ca, .int .i64 r2, .int .i64 c2, .slice Ab ks.length cb] 47)
  have kn := Cell6.new W4 (.int .i64 r) (.int .i64 cc) (.slice Aa zs.length ca) (.int .i64 r2) (.int .i64 c2) (.slice Ab ks.length cb) 47
  obtain ⟨W5, hW5⟩ : ∃ W, W4.alloc (.cells #[.int .i64 r, .int .i64 cc, .slice Aa zs.length ca, .int .i64 r2, .int .i64 c2, .slice Ab ks.length cb] 47) = W := ⟨_, rfl⟩
  rw [hW5] at kn
  have z5 : W5.heap.size = W4.heap.size + 1 := by rw [← hW5]; simp
  replace z5 := And.intro (Nat.le_of_eq z5) (Nat.le_of_eq z5.symm)
  have hal : Below W4.heap.size W4 W5 := hW5 ▸ (Below.refl _ _).alloc (Nat.le_refl _) _
  have s5 := hal.size
  have K2_5 := Lib.hid (K2_4.out.below hal (show w.heap.size < W4.heap.size by omega))
  have Ra_5 := Lib.hid (Ra_4.out.below hal (show W4.heap.size ≤ W4.heap.size by omega))
  have Rb_5 := Lib.hid (Rb_4.out.below hal (show W4.heap.size ≤ W4.heap.size by omega))
  have HB_5 := Lib.hid (HB_4.out.trans (hal.mono (show w.heap.size ≤ W4.heap.size by omega)))
  clear K2_4 Ra_4 Rb_4 HB_4 hal
  have K7_5 := Lib.hid kn
  clear kn
  rw [hW5] at hRa
  have HRD := Lib.hid hRa.drew
  clear HR_4 hRa
  have HMK := Lib.hid fun w' (hx : W5.grownBy w' (some W0.heap.size)) => (show w'.cell? ⟨W4.heap.size, 0, none⟩ = some (.int .i64 r) ∧ w'.cell? ⟨W4.heap.size, 1, none⟩ = some (.int .i64 cc) ∧ w'.cell? ⟨W4.heap.size, 2, none⟩ = some (.slice Aa zs.length ca) ∧ w'.cell? ⟨W4.heap.size, 3, none⟩ = some (.int .i64 r2) ∧ w'.cell? ⟨W4.heap.size, 4, none⟩ = some (.int .i64 c2) ∧ w'.cell? ⟨W4.heap.size, 5, none⟩ = some (.slice Ab ks.length cb) from (by have h7 := K7_5.out.grown hx (by simp; omega); exact ⟨h7.c0, h7.c1, h7.c2, h7.c3, h7.c4, h7.c5⟩))
  have HM2 := Lib.hid fun w' (hx : W5.grownBy w' (some W0.heap.size)) (v0 v1 v2 v3 v4 v5 : Value) => (show ((((((w'.setCell ⟨w.heap.size, 0, none⟩ v0).setCell ⟨w.heap.size, 1, none⟩ v1).setCell ⟨w.heap.size, 2, none⟩ v2).setCell ⟨w.heap.size, 3, none⟩ v3).setCell ⟨w.heap.size, 4, none⟩ v4).setCell ⟨w.heap.size, 5, none⟩ v5).cell? ⟨W4.heap.size, 0, none⟩ = some (.int .i64 r) ∧ ((((((w'.setCell ⟨w.heap.size, 0, none⟩ v0).setCell ⟨w.heap.size, 1, none⟩ v1).setCell ⟨w.heap.size, 2, none⟩ v2).setCell ⟨w.heap.size, 3, none⟩ v3).setCell ⟨w.heap.size, 4, none⟩ v4).setCell ⟨w.heap.size, 5, none⟩ v5).cell? ⟨W4.heap.size, 1, none⟩ = some (.int .i64 cc) ∧ ((((((w'.setCell ⟨w.heap.size, 0, none⟩ v0).setCell ⟨w.heap.size, 1, none⟩ v1).setCell ⟨w.heap.size, 2, none⟩ v2).setCell ⟨w.heap.size, 3, none⟩ v3).setCell ⟨w.heap.size, 4, none⟩ v4).setCell ⟨w.heap.size, 5, none⟩ v5).cell? ⟨W4.heap.size, 2, none⟩ = some (.slice Aa zs.length ca) ∧ ((((((w'.setCell ⟨w.heap.size, 0, none⟩ v0).setCell ⟨w.heap.size, 1, none⟩ v1).setCell ⟨w.heap.size, 2, none⟩ v2).setCell ⟨w.heap.size, 3, none⟩ v3).setCell ⟨w.heap.size, 4, none⟩ v4).setCell ⟨w.heap.size, 5, none⟩ v5).cell? ⟨W4.heap.size, 3, none⟩ = some (.int .i64 r2) ∧ ((((((w'.setCell ⟨w.heap.size, 0, none⟩ v0).setCell ⟨w.heap.size, 1, none⟩ v1).setCell ⟨w.heap.size, 2, none⟩ v2).setCell ⟨w.heap.size, 3, none⟩ v3).setCell ⟨w.heap.size, 4, none⟩ v4).setCell ⟨w.heap.size, 5, none⟩ v5).cell? ⟨W4.heap.size, 4, none⟩ = some (.int .i64 c2) ∧ ((((((w'.setCell ⟨w.heap.size, 0, none⟩ v0).setCell ⟨w.heap.size, 1, none⟩ v1).setCell ⟨w.heap.size, 2, none⟩ v2).setCell ⟨w.heap.size, 3, none⟩ v3).setCell ⟨w.heap.size, 4, none⟩ v4).setCell ⟨w.heap.size, 5, none⟩ v5).cell? ⟨W4.heap.size, 5, none⟩ = some (.slice Ab ks.length cb) from (by have h7 := K7_5.out.grown hx (by simp; omega); have h8 := ((((((h7.far (a := ⟨w.heap.size, 0, none⟩) (show W4.heap.size ≠ w.heap.size by omega) v0).far (a := ⟨w.heap.size, 1, none⟩) (show W4.heap.size ≠ w.heap.size by omega) v1).far (a := ⟨w.heap.size, 2, none⟩) (show W4.heap.size ≠ w.heap.size by omega) v2).far (a := ⟨w.heap.size, 3, none⟩) (show W4.heap.size ≠ w.heap.size by omega) v3).far (a := ⟨w.heap.size, 4, none⟩) (show W4.heap.size ≠ w.heap.size by omega) v4).far (a := ⟨w.heap.size, 5, none⟩) (show W4.heap.size ≠ w.heap.size by omega) v5); exact ⟨h8.c0, h8.c1, h8.c2, h8.c3, h8.c4, h8.c5⟩))
  have hcur : W5.grownBy W5.drew (some W0.heap.size) := (drewG W5).grown _
  have hsD : W5.drew.heap.size = W5.heap.size := rfl
  have HSD := Lib.hid hsD
  clear hsD
  obtain ⟨x20, x21, x22, x23, x24, x25, xf20, xf21, xf22, xf23, xf24, xf25, x2lt⟩ := K2_5.out
  obtain ⟨x70, x71, x72, x73, x74, x75, xf70, xf71, xf72, xf73, xf74, xf75, x7lt⟩ := K7_5.out
  go_upto_region 4 with fail
  go_region_held3 (fun w' => w'.cell? ⟨W4.heap.size, 0, none⟩ = some (.int .i64 r) ∧ w'.cell? ⟨W4.heap.size, 1, none⟩ = some (.int .i64 cc) ∧ w'.cell? ⟨W4.heap.size, 2, none⟩ = some (.slice Aa zs.length ca) ∧ w'.cell? ⟨W4.heap.size, 3, none⟩ = some (.int .i64 r2) ∧ w'.cell? ⟨W4.heap.size, 4, none⟩ = some (.int .i64 c2) ∧ w'.cell? ⟨W4.heap.size, 5, none⟩ = some (.slice Ab ks.length cb))
    (first | with_reducible exact HMK.out _ hcur | with_reducible exact HM2.out _ hcur _ _ _ _ _ _ | fail)
    (first
      | (go_simp; go_at_call 40; refine (l20Order_any W0.heap.size (0 + 20 + 20 + 200000) t1 9 W5.drew HRD.out (by omega) (by omega) (by omega) (by omega)).mono ?_; rintro e Wa ⟨Ao, m, co, os, rfl, o1, o2, o3, o4, ⟨o5, o6⟩, hga, hra⟩; have hcur := gtrans hcur hga)
      | (go_simp; go_at_call 63; refine (l20Seed_any W0.heap.size (0 + 20 + 20 + 200000 + 20) 12 Wa hra (by omega) (by omega) (by omega)).mono ?_; rintro e Wb ⟨sd, rfl, hsd, _, hgb, _⟩; have hcur := gtrans hcur hgb; obtain ⟨y0, y1, y2, y3, y4, y5, yf0, yf1, yf2, yf3, yf4, yf5, ylt⟩ := K2_5.out.grown hcur (by simp; omega))
      | fail)
  clear HMK HM2 y0 y1 y2 y3 y4 y5 yf0 yf1 yf2 yf3 yf4 yf5 ylt hra
  have HAO := Lib.hid (show ∀ a, Ao = some a → W4.heap.size < a.block from fun a e => by have h1 := o6 a e; have h2 := HSD.out; omega)
  have hsg := hgb.size
  have hSo := (o4.grownR hgb (fun a e => by have h1 := HAO.out a e; omega)).more hsg
  subst o1
  clear o4 o6 hga hgb hsg
  obtain ⟨W6, hW6⟩ : ∃ W, W = Wb := ⟨_, rfl⟩
  subst hW6
  clear x20 x21 x22 x23 x24 x25 xf20 xf21 xf22 xf23 xf24 xf25 x2lt x70 x71 x72 x73 x74 x75 xf70 xf71 xf72 xf73 xf74 xf75 x7lt
  have HR_5 := True.intro
  have hr0 := True.intro
  have s6 := hcur.size
  have K2_6 := Lib.hid (K2_5.out.grown hcur (by simp; omega))
  have K7_6 := Lib.hid (K7_5.out.grown hcur (by simp; omega))
  have Ra_6 := Lib.hid (Ra_5.out.grown hcur (fun g e => by cases e; omega))
  have Rb_6 := Lib.hid (Rb_5.out.grown hcur (fun g e => by cases e; omega))
  have HB_6 := Lib.hid (HB_5.out.grown hcur (show w.heap.size ≤ W5.heap.size by omega) (fun g e => by cases e; omega))
  have HR_6 := Lib.hid hr0
  clear K2_5 K7_5 Ra_5 Rb_5 HB_5 HR_5 hcur hr0
  clear HR_6
  have So_6 := Lib.hid hSo
  clear hSo HSD
  have So_7 := Lib.hid ((((((So_6.out.farB (b := w.heap.size) (fun a e => by have := HAO.out a e; omega) 0 (.int .i64 r)).farB (b := w.heap.size) (fun a e => by have := HAO.out a e; omega) 1 (.int .i64 cc)).farB (b := w.heap.size) (fun a e => by have := HAO.out a e; omega) 2 (.slice Aa zs.length ca)).farB (b := w.heap.size) (fun a e => by have := HAO.out a e; omega) 3 (.int .i64 r2)).farB (b := w.heap.size) (fun a e => by have := HAO.out a e; omega) 4 (.int .i64 c2)).farB (b := w.heap.size) (fun a e => by have := HAO.out a e; omega) 5 (.slice Ab ks.length cb))
  have K2_7 := Lib.hid ((((((K2_6.out.set0 (.int .i64 r)).set1 (.int .i64 cc)).set2 (.slice Aa zs.length ca)).set3 (.int .i64 r2)).set4 (.int .i64 c2)).set5 (.slice Ab ks.length cb))
  have K7_7 := Lib.hid ((((((K7_6.out.far (a := ⟨w.heap.size, 0, none⟩) (show W4.heap.size ≠ w.heap.size by omega) (.int .i64 r)).far (a := ⟨w.heap.size, 1, none⟩) (show W4.heap.size ≠ w.heap.size by omega) (.int .i64 cc)).far (a := ⟨w.heap.size, 2, none⟩) (show W4.heap.size ≠ w.heap.size by omega) (.slice Aa zs.length ca)).far (a := ⟨w.heap.size, 3, none⟩) (show W4.heap.size ≠ w.heap.size by omega) (.int .i64 r2)).far (a := ⟨w.heap.size, 4, none⟩) (show W4.heap.size ≠ w.heap.size by omega) (.int .i64 c2)).far (a := ⟨w.heap.size, 5, none⟩) (show W4.heap.size ≠ w.heap.size by omega) (.slice Ab ks.length cb))
  have Ra_7 := Lib.hid ((((((Ra_6.out.grown (set_grown _ (w.heap.size) 0 (.int .i64 r)) (fun g e => by cases e; omega)).grown (set_grown _ (w.heap.size) 1 (.int .i64 cc)) (fun g e => by cases e; omega)).grown (set_grown _ (w.heap.size) 2 (.slice Aa zs.length ca)) (fun g e => by cases e; omega)).grown (set_grown _ (w.heap.size) 3 (.int .i64 r2)) (fun g e => by cases e; omega)).grown (set_grown _ (w.heap.size) 4 (.int .i64 c2)) (fun g e => by cases e; omega)).grown (set_grown _ (w.heap.size) 5 (.slice Ab ks.length cb)) (fun g e => by cases e; omega))
  have Rb_7 := Lib.hid ((((((Rb_6.out.grown (set_grown _ (w.heap.size) 0 (.int .i64 r)) (fun g e => by cases e; omega)).grown (set_grown _ (w.heap.size) 1 (.int .i64 cc)) (fun g e => by cases e; omega)).grown (set_grown _ (w.heap.size) 2 (.slice Aa zs.length ca)) (fun g e => by cases e; omega)).grown (set_grown _ (w.heap.size) 3 (.int .i64 r2)) (fun g e => by cases e; omega)).grown (set_grown _ (w.heap.size) 4 (.int .i64 c2)) (fun g e => by cases e; omega)).grown (set_grown _ (w.heap.size) 5 (.slice Ab ks.length cb)) (fun g e => by cases e; omega))
  have HB_7 := Lib.hid ((((((HB_6.out.setCell (p := ⟨w.heap.size, 0, none⟩) (show w.heap.size ≤ w.heap.size by omega) (.int .i64 r)).setCell (p := ⟨w.heap.size, 1, none⟩) (show w.heap.size ≤ w.heap.size by omega) (.int .i64 cc)).setCell (p := ⟨w.heap.size, 2, none⟩) (show w.heap.size ≤ w.heap.size by omega) (.slice Aa zs.length ca)).setCell (p := ⟨w.heap.size, 3, none⟩) (show w.heap.size ≤ w.heap.size by omega) (.int .i64 r2)).setCell (p := ⟨w.heap.size, 4, none⟩) (show w.heap.size ≤ w.heap.size by omega) (.int .i64 c2)).setCell (p := ⟨w.heap.size, 5, none⟩) (show w.heap.size ≤ w.heap.size by omega) (.slice Ab ks.length cb))
  have z7 : ((((((W6.setCell ⟨w.heap.size, 0, none⟩ (.int .i64 r)).setCell ⟨w.heap.size, 1, none⟩ (.int .i64 cc)).setCell ⟨w.heap.size, 2, none⟩ (.slice Aa zs.length ca)).setCell ⟨w.heap.size, 3, none⟩ (.int .i64 r2)).setCell ⟨w.heap.size, 4, none⟩ (.int .i64 c2)).setCell ⟨w.heap.size, 5, none⟩ (.slice Ab ks.length cb)).heap.size = W6.heap.size := by simp
  obtain ⟨x20, x21, x22, x23, x24, x25, xf20, xf21, xf22, xf23, xf24, xf25, x2lt⟩ := K2_6.out
  obtain ⟨x70, x71, x72, x73, x74, x75, xf70, xf71, xf72, xf73, xf74, xf75, x7lt⟩ := K7_6.out
  go_wp2_with fail
  obtain ⟨W7, hW7⟩ : ∃ W, ((((((W6.setCell ⟨w.heap.size, 0, none⟩ (.int .i64 r)).setCell ⟨w.heap.size, 1, none⟩ (.int .i64 cc)).setCell ⟨w.heap.size, 2, none⟩ (.slice Aa zs.length ca)).setCell ⟨w.heap.size, 3, none⟩ (.int .i64 r2)).setCell ⟨w.heap.size, 4, none⟩ (.int .i64 c2)).setCell ⟨w.heap.size, 5, none⟩ (.slice Ab ks.length cb)) = W := ⟨_, rfl⟩
  rw [hW7] at K2_7 K7_7 Ra_7 Rb_7 HB_7 So_7 z7 ⊢
  replace z7 := And.intro (Nat.le_of_eq z7) (Nat.le_of_eq z7.symm)
  clear x20 x21 x22 x23 x24 x25 xf20 xf21 xf22 xf23 xf24 xf25 x2lt x70 x71 x72 x73 x74 x75 xf70 xf71 xf72 xf73 xf74 xf75 x7lt
  clear hW7 K2_6 K7_6 Ra_6 Rb_6 HB_6 So_6
  obtain ⟨z0', z1', z2', z3', z4', z5', _, _, _, _, _, _, _⟩ := K2_7.out
  refine bodyPost_ret (v := .tuple #[.agg #[.int .i64 r, .int .i64 cc, .slice Aa zs.length ca, .int .i64 r2, .int .i64 c2, .slice Ab ks.length cb], .slice Ao os.length co, .int .i64 sd]) (by simp [results, Try.results33, go_sem, z0', z1', z2', z3', z4', z5']) rfl ?_
  exact ⟨r, cc, _, zs, r2, c2, _, ks, Ao, co, os, sd, rfl, Ra_7.out.wider (by omega) (by omega), Rb_7.out.wider (by omega) (by omega), So_7.out.more (by omega), zl, kl, o5, hsd, HB_7.out⟩
end Go.Proofs.Ytilmglockldddaa
