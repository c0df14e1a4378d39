/- Contracts of the drawing function of a shared matrix and a kernel. (Printed by gen_R6.py.) -/
import Derived.Test.YtakjmdjjpalaiaaFnsR4
namespace Go.Proofs.Ytakjmdjjpalaiaa
open Go.RowKit

set_option maxRecDepth 20000 in
set_option maxHeartbeats 3200000 in
theorem drawFS (A : Option Addr) (n c : Nat) (w : World) (hn : n ≤ 1048576) (hnc : n ≤ c) (hcm : c ≤ maxLen) (hc : Code8 w A n) :
    Calls Try.prog 48 #[.slice A n c] w fun e w' => ∃ (r c : Int) (s : Value) (zs : List Int) (r2 c2 : Int) (s2 : Value) (ks : List Int) (kr kc : Int) (sk : Value) (ys : List Int), e = .returned (.tuple #[smV r c s r2 c2 s2, matV kr kc sk]) ∧ Row w' w.heap.size w'.heap.size s zs ∧ Row w' w.heap.size w'.heap.size s2 ks ∧ Row w' w.heap.size w'.heap.size sk ys ∧ zs.length ≤ 37 ∧ ks.length ≤ 37 ∧ ys.length ≤ 37 ∧ Below w.heap.size w w' := by
  have q2 := (Cell6.new (w) (.int .i64 0) (.int .i64 0) (.slice none 0 0) (.int .i64 0) (.int .i64 0) (.slice none 0 0) 43).alloc (.cells #[.int .i64 0, .int .i64 0, .slice none 0 0] 26)
  have q3 := Cell3.new (w.alloc (.cells #[.int .i64 0, .int .i64 0, .slice none 0 0, .int .i64 0, .int .i64 0, .slice none 0 0] 43)) (.int .i64 0) (.int .i64 0) (.slice none 0 0) 26
  have hb : Below w.heap.size w ((w.alloc (.cells #[.int .i64 0, .int .i64 0, .slice none 0 0, .int .i64 0, .int .i64 0, .slice none 0 0] 43)).alloc (.cells #[.int .i64 0, .int .i64 0, .slice none 0 0] 26)) := ((Below.refl _ _).alloc (Nat.le_refl _) _).alloc (by simp) _
  have hsz : ((w.alloc (.cells #[.int .i64 0, .int .i64 0, .slice none 0 0, .int .i64 0, .int .i64 0, .slice none 0 0] 43)).alloc (.cells #[.int .i64 0, .int .i64 0, .slice none 0 0] 26)).heap.size = w.heap.size + 2 := by simp
  simp only [World.size_alloc] at q3
  obtain ⟨W0, hW⟩ : ∃ W, (w.alloc (.cells #[.int .i64 0, .int .i64 0, .slice none 0 0, .int .i64 0, .int .i64 0, .slice none 0 0] 43)).alloc (.cells #[.int .i64 0, .int .i64 0, .slice none 0 0] 26) = W := ⟨_, rfl⟩
  rw [hW] at q2 q3 hb hsz
  have K2_0 := Lib.hid q2
  have K3_0 := Lib.hid q3
  have HB_0 := Lib.hid hb
  have hc0 := hc.below HB_0.out
  have hszl : w.heap.size + 2 ≤ W0.heap.size ∧ W0.heap.size ≤ w.heap.size + 2 := by omega
  clear hb q2 q3 hc hsz
  go_enter Try.func48, Try.ntmps48
  obtain ⟨x20, x21, x22, x23, x24, x25, xf20, xf21, xf22, xf23, xf24, xf25, x2lt⟩ := K2_0.out
  obtain ⟨x30, x31, x32, xf30, xf31, xf32, x3lt⟩ := K3_0.out
  go_wp2_with fail
  refine (open_any A n c W0 hn hnc hcm hc0).mono ?_
  rintro e W1 ⟨rfl, hR, hb⟩
  clear hc0
  clear x20 x21 x22 x23 x24 x25 xf20 xf21 xf22 xf23 xf24 xf25 x2lt x30 x31 x32 xf30 xf31 xf32 x3lt
  have s1 := hb.size
  have K2_1 := Lib.hid (K2_0.out.below hb (show w.heap.size < W0.heap.size by omega))
  have K3_1 := Lib.hid (K3_0.out.below hb (show w.heap.size + 1 < W0.heap.size by omega))
  have HB_1 := Lib.hid (HB_0.out.trans (hb.mono (show w.heap.size ≤ W0.heap.size by omega)))
  clear K2_0 K3_0 HB_0 hb hW
  have hRlt := hR.lt
  have HR_1 := Lib.hid hR
  clear hR
  obtain ⟨x20, x21, x22, x23, x24, x25, xf20, xf21, xf22, xf23, xf24, xf25, x2lt⟩ := K2_1.out
  obtain ⟨x30, x31, x32, xf30, xf31, xf32, x3lt⟩ := K3_1.out
  go_wp2_with fail
  refine (pick_pos W0.heap.size 0 5 W1 HR_1.out (by omega) (by omega)).mono ?_
  rintro e W2 ⟨p, rfl, p0, p1, hr, hg⟩
  obtain ⟨t1, ht1⟩ : ∃ t1 : Nat, 1 + p = (t1 : Int) := Int.eq_ofNat_of_zero_le (by omega)
  have t1l : 1 ≤ t1 ∧ t1 ≤ 5 := by omega
  clear x20 x21 x22 x23 x24 x25 xf20 xf21 xf22 xf23 xf24 xf25 x2lt x30 x31 x32 xf30 xf31 xf32 x3lt
  have s2 := hg.size
  have K2_2 := Lib.hid (K2_1.out.grown hg (by simp; omega))
  have K3_2 := Lib.hid (K3_1.out.grown hg (by simp; omega))
  have HB_2 := Lib.hid (HB_1.out.grown hg (show w.heap.size ≤ W1.heap.size by omega) (fun g e => by cases e; omega))
  have HR_2 := Lib.hid hr
  clear K2_1 K3_1 HB_1 HR_1 hg hr
  obtain ⟨x20, x21, x22, x23, x24, x25, xf20, xf21, xf22, xf23, xf24, xf25, x2lt⟩ := K2_2.out
  obtain ⟨x30, x31, x32, xf30, xf31, xf32, x3lt⟩ := K3_2.out
  go_wp2_with fail
  refine (pick_pos W0.heap.size (0 + 1) 5 W2 HR_2.out (by omega) (by omega)).mono ?_
  rintro e W3 ⟨q, rfl, q0, q1, hr, hg⟩
  obtain ⟨t2, ht2⟩ : ∃ t2 : Nat, 1 + q = (t2 : Int) := Int.eq_ofNat_of_zero_le (by omega)
  have t2l : 1 ≤ t2 ∧ t2 ≤ 5 := by omega
  clear x20 x21 x22 x23 x24 x25 xf20 xf21 xf22 xf23 xf24 xf25 x2lt x30 x31 x32 xf30 xf31 xf32 x3lt
  have s3 := hg.size
  have K2_3 := Lib.hid (K2_2.out.grown hg (by simp; omega))
  have K3_3 := Lib.hid (K3_2.out.grown hg (by simp; omega))
  have HB_3 := Lib.hid (HB_2.out.grown hg (show w.heap.size ≤ W2.heap.size by omega) (fun g e => by cases e; omega))
  have HR_3 := Lib.hid hr
  clear K2_2 K3_2 HB_2 HR_2 hg hr
  obtain ⟨x20, x21, x22, x23, x24, x25, xf20, xf21, xf22, xf23, xf24, xf25, x2lt⟩ := K2_3.out
  obtain ⟨x30, x31, x32, xf30, xf31, xf32, x3lt⟩ := K3_3.out
  go_wp2_with fail
  refine (l20SM_any W0.heap.size (0 + 1 + 1) t1 t2 12 W3 HR_3.out (by omega) (by omega) (by omega) (by omega) (by omega) (by omega) (by omega)).mono ?_
  rintro e W4 ⟨r, cc, s1, zs, r2, c2, s2', ks, rfl, hra, hrb, zl, kl, hg, hr⟩
  obtain ⟨Aa, ca, rfl, _, _, _⟩ := hra.form
  obtain ⟨Ab, cb, rfl, _, _, _⟩ := hrb.form
  clear x20 x21 x22 x23 x24 x25 xf20 xf21 xf22 xf23 xf24 xf25 x2lt x30 x31 x32 xf30 xf31 xf32 x3lt
  have s4 := hg.size
  have K2_4 := Lib.hid (K2_3.out.grown hg (by simp; omega))
  have K3_4 := Lib.hid (K3_3.out.grown hg (by simp; omega))
  have HB_4 := Lib.hid (HB_3.out.grown hg (show w.heap.size ≤ W3.heap.size by omega) (fun g e => by cases e; omega))
  have HR_4 := Lib.hid hr
  clear K2_3 K3_3 HB_3 HR_3 hg hr
  have Ra_4 := Lib.hid hra
  have Rb_4 := Lib.hid hrb
  clear hra hrb
  have hRa := HR_4.out.alloc (.cells #[.int .i64 r, .int .i64 cc, .slice Aa zs.length ca, .int .i64 r2, .int .i64 c2, .slice Ab ks.length cb] 43)
  have kn := Cell6.new W4 (.int .i64 r) (.int .i64 cc) (.slice Aa zs.length ca) (.int .i64 r2) (.int .i64 c2) (.slice Ab ks.length cb) 43
  obtain ⟨W5, hW5⟩ : ∃ W, W4.alloc (.cells #[.int .i64 r, .int .i64 cc, .slice Aa zs.length ca, .int .i64 r2, .int .i64 c2, .slice Ab ks.length cb] 43) = W := ⟨_, rfl⟩
  rw [hW5] at kn
  have z5 : W5.heap.size = W4.heap.size + 1 := by rw [← hW5]; simp
  have hal : Below W4.heap.size W4 W5 := hW5 ▸ (Below.refl _ _).alloc (Nat.le_refl _) _
  have s5 := hal.size
  have K2_5 := Lib.hid (K2_4.out.below hal (show w.heap.size < W4.heap.size by omega))
  have K3_5 := Lib.hid (K3_4.out.below hal (show w.heap.size + 1 < W4.heap.size by omega))
  have Ra_5 := Lib.hid (Ra_4.out.below hal (show W4.heap.size ≤ W4.heap.size by omega))
  have Rb_5 := Lib.hid (Rb_4.out.below hal (show W4.heap.size ≤ W4.heap.size by omega))
  have HB_5 := Lib.hid (HB_4.out.trans (hal.mono (show w.heap.size ≤ W4.heap.size by omega)))
  clear K2_4 K3_4 Ra_4 Rb_4 HB_4 hal
  have K7_5 := Lib.hid kn
  clear kn
  rw [hW5] at hRa
  clear HR_4
  obtain ⟨x20, x21, x22, x23, x24, x25, xf20, xf21, xf22, xf23, xf24, xf25, x2lt⟩ := K2_5.out
  obtain ⟨x30, x31, x32, xf30, xf31, xf32, x3lt⟩ := K3_5.out
  obtain ⟨x70, x71, x72, x73, x74, x75, xf70, xf71, xf72, xf73, xf74, xf75, x7lt⟩ := K7_5.out
  have h7 : Ty.ok W0.heap.size (XD W0.heap.size W0.heap.size (fun _ v => v = (.agg #[.int .i64 r, .int .i64 cc, .slice Aa zs.length ca, .int .i64 r2, .int .i64 c2, .slice Ab ks.length cb]))) TD W5.drew ⟨9, 1, 1, 0⟩ (.pointer (some ⟨W4.heap.size, 0, none⟩)) := by
    have hk := K7_5.out
    simp only [Ty.ok, Ty.ok0]
    simp
    exact ⟨by omega, _, hk.c0, _, hk.c1, _, hk.c2, _, hk.c3, _, hk.c4, _, hk.c5, by simp [XD]⟩
  have e1 : Ty.ok W0.heap.size (XD W0.heap.size W0.heap.size (fun _ v => v = (.agg #[.int .i64 r, .int .i64 cc, .slice Aa zs.length ca, .int .i64 r2, .int .i64 c2, .slice Ab ks.length cb]))) TD W5.drew (Ty.int 1 5) (.int .i64 t1) := ok_int (by omega) (by omega)
  have e2 : Ty.ok W0.heap.size (XD W0.heap.size W0.heap.size (fun _ v => v = (.agg #[.int .i64 r, .int .i64 cc, .slice Aa zs.length ca, .int .i64 r2, .int .i64 c2, .slice Ab ks.length cb]))) TD W5.drew (Ty.int 1 5) (.int .i64 t2) := ok_int (by omega) (by omega)
  go_upto_region 5 with fail
  refine draw_region_tail (R := W0.heap.size) (B0 := W0.heap.size) (N := 0 + 1 + 1 + 200000) (E := fun _ v => v = (.agg #[.int .i64 r, .int .i64 cc, .slice Aa zs.length ca, .int .i64 r2, .int .i64 c2, .slice Ab ks.length cb])) 80000000 40000 40000000 [(80, pickG), (65, l20MatG)] ⟨pick_sound _ 40000 (by omega) (by omega), l20Mat_sound _ 40000 (by omega) (by omega), trivial⟩ [(4, Ty.rd), (5, Ty.int 1 5), (6, Ty.int 1 5), (7, ⟨9, 1, 1, 0⟩)] [(20, Ty.own 1), (36, Ty.own 0)] (Nat.le_refl _) 17 (by kernel_rfl) (by omega) hRa ⟨ok_rd _ _ _ _, e1, e2, h7, trivial⟩ ?_
  intro W6 hg hr
  simp only [List.take_succ_cons, List.take_zero, List.drop_succ_cons, List.drop_zero, Puts, Option.bind_some, envOf, List.find?, Nat.reduceBEq, Ty.own, Nat.reduceEqDiff, if_false]
  intro v20 h20
  obtain rfl := of_ok_own (k := 0) h20
  intros
  rename_i v36 h36
  obtain ⟨r3, c3, sv3, ys, rfl, hrow, yl, _, _, _, _⟩ := of_ok_mat h36
  simp only [Act.put, List.setIfInBounds_toArray, List.set_cons_succ, List.set_cons_zero]
  obtain ⟨Ae, ce, rfl, _, _, _⟩ := hrow.form
  clear h20 h36 h7 e1 e2 hRa
  have HR_5 := True.intro
  clear x20 x21 x22 x23 x24 x25 xf20 xf21 xf22 xf23 xf24 xf25 x2lt x30 x31 x32 xf30 xf31 xf32 x3lt x70 x71 x72 x73 x74 x75 xf70 xf71 xf72 xf73 xf74 xf75 x7lt
  have s6 := hg.size
  have K2_6 := Lib.hid (K2_5.out.grown hg (by simp; omega))
  have K3_6 := Lib.hid (K3_5.out.grown hg (by simp; omega))
  have K7_6 := Lib.hid (K7_5.out.grown hg (by simp; omega))
  have Ra_6 := Lib.hid (Ra_5.out.grown hg (fun g e => by cases e; omega))
  have Rb_6 := Lib.hid (Rb_5.out.grown hg (fun g e => by cases e; omega))
  have HB_6 := Lib.hid (HB_5.out.grown hg (show w.heap.size ≤ W5.heap.size by omega) (fun g e => by cases e; omega))
  have HR_6 := Lib.hid hr
  clear K2_5 K3_5 K7_5 Ra_5 Rb_5 HB_5 HR_5 hg hr
  clear HR_6
  have Rk_6 := Lib.hid hrow
  clear hrow
  have K2_7 := Lib.hid ((((((K2_6.out.set0 (.int .i64 r)).set1 (.int .i64 cc)).set2 (.slice Aa zs.length ca)).set3 (.int .i64 r2)).set4 (.int .i64 c2)).set5 (.slice Ab ks.length cb))
  have K3_7 := Lib.hid ((((((K3_6.out.far (a := ⟨w.heap.size, 0, none⟩) (show w.heap.size + 1 ≠ w.heap.size by omega) (.int .i64 r)).far (a := ⟨w.heap.size, 1, none⟩) (show w.heap.size + 1 ≠ w.heap.size by omega) (.int .i64 cc)).far (a := ⟨w.heap.size, 2, none⟩) (show w.heap.size + 1 ≠ w.heap.size by omega) (.slice Aa zs.length ca)).far (a := ⟨w.heap.size, 3, none⟩) (show w.heap.size + 1 ≠ w.heap.size by omega) (.int .i64 r2)).far (a := ⟨w.heap.size, 4, none⟩) (show w.heap.size + 1 ≠ w.heap.size by omega) (.int .i64 c2)).far (a := ⟨w.heap.size, 5, none⟩) (show w.heap.size + 1 ≠ w.heap.size by omega) (.slice Ab ks.length cb))
  have K7_7 := Lib.hid ((((((K7_6.out.far (a := ⟨w.heap.size, 0, none⟩) (show W4.heap.size ≠ w.heap.size by omega) (.int .i64 r)).far (a := ⟨w.heap.size, 1, none⟩) (show W4.heap.size ≠ w.heap.size by omega) (.int .i64 cc)).far (a := ⟨w.heap.size, 2, none⟩) (show W4.heap.size ≠ w.heap.size by omega) (.slice Aa zs.length ca)).far (a := ⟨w.heap.size, 3, none⟩) (show W4.heap.size ≠ w.heap.size by omega) (.int .i64 r2)).far (a := ⟨w.heap.size, 4, none⟩) (show W4.heap.size ≠ w.heap.size by omega) (.int .i64 c2)).far (a := ⟨w.heap.size, 5, none⟩) (show W4.heap.size ≠ w.heap.size by omega) (.slice Ab ks.length cb))
  have Ra_7 := Lib.hid ((((((Ra_6.out.grown (set_grown _ (w.heap.size) 0 (.int .i64 r)) (fun g e => by cases e; omega)).grown (set_grown _ (w.heap.size) 1 (.int .i64 cc)) (fun g e => by cases e; omega)).grown (set_grown _ (w.heap.size) 2 (.slice Aa zs.length ca)) (fun g e => by cases e; omega)).grown (set_grown _ (w.heap.size) 3 (.int .i64 r2)) (fun g e => by cases e; omega)).grown (set_grown _ (w.heap.size) 4 (.int .i64 c2)) (fun g e => by cases e; omega)).grown (set_grown _ (w.heap.size) 5 (.slice Ab ks.length cb)) (fun g e => by cases e; omega))
  have Rb_7 := Lib.hid ((((((Rb_6.out.grown (set_grown _ (w.heap.size) 0 (.int .i64 r)) (fun g e => by cases e; omega)).grown (set_grown _ (w.heap.size) 1 (.int .i64 cc)) (fun g e => by cases e; omega)).grown (set_grown _ (w.heap.size) 2 (.slice Aa zs.length ca)) (fun g e => by cases e; omega)).grown (set_grown _ (w.heap.size) 3 (.int .i64 r2)) (fun g e => by cases e; omega)).grown (set_grown _ (w.heap.size) 4 (.int .i64 c2)) (fun g e => by cases e; omega)).grown (set_grown _ (w.heap.size) 5 (.slice Ab ks.length cb)) (fun g e => by cases e; omega))
  have Rk_7 := Lib.hid ((((((Rk_6.out.grown (set_grown _ (w.heap.size) 0 (.int .i64 r)) (fun g e => by cases e; omega)).grown (set_grown _ (w.heap.size) 1 (.int .i64 cc)) (fun g e => by cases e; omega)).grown (set_grown _ (w.heap.size) 2 (.slice Aa zs.length ca)) (fun g e => by cases e; omega)).grown (set_grown _ (w.heap.size) 3 (.int .i64 r2)) (fun g e => by cases e; omega)).grown (set_grown _ (w.heap.size) 4 (.int .i64 c2)) (fun g e => by cases e; omega)).grown (set_grown _ (w.heap.size) 5 (.slice Ab ks.length cb)) (fun g e => by cases e; omega))
  have HB_7 := Lib.hid ((((((HB_6.out.setCell (p := ⟨w.heap.size, 0, none⟩) (show w.heap.size ≤ w.heap.size by omega) (.int .i64 r)).setCell (p := ⟨w.heap.size, 1, none⟩) (show w.heap.size ≤ w.heap.size by omega) (.int .i64 cc)).setCell (p := ⟨w.heap.size, 2, none⟩) (show w.heap.size ≤ w.heap.size by omega) (.slice Aa zs.length ca)).setCell (p := ⟨w.heap.size, 3, none⟩) (show w.heap.size ≤ w.heap.size by omega) (.int .i64 r2)).setCell (p := ⟨w.heap.size, 4, none⟩) (show w.heap.size ≤ w.heap.size by omega) (.int .i64 c2)).setCell (p := ⟨w.heap.size, 5, none⟩) (show w.heap.size ≤ w.heap.size by omega) (.slice Ab ks.length cb))
  have z7 : ((((((W6.setCell ⟨w.heap.size, 0, none⟩ (.int .i64 r)).setCell ⟨w.heap.size, 1, none⟩ (.int .i64 cc)).setCell ⟨w.heap.size, 2, none⟩ (.slice Aa zs.length ca)).setCell ⟨w.heap.size, 3, none⟩ (.int .i64 r2)).setCell ⟨w.heap.size, 4, none⟩ (.int .i64 c2)).setCell ⟨w.heap.size, 5, none⟩ (.slice Ab ks.length cb)).heap.size = W6.heap.size := by simp
  obtain ⟨x20, x21, x22, x23, x24, x25, xf20, xf21, xf22, xf23, xf24, xf25, x2lt⟩ := K2_6.out
  obtain ⟨x30, x31, x32, xf30, xf31, xf32, x3lt⟩ := K3_6.out
  obtain ⟨x70, x71, x72, x73, x74, x75, xf70, xf71, xf72, xf73, xf74, xf75, x7lt⟩ := K7_6.out
  go_wp2_with fail
  obtain ⟨W7, hW7⟩ : ∃ W, ((((((W6.setCell ⟨w.heap.size, 0, none⟩ (.int .i64 r)).setCell ⟨w.heap.size, 1, none⟩ (.int .i64 cc)).setCell ⟨w.heap.size, 2, none⟩ (.slice Aa zs.length ca)).setCell ⟨w.heap.size, 3, none⟩ (.int .i64 r2)).setCell ⟨w.heap.size, 4, none⟩ (.int .i64 c2)).setCell ⟨w.heap.size, 5, none⟩ (.slice Ab ks.length cb)) = W := ⟨_, rfl⟩
  rw [hW7] at K2_7 K3_7 K7_7 Ra_7 Rb_7 Rk_7 HB_7 z7 ⊢
  clear x20 x21 x22 x23 x24 x25 xf20 xf21 xf22 xf23 xf24 xf25 x2lt x30 x31 x32 xf30 xf31 xf32 x3lt x70 x71 x72 x73 x74 x75 xf70 xf71 xf72 xf73 xf74 xf75 x7lt
  clear hW7 K2_6 K3_6 K7_6 Ra_6 Rb_6 Rk_6 HB_6
  have K2_8 := Lib.hid (((K2_7.out.far (a := ⟨w.heap.size + 1, 0, none⟩) (show w.heap.size ≠ w.heap.size + 1 by omega) (.int .i64 r3)).far (a := ⟨w.heap.size + 1, 1, none⟩) (show w.heap.size ≠ w.heap.size + 1 by omega) (.int .i64 c3)).far (a := ⟨w.heap.size + 1, 2, none⟩) (show w.heap.size ≠ w.heap.size + 1 by omega) (.slice Ae ys.length ce))
  have K3_8 := Lib.hid (((K3_7.out.set0 (.int .i64 r3)).set1 (.int .i64 c3)).set2 (.slice Ae ys.length ce))
  have K7_8 := Lib.hid (((K7_7.out.far (a := ⟨w.heap.size + 1, 0, none⟩) (show W4.heap.size ≠ w.heap.size + 1 by omega) (.int .i64 r3)).far (a := ⟨w.heap.size + 1, 1, none⟩) (show W4.heap.size ≠ w.heap.size + 1 by omega) (.int .i64 c3)).far (a := ⟨w.heap.size + 1, 2, none⟩) (show W4.heap.size ≠ w.heap.size + 1 by omega) (.slice Ae ys.length ce))
  have Ra_8 := Lib.hid (((Ra_7.out.grown (set_grown _ (w.heap.size + 1) 0 (.int .i64 r3)) (fun g e => by cases e; omega)).grown (set_grown _ (w.heap.size + 1) 1 (.int .i64 c3)) (fun g e => by cases e; omega)).grown (set_grown _ (w.heap.size + 1) 2 (.slice Ae ys.length ce)) (fun g e => by cases e; omega))
  have Rb_8 := Lib.hid (((Rb_7.out.grown (set_grown _ (w.heap.size + 1) 0 (.int .i64 r3)) (fun g e => by cases e; omega)).grown (set_grown _ (w.heap.size + 1) 1 (.int .i64 c3)) (fun g e => by cases e; omega)).grown (set_grown _ (w.heap.size + 1) 2 (.slice Ae ys.length ce)) (fun g e => by cases e; omega))
  have Rk_8 := Lib.hid (((Rk_7.out.grown (set_grown _ (w.heap.size + 1) 0 (.int .i64 r3)) (fun g e => by cases e; omega)).grown (set_grown _ (w.heap.size + 1) 1 (.int .i64 c3)) (fun g e => by cases e; omega)).grown (set_grown _ (w.heap.size + 1) 2 (.slice Ae ys.length ce)) (fun g e => by cases e; omega))
  have HB_8 := Lib.hid (((HB_7.out.setCell (p := ⟨w.heap.size + 1, 0, none⟩) (show w.heap.size ≤ w.heap.size + 1 by omega) (.int .i64 r3)).setCell (p := ⟨w.heap.size + 1, 1, none⟩) (show w.heap.size ≤ w.heap.size + 1 by omega) (.int .i64 c3)).setCell (p := ⟨w.heap.size + 1, 2, none⟩) (show w.heap.size ≤ w.heap.size + 1 by omega) (.slice Ae ys.length ce))
  have z8 : (((W7.setCell ⟨w.heap.size + 1, 0, none⟩ (.int .i64 r3)).setCell ⟨w.heap.size + 1, 1, none⟩ (.int .i64 c3)).setCell ⟨w.heap.size + 1, 2, none⟩ (.slice Ae ys.length ce)).heap.size = W7.heap.size := by simp
  obtain ⟨W8, hW8⟩ : ∃ W, (((W7.setCell ⟨w.heap.size + 1, 0, none⟩ (.int .i64 r3)).setCell ⟨w.heap.size + 1, 1, none⟩ (.int .i64 c3)).setCell ⟨w.heap.size + 1, 2, none⟩ (.slice Ae ys.length ce)) = W := ⟨_, rfl⟩
  rw [hW8] at K2_8 K3_8 K7_8 Ra_8 Rb_8 Rk_8 HB_8 z8 ⊢
  clear hW8 K2_7 K3_7 K7_7 Ra_7 Rb_7 Rk_7 HB_7
  obtain ⟨z0, z1, z2, z3, z4, z5, _⟩ := K2_8.out
  obtain ⟨y0, y1, y2, _⟩ := K3_8.out
  refine bodyPost_ret (v := .tuple #[(.agg #[.int .i64 r, .int .i64 cc, .slice Aa zs.length ca, .int .i64 r2, .int .i64 c2, .slice Ab ks.length cb]), .agg #[.int .i64 r3, .int .i64 c3, .slice Ae ys.length ce]]) (by simp [results, Try.results48, go_sem, z0, z1, z2, z3, z4, z5, y0, y1, y2]) rfl ?_
  exact ⟨r, cc, _, zs, r2, c2, _, ks, r3, c3, _, ys, rfl, Ra_8.out.wider (by omega) (by omega), Rb_8.out.wider (by omega) (by omega), Rk_8.out.wider (by omega) (by omega), zl, kl, yl, HB_8.out⟩
end Go.Proofs.Ytakjmdjjpalaiaa
