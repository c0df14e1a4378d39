/- Contracts of the drawing function of a shared matrix and a size. (Printed by gen_R5.py.) -/
import Derived.Test.YtakjmdjjpalaiaaFnsR4
namespace Go.Proofs.Ytakjmdjjpalaiaa
open Go.RowKit

set_option maxRecDepth 20000 in
set_option maxHeartbeats 3200000 in
theorem drawSP (A : Option Addr) (n c : Nat) (w : World) (hn : n ≤ 1048576) (hnc : n ≤ c) (hcm : c ≤ maxLen) (hc : Code8 w A n) :
    Calls Try.prog 37 #[.slice A n c] w fun e w' => ∃ (r c : Int) (s : Value) (zs : List Int) (r2 c2 : Int) (s2 : Value) (ks : List Int) (k : Int), e = .returned (.tuple #[smV r c s r2 c2 s2, .int .i64 k]) ∧ Row w' w.heap.size w'.heap.size s zs ∧ Row w' w.heap.size w'.heap.size s2 ks ∧ zs.length ≤ 37 ∧ ks.length ≤ 37 ∧ -1 ≤ k ∧ k ≤ 6 ∧ Below w.heap.size w w' := by
  have q2 := Cell6.new (w) (.int .i64 0) (.int .i64 0) (.slice none 0 0) (.int .i64 0) (.int .i64 0) (.slice none 0 0) 43
  have hb : Below w.heap.size w (w.alloc (.cells #[.int .i64 0, .int .i64 0, .slice none 0 0, .int .i64 0, .int .i64 0, .slice none 0 0] 43)) := (Below.refl _ _).alloc (Nat.le_refl _) _
  have hsz : (w.alloc (.cells #[.int .i64 0, .int .i64 0, .slice none 0 0, .int .i64 0, .int .i64 0, .slice none 0 0] 43)).heap.size = w.heap.size + 1 := by simp
  obtain ⟨W0, hW⟩ : ∃ W, w.alloc (.cells #[.int .i64 0, .int .i64 0, .slice none 0 0, .int .i64 0, .int .i64 0, .slice none 0 0] 43) = W := ⟨_, rfl⟩
  rw [hW] at q2 hb hsz
  have K2_0 := Lib.hid q2
  have HB_0 := Lib.hid hb
  have hc0 := hc.below HB_0.out
  have hszl : w.heap.size + 1 ≤ W0.heap.size ∧ W0.heap.size ≤ w.heap.size + 1 := by omega
  clear hb q2 hc hsz
  go_enter Try.func37, Try.ntmps37
  obtain ⟨x20, x21, x22, x23, x24, x25, xf20, xf21, xf22, xf23, xf24, xf25, x2lt⟩ := K2_0.out
  go_wp2_with fail
  refine (open_any A n c W0 hn hnc hcm hc0).mono ?_
  rintro e W1 ⟨rfl, hR, hb⟩
  clear hc0
  clear x20 x21 x22 x23 x24 x25 xf20 xf21 xf22 xf23 xf24 xf25 x2lt
  have s1 := hb.size
  have K2_1 := Lib.hid (K2_0.out.below hb (show w.heap.size < W0.heap.size by omega))
  have HB_1 := Lib.hid (HB_0.out.trans (hb.mono (show w.heap.size ≤ W0.heap.size by omega)))
  clear K2_0 HB_0 hb hW
  have hRlt := hR.lt
  have HR_1 := Lib.hid hR
  clear hR
  obtain ⟨x20, x21, x22, x23, x24, x25, xf20, xf21, xf22, xf23, xf24, xf25, x2lt⟩ := K2_1.out
  go_wp2_with fail
  refine (l20Size_any W0.heap.size 0 9 W1 HR_1.out (by omega) (by omega) (by omega)).mono ?_
  rintro e W2 ⟨t1, t2, k, rfl, t1l, t1h, t2l, t2h, k0, k1, hg, hr⟩
  clear x20 x21 x22 x23 x24 x25 xf20 xf21 xf22 xf23 xf24 xf25 x2lt
  have s2 := hg.size
  have K2_2 := Lib.hid (K2_1.out.grown hg (by simp; omega))
  have HB_2 := Lib.hid (HB_1.out.grown hg (show w.heap.size ≤ W1.heap.size by omega) (fun g e => by cases e; omega))
  have HR_2 := Lib.hid hr
  clear K2_1 HB_1 HR_1 hg hr
  obtain ⟨x20, x21, x22, x23, x24, x25, xf20, xf21, xf22, xf23, xf24, xf25, x2lt⟩ := K2_2.out
  go_wp2_with fail
  refine (l20SM_any W0.heap.size (0 + 100) t1 t2 12 W2 HR_2.out (by omega) (by omega) (by omega) (by omega) (by omega) (by omega) (by omega)).mono ?_
  rintro e W3 ⟨r, cc, s1, zs, r2, c2, s2', ks, rfl, hra, hrb, zl, kl, hg, hr⟩
  obtain ⟨Aa, ca, rfl, _, _, _⟩ := hra.form
  obtain ⟨Ab, cb, rfl, _, _, _⟩ := hrb.form
  clear x20 x21 x22 x23 x24 x25 xf20 xf21 xf22 xf23 xf24 xf25 x2lt
  have s3 := hg.size
  have K2_3 := Lib.hid (K2_2.out.grown hg (by simp; omega))
  have HB_3 := Lib.hid (HB_2.out.grown hg (show w.heap.size ≤ W2.heap.size by omega) (fun g e => by cases e; omega))
  have HR_3 := Lib.hid hr
  clear K2_2 HB_2 HR_2 hg hr
  have Ra_3 := Lib.hid hra
  have Rb_3 := Lib.hid hrb
  clear hra hrb HR_3
  have K2_4 := Lib.hid ((((((K2_3.out.set0 (.int .i64 r)).set1 (.int .i64 cc)).set2 (.slice Aa zs.length ca)).set3 (.int .i64 r2)).set4 (.int .i64 c2)).set5 (.slice Ab ks.length cb))
  have Ra_4 := Lib.hid ((((((Ra_3.out.grown (set_grown _ (w.heap.size) 0 (.int .i64 r)) (fun g e => by cases e; omega)).grown (set_grown _ (w.heap.size) 1 (.int .i64 cc)) (fun g e => by cases e; omega)).grown (set_grown _ (w.heap.size) 2 (.slice Aa zs.length ca)) (fun g e => by cases e; omega)).grown (set_grown _ (w.heap.size) 3 (.int .i64 r2)) (fun g e => by cases e; omega)).grown (set_grown _ (w.heap.size) 4 (.int .i64 c2)) (fun g e => by cases e; omega)).grown (set_grown _ (w.heap.size) 5 (.slice Ab ks.length cb)) (fun g e => by cases e; omega))
  have Rb_4 := Lib.hid ((((((Rb_3.out.grown (set_grown _ (w.heap.size) 0 (.int .i64 r)) (fun g e => by cases e; omega)).grown (set_grown _ (w.heap.size) 1 (.int .i64 cc)) (fun g e => by cases e; omega)).grown (set_grown _ (w.heap.size) 2 (.slice Aa zs.length ca)) (fun g e => by cases e; omega)).grown (set_grown _ (w.heap.size) 3 (.int .i64 r2)) (fun g e => by cases e; omega)).grown (set_grown _ (w.heap.size) 4 (.int .i64 c2)) (fun g e => by cases e; omega)).grown (set_grown _ (w.heap.size) 5 (.slice Ab ks.length cb)) (fun g e => by cases e; omega))
  have HB_4 := Lib.hid ((((((HB_3.out.setCell (p := ⟨w.heap.size, 0, none⟩) (show w.heap.size ≤ w.heap.size by omega) (.int .i64 r)).setCell (p := ⟨w.heap.size, 1, none⟩) (show w.heap.size ≤ w.heap.size by omega) (.int .i64 cc)).setCell (p := ⟨w.heap.size, 2, none⟩) (show w.heap.size ≤ w.heap.size by omega) (.slice Aa zs.length ca)).setCell (p := ⟨w.heap.size, 3, none⟩) (show w.heap.size ≤ w.heap.size by omega) (.int .i64 r2)).setCell (p := ⟨w.heap.size, 4, none⟩) (show w.heap.size ≤ w.heap.size by omega) (.int .i64 c2)).setCell (p := ⟨w.heap.size, 5, none⟩) (show w.heap.size ≤ w.heap.size by omega) (.slice Ab ks.length cb))
  have z4 : ((((((W3.setCell ⟨w.heap.size, 0, none⟩ (.int .i64 r)).setCell ⟨w.heap.size, 1, none⟩ (.int .i64 cc)).setCell ⟨w.heap.size, 2, none⟩ (.slice Aa zs.length ca)).setCell ⟨w.heap.size, 3, none⟩ (.int .i64 r2)).setCell ⟨w.heap.size, 4, none⟩ (.int .i64 c2)).setCell ⟨w.heap.size, 5, none⟩ (.slice Ab ks.length cb)).heap.size = W3.heap.size := by simp
  obtain ⟨x20, x21, x22, x23, x24, x25, xf20, xf21, xf22, xf23, xf24, xf25, x2lt⟩ := K2_3.out
  go_wp2_with fail
  obtain ⟨W4, hW4⟩ : ∃ W, ((((((W3.setCell ⟨w.heap.size, 0, none⟩ (.int .i64 r)).setCell ⟨w.heap.size, 1, none⟩ (.int .i64 cc)).setCell ⟨w.heap.size, 2, none⟩ (.slice Aa zs.length ca)).setCell ⟨w.heap.size, 3, none⟩ (.int .i64 r2)).setCell ⟨w.heap.size, 4, none⟩ (.int .i64 c2)).setCell ⟨w.heap.size, 5, none⟩ (.slice Ab ks.length cb)) = W := ⟨_, rfl⟩
  rw [hW4] at K2_4 Ra_4 Rb_4 HB_4 z4 ⊢
  clear x20 x21 x22 x23 x24 x25 xf20 xf21 xf22 xf23 xf24 xf25 x2lt
  clear hW4 K2_3 Ra_3 Rb_3 HB_3
  obtain ⟨z0', z1', z2', z3', z4', z5', _, _, _, _, _, _, _⟩ := K2_4.out
  refine bodyPost_ret (v := .tuple #[.agg #[.int .i64 r, .int .i64 cc, .slice Aa zs.length ca, .int .i64 r2, .int .i64 c2, .slice Ab ks.length cb], .int .i64 k]) (by simp [results, Try.results37, go_sem, z0', z1', z2', z3', z4', z5']) rfl ?_
  exact ⟨r, cc, _, zs, r2, c2, _, ks, k, rfl, Ra_4.out.wider (by omega) (by omega), Rb_4.out.wider (by omega) (by omega), zl, kl, k0, k1, HB_4.out⟩
end Go.Proofs.Ytakjmdjjpalaiaa
