/- Contracts: drawn seeds and shared matrices. (Printed by gen_R4.py.) -/
import Derived.Test.YtilmglockldddaaFnsR3
import Derived.Test.YtilmglockldddaaDrawM2
import Derived.Lib.BufferOwn
namespace Go.Proofs.Ytilmglockldddaa
open Go.RowKit

set_option maxHeartbeats 800000 in
theorem l20Seed_any (R N : Nat) (n : Int) (w : World) (hR : Rd w R N) (hN : N ≤ 80000000) (n0 : 0 ≤ n) (n1 : n ≤ 1000) :
    Calls Try.prog 63 #[.pointer (some ⟨R, 0, none⟩), .int .i64 n] w fun e w' => ∃ z, e = .returned (.int .i64 z) ∧ (-1 ≤ z ∧ z ≤ 2147483647) ∧ (n = 0 → 1 ≤ z ∧ z ≤ 2147483646) ∧ w.grownBy w' (some R) ∧ Rd w' R (N + 100) := by
  go_enter Try.func63, Try.ntmps63
  go_wp2_with fail
  refine (odd_any R N n w hR (by omega) (by omega)).mono ?_
  rintro e w1 ⟨b, rfl, hb0, hR1, hg1⟩
  cases b with
  | true =>
    have hn0 : ¬ n = 0 := fun h => by have := hb0 (by omega); cases this
    go_upto_region 2 with fail
    refine draw_seq (R := R) (B0 := R) (N := N + 1) (E := fun _ _ => True) 1000000000000 1 20 [(41, pickG)] ⟨pick_sound _ 1 (by omega) (by omega), trivial⟩ [(0, Ty.rd)] [(12, Ty.int (-1) 2147483647)] (Nat.le_refl _) 5 (by kernel_rfl) (by omega) hR1 ⟨ok_rd _ _ _ _, trivial⟩ ?_
    intro w2 hg2 hR2
    simp only [List.take_succ_cons, List.take_zero, List.drop_succ_cons, List.drop_zero, Puts, Option.bind_some, envOf, List.find?, Nat.reduceBEq, Ty.int, if_true]
    intros
    rename_i y ylo yhi
    simp only [Act.put, List.setIfInBounds_toArray, List.set_cons_succ, List.set_cons_zero]
    go_wp2
    go_ret
    exact ⟨y, rfl, ⟨by omega, by omega⟩, fun h => absurd h hn0, gtrans hg1 hg2, hR2.more (by omega)⟩
  | false =>
    clear hb0
    go_upto_region 3 with fail
    refine draw_seq (R := R) (B0 := R) (N := N + 1) (E := fun _ _ => True) 1000000000000 1 20 [(41, pickG)] ⟨pick_sound _ 1 (by omega) (by omega), trivial⟩ [(0, Ty.rd)] [(24, Ty.int 1 2147483646)] (Nat.le_refl _) 12 (by kernel_rfl) (by omega) hR1 ⟨ok_rd _ _ _ _, trivial⟩ ?_
    intro w2 hg2 hR2
    simp only [List.take_succ_cons, List.take_zero, List.drop_succ_cons, List.drop_zero, Puts, Option.bind_some, envOf, List.find?, Nat.reduceBEq, Ty.int, if_true]
    intros
    rename_i y ylo yhi
    simp only [Act.put, List.setIfInBounds_toArray, List.set_cons_succ, List.set_cons_zero]
    go_wp2
    go_ret
    exact ⟨y, rfl, ⟨by omega, by omega⟩, fun _ => ⟨by omega, by omega⟩, gtrans hg1 hg2, hR2.more (by omega)⟩
set_option maxRecDepth 20000 in
set_option maxHeartbeats 3200000 in
theorem l20SM_any (R N rows columns : Nat) (n : Int) (w : World) (hR : Rd w R N) (hN : N ≤ 1000000) (hr1 : 1 ≤ rows) (hc1 : 1 ≤ columns) (hrw : rows ≤ 5) (hcl : columns ≤ 5) (n0 : 0 ≤ n) (n1 : n ≤ 1000) :
    Calls Try.prog 62 #[.pointer (some ⟨R, 0, none⟩), .int .i64 rows, .int .i64 columns, .int .i64 n] w fun e w' => ∃ (r c : Int) (s : Value) (zs : List Int) (r2 c2 : Int) (s2 : Value) (ks : List Int), e = .returned (smV r c s r2 c2 s2) ∧ Row w' w.heap.size w'.heap.size s zs ∧ Row w' w.heap.size w'.heap.size s2 ks ∧ zs.length ≤ 37 ∧ ks.length ≤ 37 ∧ w.grownBy w' (some R) ∧ Rd w' R (N + 200000) := by
  have hRlt := hR.lt
  have q8 := Cell6.new w (.int .i64 0) (.int .i64 0) (.slice none 0 0) (.int .i64 0) (.int .i64 0) (.slice none 0 0) 47
  have hgW := World.grownBy_alloc w (.cells #[.int .i64 0, .int .i64 0, .slice none 0 0, .int .i64 0, .int .i64 0, .slice none 0 0] 47) (some R)
  have hRW := hR.alloc (.cells #[.int .i64 0, .int .i64 0, .slice none 0 0, .int .i64 0, .int .i64 0, .slice none 0 0] 47)
  obtain ⟨W0, hW⟩ : ∃ W, w.alloc (.cells #[.int .i64 0, .int .i64 0, .slice none 0 0, .int .i64 0, .int .i64 0, .slice none 0 0] 47) = W := ⟨_, rfl⟩
  have hsz : W0.heap.size = w.heap.size + 1 := by rw [← hW]; simp
  rw [hW] at q8 hgW hRW
  have K8_0 := Lib.hid q8
  have HG_0 := Lib.hid hgW
  have HR_0 := Lib.hid hRW
  have hm5 : (rows : Int) % 5 = ((rows % 5 : Nat) : Int) := by simp
  have hm5' : Int.tmod (rows : Int) 5 = ((rows % 5 : Nat) : Int) := by rw [Int.tmod_eq_emod_of_nonneg (by omega)]; exact hm5
  have hq5 : rows % 5 < 5 := Nat.mod_lt _ (by omega)
  obtain ⟨q5, hq5e⟩ : ∃ q, rows % 5 = q := ⟨_, rfl⟩
  rw [hq5e] at hm5 hm5' hq5
  obtain ⟨t5, hs1⟩ : ∃ t5 : Nat, 1 + (q5 : Int) = (t5 : Int) := ⟨1 + q5, by simp⟩
  have hs1r : 1 ≤ t5 ∧ t5 ≤ 5 := by omega
  have HM5 := Lib.hid (And.intro hm5 (And.intro hm5' hs1))
  clear q8 hgW hRW hR hq5e hm5 hm5' hs1 hq5
  go_enter Try.func62, Try.ntmps62
  obtain ⟨x80, x81, x82, x83, x84, x85, xf80, xf81, xf82, xf83, xf84, xf85, x8lt⟩ := K8_0.out
  go_wp2_with fail
  refine (l20Matrix_any R (N) rows columns 0 W0 HR_0.out (by omega) (by omega) (by omega) (by omega) (by omega) (by omega) (by omega)).mono ?_
  rintro e W1 ⟨r, c, sv1, zs, rfl, hrow, hlm, _, _, _, _, hg, hr, hzm⟩
  obtain ⟨rfl, rfl, hzl, hzo⟩ := hzm rfl
  have HM := Lib.hid (show OkM (rows : Int) (columns : Int) zs from ⟨⟨by omega, by omega⟩, ⟨by omega, by omega⟩, by rw [hzl]; simp, hzo⟩)
  clear hzo hzl hzm
  obtain ⟨Am, cm, rfl, hcp1, hcp2, _⟩ := hrow.form
  have HCPm := Lib.hid (And.intro hcp1 hcp2)
  clear hcp1 hcp2
  clear x80 x81 x82 x83 x84 x85 xf80 xf81 xf82 xf83 xf84 xf85 x8lt
  have s1 := hg.size
  have K8_1 := Lib.hid (K8_0.out.grown hg (by simp; omega))
  have HG_1 := Lib.hid (gtrans HG_0.out hg)
  have HR_1 := Lib.hid hr
  clear K8_0 HG_0 HR_0 hg hr hW
  have Rm_1 := Lib.hid hrow
  clear hrow
  obtain ⟨x80, x81, x82, x83, x84, x85, xf80, xf81, xf82, xf83, xf84, xf85, x8lt⟩ := K8_1.out
  go_wp2_with fail
  refine (l20Seed_any R (N + 40000) 0 W1 HR_1.out (by omega) (by omega) (by omega)).mono ?_
  rintro e W2 ⟨sd, rfl, _, hsd, hg, hr⟩
  have hsd2 := hsd (by trivial)
  clear hsd
  clear x80 x81 x82 x83 x84 x85 xf80 xf81 xf82 xf83 xf84 xf85 x8lt
  have s2 := hg.size
  have K8_2 := Lib.hid (K8_1.out.grown hg (by simp; omega))
  have Rm_2 := Lib.hid (Rm_1.out.grown hg (fun g e => by cases e; omega))
  have HG_2 := Lib.hid (gtrans HG_1.out hg)
  have HR_2 := Lib.hid hr
  clear K8_1 Rm_1 HG_1 HR_1 hg hr
  have hlz := HM.out.len
  have hlr := rLs_len sd zs.length
  have hlp := pairZ_len subF zs (rLs sd zs.length)
  obtain ⟨x80, x81, x82, x83, x84, x85, xf80, xf81, xf82, xf83, xf84, xf85, x8lt⟩ := K8_2.out
  go_wp2_with fail
  refine (specSplit_yes rows columns sd Am cm _ W2.heap.size zs W2 (Rm_2.out.sl_now.more (show W1.heap.size ≤ W2.heap.size by omega)) (Nat.le_refl _) rfl HM.out hsd2).mono ?_
  rintro e W3 ⟨v1, v2, rfl, hrs, hb⟩
  obtain ⟨q, hq⟩ : ∃ q, rSd sd zs.length = q := ⟨_, rfl⟩
  obtain ⟨xs, hxs⟩ : ∃ xs, rLs sd zs.length = xs := ⟨_, rfl⟩
  rw [hxs] at hrs hlr hlp
  obtain ⟨ys, hys⟩ : ∃ ys, pairZ subF zs xs = ys := ⟨_, rfl⟩
  rw [hys] at hrs hlp
  have hxl : xs.length ≤ 25 ∧ ys.length ≤ 25 := by omega
  rw [hq]
  clear hq hxs hys hlr hlp
  obtain ⟨md, hmd1, hmd2, hra, hrb⟩ := hrs
  obtain ⟨Aa, ca, rfl, _, _, _⟩ := hra.form
  obtain ⟨Ab, cb, rfl, _, _, _⟩ := hrb.form
  have hra := hra.wider (Nat.le_refl _) hmd2
  have hrb := hrb.wider hmd1 (Nat.le_refl _)
  clear x80 x81 x82 x83 x84 x85 xf80 xf81 xf82 xf83 xf84 xf85 x8lt
  have s3 := hb.size
  have K8_3 := Lib.hid (K8_2.out.below hb (show w.heap.size < W2.heap.size by omega))
  have Rm_3 := Lib.hid (Rm_2.out.below hb (show W1.heap.size ≤ W2.heap.size by omega))
  have hgb := Lib.grownBy_below (World.grownBy.refl W2 none) hb
  have HG_3 := Lib.hid (grown_own HG_2.out hgb (fun g e => by cases e))
  have HR_3 := Lib.hid (HR_2.out.grown hgb (by simp) (fun b e => by cases e))
  clear K8_2 Rm_2 HG_2 HR_2 hgb hb
  have Ra_3 := Lib.hid hra
  have Rb_3 := Lib.hid hrb
  clear hra hrb hmd1 hmd2
  clear Rm_3
  have kn := Cell6.new W3 (.int .i64 (rows : Int)) (.int .i64 (columns : Int)) (.slice Aa xs.length ca) (.int .i64 (rows : Int)) (.int .i64 (columns : Int)) (.slice Ab ys.length cb) 47
  obtain ⟨W4, hW4⟩ : ∃ W, W3.alloc (.cells #[.int .i64 (rows : Int), .int .i64 (columns : Int), .slice Aa xs.length ca, .int .i64 (rows : Int), .int .i64 (columns : Int), .slice Ab ys.length cb] 47) = W := ⟨_, rfl⟩
  rw [hW4] at kn
  have z4 : W4.heap.size = W3.heap.size + 1 := by rw [← hW4]; simp
  have hal : Below W3.heap.size W3 W4 := hW4 ▸ (Below.refl _ _).alloc (Nat.le_refl _) _
  have s4 := hal.size
  have K8_4 := Lib.hid (K8_3.out.below hal (show w.heap.size < W3.heap.size by omega))
  have Ra_4 := Lib.hid (Ra_3.out.below hal (show W3.heap.size ≤ W3.heap.size by omega))
  have Rb_4 := Lib.hid (Rb_3.out.below hal (show W3.heap.size ≤ W3.heap.size by omega))
  have hgb := Lib.grownBy_below (World.grownBy.refl W3 none) hal
  have HG_4 := Lib.hid (grown_own HG_3.out hgb (fun g e => by cases e))
  have HR_4 := Lib.hid (HR_3.out.grown hgb (by simp) (fun b e => by cases e))
  clear K8_3 Ra_3 Rb_3 HG_3 HR_3 hgb hal
  have K9_4 := Lib.hid kn
  clear kn
  obtain ⟨x80, x81, x82, x83, x84, x85, xf80, xf81, xf82, xf83, xf84, xf85, x8lt⟩ := K8_4.out
  obtain ⟨x90, x91, x92, x93, x94, x95, xf90, xf91, xf92, xf93, xf94, xf95, x9lt⟩ := K9_4.out
  go_wp2_with fail
  refine (odd_any R (N + 40000 + 100) n W4 HR_4.out (by omega) (by omega)).mono ?_
  rintro e W5 ⟨ob, rfl, _, hr, hg⟩
  clear x80 x81 x82 x83 x84 x85 xf80 xf81 xf82 xf83 xf84 xf85 x8lt x90 x91 x92 x93 x94 x95 xf90 xf91 xf92 xf93 xf94 xf95 x9lt
  have s5 := hg.size
  have K8_5 := Lib.hid (K8_4.out.grown hg (by simp; omega))
  have K9_5 := Lib.hid (K9_4.out.grown hg (by simp; omega))
  have Ra_5 := Lib.hid (Ra_4.out.grown hg (fun g e => by cases e; omega))
  have Rb_5 := Lib.hid (Rb_4.out.grown hg (fun g e => by cases e; omega))
  have HG_5 := Lib.hid (gtrans HG_4.out hg)
  have HR_5 := Lib.hid hr
  clear K8_4 K9_4 Ra_4 Rb_4 HG_4 HR_4 hg hr
  cases ob with
  | false =>
    have K8_6 := Lib.hid ((((((K8_5.out.set0 (.int .i64 (rows : Int))).set1 (.int .i64 (columns : Int))).set2 (.slice Aa xs.length ca)).set3 (.int .i64 (rows : Int))).set4 (.int .i64 (columns : Int))).set5 (.slice Ab ys.length cb))
    have K9_6 := Lib.hid ((((((K9_5.out.far (a := ⟨w.heap.size, 0, none⟩) (show W3.heap.size ≠ w.heap.size by omega) (.int .i64 (rows : Int))).far (a := ⟨w.heap.size, 1, none⟩) (show W3.heap.size ≠ w.heap.size by omega) (.int .i64 (columns : Int))).far (a := ⟨w.heap.size, 2, none⟩) (show W3.heap.size ≠ w.heap.size by omega) (.slice Aa xs.length ca)).far (a := ⟨w.heap.size, 3, none⟩) (show W3.heap.size ≠ w.heap.size by omega) (.int .i64 (rows : Int))).far (a := ⟨w.heap.size, 4, none⟩) (show W3.heap.size ≠ w.heap.size by omega) (.int .i64 (columns : Int))).far (a := ⟨w.heap.size, 5, none⟩) (show W3.heap.size ≠ w.heap.size by omega) (.slice Ab ys.length cb))
    have Ra_6 := Lib.hid ((((((Ra_5.out.grown (set_grown _ (w.heap.size) 0 (.int .i64 (rows : Int))) (fun g e => by cases e; omega)).grown (set_grown _ (w.heap.size) 1 (.int .i64 (columns : Int))) (fun g e => by cases e; omega)).grown (set_grown _ (w.heap.size) 2 (.slice Aa xs.length ca)) (fun g e => by cases e; omega)).grown (set_grown _ (w.heap.size) 3 (.int .i64 (rows : Int))) (fun g e => by cases e; omega)).grown (set_grown _ (w.heap.size) 4 (.int .i64 (columns : Int))) (fun g e => by cases e; omega)).grown (set_grown _ (w.heap.size) 5 (.slice Ab ys.length cb)) (fun g e => by cases e; omega))
    have Rb_6 := Lib.hid ((((((Rb_5.out.grown (set_grown _ (w.heap.size) 0 (.int .i64 (rows : Int))) (fun g e => by cases e; omega)).grown (set_grown _ (w.heap.size) 1 (.int .i64 (columns : Int))) (fun g e => by cases e; omega)).grown (set_grown _ (w.heap.size) 2 (.slice Aa xs.length ca)) (fun g e => by cases e; omega)).grown (set_grown _ (w.heap.size) 3 (.int .i64 (rows : Int))) (fun g e => by cases e; omega)).grown (set_grown _ (w.heap.size) 4 (.int .i64 (columns : Int))) (fun g e => by cases e; omega)).grown (set_grown _ (w.heap.size) 5 (.slice Ab ys.length cb)) (fun g e => by cases e; omega))
    have HG_6 := Lib.hid (grown_own (grown_own (grown_own (grown_own (grown_own (grown_own HG_5.out (set_grown _ (w.heap.size) 0 (.int .i64 (rows : Int))) (fun g e => by cases e; omega)) (set_grown _ (w.heap.size) 1 (.int .i64 (columns : Int))) (fun g e => by cases e; omega)) (set_grown _ (w.heap.size) 2 (.slice Aa xs.length ca)) (fun g e => by cases e; omega)) (set_grown _ (w.heap.size) 3 (.int .i64 (rows : Int))) (fun g e => by cases e; omega)) (set_grown _ (w.heap.size) 4 (.int .i64 (columns : Int))) (fun g e => by cases e; omega)) (set_grown _ (w.heap.size) 5 (.slice Ab ys.length cb)) (fun g e => by cases e; omega))
    have HR_6 := Lib.hid ((((((HR_5.out.grown (set_grown _ (w.heap.size) 0 (.int .i64 (rows : Int))) (by simp; omega) (fun b e => by cases e; omega)).grown (set_grown _ (w.heap.size) 1 (.int .i64 (columns : Int))) (by simp; omega) (fun b e => by cases e; omega)).grown (set_grown _ (w.heap.size) 2 (.slice Aa xs.length ca)) (by simp; omega) (fun b e => by cases e; omega)).grown (set_grown _ (w.heap.size) 3 (.int .i64 (rows : Int))) (by simp; omega) (fun b e => by cases e; omega)).grown (set_grown _ (w.heap.size) 4 (.int .i64 (columns : Int))) (by simp; omega) (fun b e => by cases e; omega)).grown (set_grown _ (w.heap.size) 5 (.slice Ab ys.length cb)) (by simp; omega) (fun b e => by cases e; omega))
    have z6 : ((((((W5.setCell ⟨w.heap.size, 0, none⟩ (.int .i64 (rows : Int))).setCell ⟨w.heap.size, 1, none⟩ (.int .i64 (columns : Int))).setCell ⟨w.heap.size, 2, none⟩ (.slice Aa xs.length ca)).setCell ⟨w.heap.size, 3, none⟩ (.int .i64 (rows : Int))).setCell ⟨w.heap.size, 4, none⟩ (.int .i64 (columns : Int))).setCell ⟨w.heap.size, 5, none⟩ (.slice Ab ys.length cb)).heap.size = W5.heap.size := by simp
    obtain ⟨x80, x81, x82, x83, x84, x85, xf80, xf81, xf82, xf83, xf84, xf85, x8lt⟩ := K8_5.out
    obtain ⟨x90, x91, x92, x93, x94, x95, xf90, xf91, xf92, xf93, xf94, xf95, x9lt⟩ := K9_5.out
    go_wp2_with fail
    obtain ⟨W6, hW6⟩ : ∃ W, ((((((W5.setCell ⟨w.heap.size, 0, none⟩ (.int .i64 (rows : Int))).setCell ⟨w.heap.size, 1, none⟩ (.int .i64 (columns : Int))).setCell ⟨w.heap.size, 2, none⟩ (.slice Aa xs.length ca)).setCell ⟨w.heap.size, 3, none⟩ (.int .i64 (rows : Int))).setCell ⟨w.heap.size, 4, none⟩ (.int .i64 (columns : Int))).setCell ⟨w.heap.size, 5, none⟩ (.slice Ab ys.length cb)) = W := ⟨_, rfl⟩
    rw [hW6] at K8_6 K9_6 Ra_6 Rb_6 HG_6 HR_6 z6 ⊢
    clear x80 x81 x82 x83 x84 x85 xf80 xf81 xf82 xf83 xf84 xf85 x8lt x90 x91 x92 x93 x94 x95 xf90 xf91 xf92 xf93 xf94 xf95 x9lt
    clear hW6 K8_5 K9_5 Ra_5 Rb_5 HG_5 HR_5
    obtain ⟨z0', z1', z2', z3', z4', z5', _, _, _, _, _, _, _⟩ := K8_6.out
    refine bodyPost_ret (v := .agg #[.int .i64 (rows : Int), .int .i64 (columns : Int), .slice Aa xs.length ca, .int .i64 (rows : Int), .int .i64 (columns : Int), .slice Ab ys.length cb]) (by simp [results, Try.results62, go_sem, z0', z1', z2', z3', z4', z5']) rfl ?_
    exact ⟨_, _, _, xs, _, _, _, ys, rfl, Ra_6.out.wider (by omega) (by omega), Rb_6.out.wider (by omega) (by omega), by omega, by omega, HG_6.out, HR_6.out.more (by omega)⟩
  | true =>
    obtain ⟨x80, x81, x82, x83, x84, x85, xf80, xf81, xf82, xf83, xf84, xf85, x8lt⟩ := K8_5.out
    obtain ⟨x90, x91, x92, x93, x94, x95, xf90, xf91, xf92, xf93, xf94, xf95, x9lt⟩ := K9_5.out
    go_wp2_with fail
    refine (pick_pos R (N + 40000 + 100 + 1) 3 W5 HR_5.out (by omega) (by omega)).mono ?_
    rintro e W6 ⟨z, rfl, z0, z1, hr, hg⟩
    clear x80 x81 x82 x83 x84 x85 xf80 xf81 xf82 xf83 xf84 xf85 x8lt x90 x91 x92 x93 x94 x95 xf90 xf91 xf92 xf93 xf94 xf95 x9lt
    have s6 := hg.size
    have K8_6 := Lib.hid (K8_5.out.grown hg (by simp; omega))
    have K9_6 := Lib.hid (K9_5.out.grown hg (by simp; omega))
    have Ra_6 := Lib.hid (Ra_5.out.grown hg (fun g e => by cases e; omega))
    have Rb_6 := Lib.hid (Rb_5.out.grown hg (fun g e => by cases e; omega))
    have HG_6 := Lib.hid (gtrans HG_5.out hg)
    have HR_6 := Lib.hid hr
    clear K8_5 K9_5 Ra_5 Rb_5 HG_5 HR_5 hg hr
    obtain rfl | rfl | rfl := (show z = 0 ∨ z = 1 ∨ z = 2 by omega)
    · skip
      obtain ⟨x80, x81, x82, x83, x84, x85, xf80, xf81, xf82, xf83, xf84, xf85, x8lt⟩ := K8_6.out
      obtain ⟨x90, x91, x92, x93, x94, x95, xf90, xf91, xf92, xf93, xf94, xf95, x9lt⟩ := K9_6.out
      go_wp2_with fail
      refine (l20Matrix_any R (N + 40000 + 100 + 1 + 1) rows columns 1 W6 HR_6.out (by omega) (by omega) (by omega) (by omega) (by omega) (by omega) (by omega)).mono ?_
      rintro e W7 ⟨r3, c3, sv7, us, rfl, hrow, hln, _, _, _, _, hg, hr, hzn⟩
      clear hzn
      obtain ⟨An, cn, rfl, hcp1, hcp2, _⟩ := hrow.form
      have HCPn := Lib.hid (And.intro hcp1 hcp2)
      clear hcp1 hcp2
      clear x80 x81 x82 x83 x84 x85 xf80 xf81 xf82 xf83 xf84 xf85 x8lt x90 x91 x92 x93 x94 x95 xf90 xf91 xf92 xf93 xf94 xf95 x9lt
      have s7 := hg.size
      have K8_7 := Lib.hid (K8_6.out.grown hg (by simp; omega))
      have K9_7 := Lib.hid (K9_6.out.grown hg (by simp; omega))
      have Ra_7 := Lib.hid (Ra_6.out.grown hg (fun g e => by cases e; omega))
      have Rb_7 := Lib.hid (Rb_6.out.grown hg (fun g e => by cases e; omega))
      have HG_7 := Lib.hid (gtrans HG_6.out hg)
      have HR_7 := Lib.hid hr
      clear K8_6 K9_6 Ra_6 Rb_6 HG_6 HR_6 hg hr
      have Rn_7 := Lib.hid hrow
      clear hrow
      have K8_8 := Lib.hid (((K8_7.out.far (a := ⟨W3.heap.size, 0, none⟩) (show w.heap.size ≠ W3.heap.size by omega) (.int .i64 r3)).far (a := ⟨W3.heap.size, 1, none⟩) (show w.heap.size ≠ W3.heap.size by omega) (.int .i64 c3)).far (a := ⟨W3.heap.size, 2, none⟩) (show w.heap.size ≠ W3.heap.size by omega) (.slice An us.length cn))
      have K9_8 := Lib.hid (((K9_7.out.set0 (.int .i64 r3)).set1 (.int .i64 c3)).set2 (.slice An us.length cn))
      have Ra_8 := Lib.hid (((Ra_7.out.grown (set_grown _ (W3.heap.size) 0 (.int .i64 r3)) (fun g e => by cases e; omega)).grown (set_grown _ (W3.heap.size) 1 (.int .i64 c3)) (fun g e => by cases e; omega)).grown (set_grown _ (W3.heap.size) 2 (.slice An us.length cn)) (fun g e => by cases e; omega))
      have Rb_8 := Lib.hid (((Rb_7.out.grown (set_grown _ (W3.heap.size) 0 (.int .i64 r3)) (fun g e => by cases e; omega)).grown (set_grown _ (W3.heap.size) 1 (.int .i64 c3)) (fun g e => by cases e; omega)).grown (set_grown _ (W3.heap.size) 2 (.slice An us.length cn)) (fun g e => by cases e; omega))
      have Rn_8 := Lib.hid (((Rn_7.out.grown (set_grown _ (W3.heap.size) 0 (.int .i64 r3)) (fun g e => by cases e; omega)).grown (set_grown _ (W3.heap.size) 1 (.int .i64 c3)) (fun g e => by cases e; omega)).grown (set_grown _ (W3.heap.size) 2 (.slice An us.length cn)) (fun g e => by cases e; omega))
      have HG_8 := Lib.hid (grown_own (grown_own (grown_own HG_7.out (set_grown _ (W3.heap.size) 0 (.int .i64 r3)) (fun g e => by cases e; omega)) (set_grown _ (W3.heap.size) 1 (.int .i64 c3)) (fun g e => by cases e; omega)) (set_grown _ (W3.heap.size) 2 (.slice An us.length cn)) (fun g e => by cases e; omega))
      have HR_8 := Lib.hid (((HR_7.out.grown (set_grown _ (W3.heap.size) 0 (.int .i64 r3)) (by simp; omega) (fun b e => by cases e; omega)).grown (set_grown _ (W3.heap.size) 1 (.int .i64 c3)) (by simp; omega) (fun b e => by cases e; omega)).grown (set_grown _ (W3.heap.size) 2 (.slice An us.length cn)) (by simp; omega) (fun b e => by cases e; omega))
      have z8 : (((W7.setCell ⟨W3.heap.size, 0, none⟩ (.int .i64 r3)).setCell ⟨W3.heap.size, 1, none⟩ (.int .i64 c3)).setCell ⟨W3.heap.size, 2, none⟩ (.slice An us.length cn)).heap.size = W7.heap.size := by simp
      obtain ⟨x80, x81, x82, x83, x84, x85, xf80, xf81, xf82, xf83, xf84, xf85, x8lt⟩ := K8_7.out
      obtain ⟨x90, x91, x92, x93, x94, x95, xf90, xf91, xf92, xf93, xf94, xf95, x9lt⟩ := K9_7.out
      go_wp2_with fail
      obtain ⟨W8, hW8⟩ : ∃ W, (((W7.setCell ⟨W3.heap.size, 0, none⟩ (.int .i64 r3)).setCell ⟨W3.heap.size, 1, none⟩ (.int .i64 c3)).setCell ⟨W3.heap.size, 2, none⟩ (.slice An us.length cn)) = W := ⟨_, rfl⟩
      rw [hW8] at K8_8 K9_8 Ra_8 Rb_8 Rn_8 HG_8 HR_8 z8 ⊢
      clear x80 x81 x82 x83 x84 x85 xf80 xf81 xf82 xf83 xf84 xf85 x8lt x90 x91 x92 x93 x94 x95 xf90 xf91 xf92 xf93 xf94 xf95 x9lt
      clear hW8 K8_7 K9_7 Ra_7 Rb_7 Rn_7 HG_7 HR_7
      have K8_9 := Lib.hid ((((((K8_8.out.set0 (.int .i64 r3)).set1 (.int .i64 c3)).set2 (.slice An us.length cn)).set3 (.int .i64 (rows : Int))).set4 (.int .i64 (columns : Int))).set5 (.slice Ab ys.length cb))
      have K9_9 := Lib.hid ((((((K9_8.out.far (a := ⟨w.heap.size, 0, none⟩) (show W3.heap.size ≠ w.heap.size by omega) (.int .i64 r3)).far (a := ⟨w.heap.size, 1, none⟩) (show W3.heap.size ≠ w.heap.size by omega) (.int .i64 c3)).far (a := ⟨w.heap.size, 2, none⟩) (show W3.heap.size ≠ w.heap.size by omega) (.slice An us.length cn)).far (a := ⟨w.heap.size, 3, none⟩) (show W3.heap.size ≠ w.heap.size by omega) (.int .i64 (rows : Int))).far (a := ⟨w.heap.size, 4, none⟩) (show W3.heap.size ≠ w.heap.size by omega) (.int .i64 (columns : Int))).far (a := ⟨w.heap.size, 5, none⟩) (show W3.heap.size ≠ w.heap.size by omega) (.slice Ab ys.length cb))
      have Ra_9 := Lib.hid ((((((Ra_8.out.grown (set_grown _ (w.heap.size) 0 (.int .i64 r3)) (fun g e => by cases e; omega)).grown (set_grown _ (w.heap.size) 1 (.int .i64 c3)) (fun g e => by cases e; omega)).grown (set_grown _ (w.heap.size) 2 (.slice An us.length cn)) (fun g e => by cases e; omega)).grown (set_grown _ (w.heap.size) 3 (.int .i64 (rows : Int))) (fun g e => by cases e; omega)).grown (set_grown _ (w.heap.size) 4 (.int .i64 (columns : Int))) (fun g e => by cases e; omega)).grown (set_grown _ (w.heap.size) 5 (.slice Ab ys.length cb)) (fun g e => by cases e; omega))
      have Rb_9 := Lib.hid ((((((Rb_8.out.grown (set_grown _ (w.heap.size) 0 (.int .i64 r3)) (fun g e => by cases e; omega)).grown (set_grown _ (w.heap.size) 1 (.int .i64 c3)) (fun g e => by cases e; omega)).grown (set_grown _ (w.heap.size) 2 (.slice An us.length cn)) (fun g e => by cases e; omega)).grown (set_grown _ (w.heap.size) 3 (.int .i64 (rows : Int))) (fun g e => by cases e; omega)).grown (set_grown _ (w.heap.size) 4 (.int .i64 (columns : Int))) (fun g e => by cases e; omega)).grown (set_grown _ (w.heap.size) 5 (.slice Ab ys.length cb)) (fun g e => by cases e; omega))
      have Rn_9 := Lib.hid ((((((Rn_8.out.grown (set_grown _ (w.heap.size) 0 (.int .i64 r3)) (fun g e => by cases e; omega)).grown (set_grown _ (w.heap.size) 1 (.int .i64 c3)) (fun g e => by cases e; omega)).grown (set_grown _ (w.heap.size) 2 (.slice An us.length cn)) (fun g e => by cases e; omega)).grown (set_grown _ (w.heap.size) 3 (.int .i64 (rows : Int))) (fun g e => by cases e; omega)).grown (set_grown _ (w.heap.size) 4 (.int .i64 (columns : Int))) (fun g e => by cases e; omega)).grown (set_grown _ (w.heap.size) 5 (.slice Ab ys.length cb)) (fun g e => by cases e; omega))
      have HG_9 := Lib.hid (grown_own (grown_own (grown_own (grown_own (grown_own (grown_own HG_8.out (set_grown _ (w.heap.size) 0 (.int .i64 r3)) (fun g e => by cases e; omega)) (set_grown _ (w.heap.size) 1 (.int .i64 c3)) (fun g e => by cases e; omega)) (set_grown _ (w.heap.size) 2 (.slice An us.length cn)) (fun g e => by cases e; omega)) (set_grown _ (w.heap.size) 3 (.int .i64 (rows : Int))) (fun g e => by cases e; omega)) (set_grown _ (w.heap.size) 4 (.int .i64 (columns : Int))) (fun g e => by cases e; omega)) (set_grown _ (w.heap.size) 5 (.slice Ab ys.length cb)) (fun g e => by cases e; omega))
      have HR_9 := Lib.hid ((((((HR_8.out.grown (set_grown _ (w.heap.size) 0 (.int .i64 r3)) (by simp; omega) (fun b e => by cases e; omega)).grown (set_grown _ (w.heap.size) 1 (.int .i64 c3)) (by simp; omega) (fun b e => by cases e; omega)).grown (set_grown _ (w.heap.size) 2 (.slice An us.length cn)) (by simp; omega) (fun b e => by cases e; omega)).grown (set_grown _ (w.heap.size) 3 (.int .i64 (rows : Int))) (by simp; omega) (fun b e => by cases e; omega)).grown (set_grown _ (w.heap.size) 4 (.int .i64 (columns : Int))) (by simp; omega) (fun b e => by cases e; omega)).grown (set_grown _ (w.heap.size) 5 (.slice Ab ys.length cb)) (by simp; omega) (fun b e => by cases e; omega))
      have z9 : ((((((W8.setCell ⟨w.heap.size, 0, none⟩ (.int .i64 r3)).setCell ⟨w.heap.size, 1, none⟩ (.int .i64 c3)).setCell ⟨w.heap.size, 2, none⟩ (.slice An us.length cn)).setCell ⟨w.heap.size, 3, none⟩ (.int .i64 (rows : Int))).setCell ⟨w.heap.size, 4, none⟩ (.int .i64 (columns : Int))).setCell ⟨w.heap.size, 5, none⟩ (.slice Ab ys.length cb)).heap.size = W8.heap.size := by simp
      obtain ⟨x80, x81, x82, x83, x84, x85, xf80, xf81, xf82, xf83, xf84, xf85, x8lt⟩ := K8_8.out
      obtain ⟨x90, x91, x92, x93, x94, x95, xf90, xf91, xf92, xf93, xf94, xf95, x9lt⟩ := K9_8.out
      go_wp2_with fail
      obtain ⟨W9, hW9⟩ : ∃ W, ((((((W8.setCell ⟨w.heap.size, 0, none⟩ (.int .i64 r3)).setCell ⟨w.heap.size, 1, none⟩ (.int .i64 c3)).setCell ⟨w.heap.size, 2, none⟩ (.slice An us.length cn)).setCell ⟨w.heap.size, 3, none⟩ (.int .i64 (rows : Int))).setCell ⟨w.heap.size, 4, none⟩ (.int .i64 (columns : Int))).setCell ⟨w.heap.size, 5, none⟩ (.slice Ab ys.length cb)) = W := ⟨_, rfl⟩
      rw [hW9] at K8_9 K9_9 Ra_9 Rb_9 Rn_9 HG_9 HR_9 z9 ⊢
      clear x80 x81 x82 x83 x84 x85 xf80 xf81 xf82 xf83 xf84 xf85 x8lt x90 x91 x92 x93 x94 x95 xf90 xf91 xf92 xf93 xf94 xf95 x9lt
      clear hW9 K8_8 K9_8 Ra_8 Rb_8 Rn_8 HG_8 HR_8
      obtain ⟨z0', z1', z2', z3', z4', z5', _, _, _, _, _, _, _⟩ := K8_9.out
      refine bodyPost_ret (v := .agg #[.int .i64 r3, .int .i64 c3, .slice An us.length cn, .int .i64 (rows : Int), .int .i64 (columns : Int), .slice Ab ys.length cb]) (by simp [results, Try.results62, go_sem, z0', z1', z2', z3', z4', z5']) rfl ?_
      exact ⟨_, _, _, us, _, _, _, ys, rfl, Rn_9.out.wider (by omega) (by omega), Rb_9.out.wider (by omega) (by omega), by omega, by omega, HG_9.out, HR_9.out.more (by omega)⟩
    · obtain ⟨hm5, hm5', hs1⟩ := HM5.out
      obtain ⟨x80, x81, x82, x83, x84, x85, xf80, xf81, xf82, xf83, xf84, xf85, x8lt⟩ := K8_6.out
      obtain ⟨x90, x91, x92, x93, x94, x95, xf90, xf91, xf92, xf93, xf94, xf95, x9lt⟩ := K9_6.out
      go_wp2_with fail
      refine (l20Matrix_any R (N + 40000 + 100 + 1 + 1) t5 columns 0 W6 HR_6.out (by omega) (by omega) (by omega) (by omega) (by omega) (by omega) (by omega)).mono ?_
      rintro e W7 ⟨r3, c3, sv7, us, rfl, hrow, hln, _, _, _, _, hg, hr, hzn⟩
      clear hzn
      obtain ⟨An, cn, rfl, hcp1, hcp2, _⟩ := hrow.form
      have HCPn := Lib.hid (And.intro hcp1 hcp2)
      clear hcp1 hcp2
      clear x80 x81 x82 x83 x84 x85 xf80 xf81 xf82 xf83 xf84 xf85 x8lt x90 x91 x92 x93 x94 x95 xf90 xf91 xf92 xf93 xf94 xf95 x9lt
      have s7 := hg.size
      have K8_7 := Lib.hid (K8_6.out.grown hg (by simp; omega))
      have K9_7 := Lib.hid (K9_6.out.grown hg (by simp; omega))
      have Ra_7 := Lib.hid (Ra_6.out.grown hg (fun g e => by cases e; omega))
      have Rb_7 := Lib.hid (Rb_6.out.grown hg (fun g e => by cases e; omega))
      have HG_7 := Lib.hid (gtrans HG_6.out hg)
      have HR_7 := Lib.hid hr
      clear K8_6 K9_6 Ra_6 Rb_6 HG_6 HR_6 hg hr
      have Rn_7 := Lib.hid hrow
      clear hrow
      have K8_8 := Lib.hid (((K8_7.out.far (a := ⟨W3.heap.size, 3, none⟩) (show w.heap.size ≠ W3.heap.size by omega) (.int .i64 r3)).far (a := ⟨W3.heap.size, 4, none⟩) (show w.heap.size ≠ W3.heap.size by omega) (.int .i64 c3)).far (a := ⟨W3.heap.size, 5, none⟩) (show w.heap.size ≠ W3.heap.size by omega) (.slice An us.length cn))
      have K9_8 := Lib.hid (((K9_7.out.set3 (.int .i64 r3)).set4 (.int .i64 c3)).set5 (.slice An us.length cn))
      have Ra_8 := Lib.hid (((Ra_7.out.grown (set_grown _ (W3.heap.size) 3 (.int .i64 r3)) (fun g e => by cases e; omega)).grown (set_grown _ (W3.heap.size) 4 (.int .i64 c3)) (fun g e => by cases e; omega)).grown (set_grown _ (W3.heap.size) 5 (.slice An us.length cn)) (fun g e => by cases e; omega))
      have Rb_8 := Lib.hid (((Rb_7.out.grown (set_grown _ (W3.heap.size) 3 (.int .i64 r3)) (fun g e => by cases e; omega)).grown (set_grown _ (W3.heap.size) 4 (.int .i64 c3)) (fun g e => by cases e; omega)).grown (set_grown _ (W3.heap.size) 5 (.slice An us.length cn)) (fun g e => by cases e; omega))
      have Rn_8 := Lib.hid (((Rn_7.out.grown (set_grown _ (W3.heap.size) 3 (.int .i64 r3)) (fun g e => by cases e; omega)).grown (set_grown _ (W3.heap.size) 4 (.int .i64 c3)) (fun g e => by cases e; omega)).grown (set_grown _ (W3.heap.size) 5 (.slice An us.length cn)) (fun g e => by cases e; omega))
      have HG_8 := Lib.hid (grown_own (grown_own (grown_own HG_7.out (set_grown _ (W3.heap.size) 3 (.int .i64 r3)) (fun g e => by cases e; omega)) (set_grown _ (W3.heap.size) 4 (.int .i64 c3)) (fun g e => by cases e; omega)) (set_grown _ (W3.heap.size) 5 (.slice An us.length cn)) (fun g e => by cases e; omega))
      have HR_8 := Lib.hid (((HR_7.out.grown (set_grown _ (W3.heap.size) 3 (.int .i64 r3)) (by simp; omega) (fun b e => by cases e; omega)).grown (set_grown _ (W3.heap.size) 4 (.int .i64 c3)) (by simp; omega) (fun b e => by cases e; omega)).grown (set_grown _ (W3.heap.size) 5 (.slice An us.length cn)) (by simp; omega) (fun b e => by cases e; omega))
      have z8 : (((W7.setCell ⟨W3.heap.size, 3, none⟩ (.int .i64 r3)).setCell ⟨W3.heap.size, 4, none⟩ (.int .i64 c3)).setCell ⟨W3.heap.size, 5, none⟩ (.slice An us.length cn)).heap.size = W7.heap.size := by simp
      obtain ⟨x80, x81, x82, x83, x84, x85, xf80, xf81, xf82, xf83, xf84, xf85, x8lt⟩ := K8_7.out
      obtain ⟨x90, x91, x92, x93, x94, x95, xf90, xf91, xf92, xf93, xf94, xf95, x9lt⟩ := K9_7.out
      go_wp2_with fail
      obtain ⟨W8, hW8⟩ : ∃ W, (((W7.setCell ⟨W3.heap.size, 3, none⟩ (.int .i64 r3)).setCell ⟨W3.heap.size, 4, none⟩ (.int .i64 c3)).setCell ⟨W3.heap.size, 5, none⟩ (.slice An us.length cn)) = W := ⟨_, rfl⟩
      rw [hW8] at K8_8 K9_8 Ra_8 Rb_8 Rn_8 HG_8 HR_8 z8 ⊢
      clear x80 x81 x82 x83 x84 x85 xf80 xf81 xf82 xf83 xf84 xf85 x8lt x90 x91 x92 x93 x94 x95 xf90 xf91 xf92 xf93 xf94 xf95 x9lt
      clear hW8 K8_7 K9_7 Ra_7 Rb_7 Rn_7 HG_7 HR_7
      have K8_9 := Lib.hid ((((((K8_8.out.set0 (.int .i64 (rows : Int))).set1 (.int .i64 (columns : Int))).set2 (.slice Aa xs.length ca)).set3 (.int .i64 r3)).set4 (.int .i64 c3)).set5 (.slice An us.length cn))
      have K9_9 := Lib.hid ((((((K9_8.out.far (a := ⟨w.heap.size, 0, none⟩) (show W3.heap.size ≠ w.heap.size by omega) (.int .i64 (rows : Int))).far (a := ⟨w.heap.size, 1, none⟩) (show W3.heap.size ≠ w.heap.size by omega) (.int .i64 (columns : Int))).far (a := ⟨w.heap.size, 2, none⟩) (show W3.heap.size ≠ w.heap.size by omega) (.slice Aa xs.length ca)).far (a := ⟨w.heap.size, 3, none⟩) (show W3.heap.size ≠ w.heap.size by omega) (.int .i64 r3)).far (a := ⟨w.heap.size, 4, none⟩) (show W3.heap.size ≠ w.heap.size by omega) (.int .i64 c3)).far (a := ⟨w.heap.size, 5, none⟩) (show W3.heap.size ≠ w.heap.size by omega) (.slice An us.length cn))
      have Ra_9 := Lib.hid ((((((Ra_8.out.grown (set_grown _ (w.heap.size) 0 (.int .i64 (rows : Int))) (fun g e => by cases e; omega)).grown (set_grown _ (w.heap.size) 1 (.int .i64 (columns : Int))) (fun g e => by cases e; omega)).grown (set_grown _ (w.heap.size) 2 (.slice Aa xs.length ca)) (fun g e => by cases e; omega)).grown (set_grown _ (w.heap.size) 3 (.int .i64 r3)) (fun g e => by cases e; omega)).grown (set_grown _ (w.heap.size) 4 (.int .i64 c3)) (fun g e => by cases e; omega)).grown (set_grown _ (w.heap.size) 5 (.slice An us.length cn)) (fun g e => by cases e; omega))
      have Rb_9 := Lib.hid ((((((Rb_8.out.grown (set_grown _ (w.heap.size) 0 (.int .i64 (rows : Int))) (fun g e => by cases e; omega)).grown (set_grown _ (w.heap.size) 1 (.int .i64 (columns : Int))) (fun g e => by cases e; omega)).grown (set_grown _ (w.heap.size) 2 (.slice Aa xs.length ca)) (fun g e => by cases e; omega)).grown (set_grown _ (w.heap.size) 3 (.int .i64 r3)) (fun g e => by cases e; omega)).grown (set_grown _ (w.heap.size) 4 (.int .i64 c3)) (fun g e => by cases e; omega)).grown (set_grown _ (w.heap.size) 5 (.slice An us.length cn)) (fun g e => by cases e; omega))
      have Rn_9 := Lib.hid ((((((Rn_8.out.grown (set_grown _ (w.heap.size) 0 (.int .i64 (rows : Int))) (fun g e => by cases e; omega)).grown (set_grown _ (w.heap.size) 1 (.int .i64 (columns : Int))) (fun g e => by cases e; omega)).grown (set_grown _ (w.heap.size) 2 (.slice Aa xs.length ca)) (fun g e => by cases e; omega)).grown (set_grown _ (w.heap.size) 3 (.int .i64 r3)) (fun g e => by cases e; omega)).grown (set_grown _ (w.heap.size) 4 (.int .i64 c3)) (fun g e => by cases e; omega)).grown (set_grown _ (w.heap.size) 5 (.slice An us.length cn)) (fun g e => by cases e; omega))
      have HG_9 := Lib.hid (grown_own (grown_own (grown_own (grown_own (grown_own (grown_own HG_8.out (set_grown _ (w.heap.size) 0 (.int .i64 (rows : Int))) (fun g e => by cases e; omega)) (set_grown _ (w.heap.size) 1 (.int .i64 (columns : Int))) (fun g e => by cases e; omega)) (set_grown _ (w.heap.size) 2 (.slice Aa xs.length ca)) (fun g e => by cases e; omega)) (set_grown _ (w.heap.size) 3 (.int .i64 r3)) (fun g e => by cases e; omega)) (set_grown _ (w.heap.size) 4 (.int .i64 c3)) (fun g e => by cases e; omega)) (set_grown _ (w.heap.size) 5 (.slice An us.length cn)) (fun g e => by cases e; omega))
      have HR_9 := Lib.hid ((((((HR_8.out.grown (set_grown _ (w.heap.size) 0 (.int .i64 (rows : Int))) (by simp; omega) (fun b e => by cases e; omega)).grown (set_grown _ (w.heap.size) 1 (.int .i64 (columns : Int))) (by simp; omega) (fun b e => by cases e; omega)).grown (set_grown _ (w.heap.size) 2 (.slice Aa xs.length ca)) (by simp; omega) (fun b e => by cases e; omega)).grown (set_grown _ (w.heap.size) 3 (.int .i64 r3)) (by simp; omega) (fun b e => by cases e; omega)).grown (set_grown _ (w.heap.size) 4 (.int .i64 c3)) (by simp; omega) (fun b e => by cases e; omega)).grown (set_grown _ (w.heap.size) 5 (.slice An us.length cn)) (by simp; omega) (fun b e => by cases e; omega))
      have z9 : ((((((W8.setCell ⟨w.heap.size, 0, none⟩ (.int .i64 (rows : Int))).setCell ⟨w.heap.size, 1, none⟩ (.int .i64 (columns : Int))).setCell ⟨w.heap.size, 2, none⟩ (.slice Aa xs.length ca)).setCell ⟨w.heap.size, 3, none⟩ (.int .i64 r3)).setCell ⟨w.heap.size, 4, none⟩ (.int .i64 c3)).setCell ⟨w.heap.size, 5, none⟩ (.slice An us.length cn)).heap.size = W8.heap.size := by simp
      obtain ⟨x80, x81, x82, x83, x84, x85, xf80, xf81, xf82, xf83, xf84, xf85, x8lt⟩ := K8_8.out
      obtain ⟨x90, x91, x92, x93, x94, x95, xf90, xf91, xf92, xf93, xf94, xf95, x9lt⟩ := K9_8.out
      go_wp2_with fail
      obtain ⟨W9, hW9⟩ : ∃ W, ((((((W8.setCell ⟨w.heap.size, 0, none⟩ (.int .i64 (rows : Int))).setCell ⟨w.heap.size, 1, none⟩ (.int .i64 (columns : Int))).setCell ⟨w.heap.size, 2, none⟩ (.slice Aa xs.length ca)).setCell ⟨w.heap.size, 3, none⟩ (.int .i64 r3)).setCell ⟨w.heap.size, 4, none⟩ (.int .i64 c3)).setCell ⟨w.heap.size, 5, none⟩ (.slice An us.length cn)) = W := ⟨_, rfl⟩
      rw [hW9] at K8_9 K9_9 Ra_9 Rb_9 Rn_9 HG_9 HR_9 z9 ⊢
      clear x80 x81 x82 x83 x84 x85 xf80 xf81 xf82 xf83 xf84 xf85 x8lt x90 x91 x92 x93 x94 x95 xf90 xf91 xf92 xf93 xf94 xf95 x9lt
      clear hW9 K8_8 K9_8 Ra_8 Rb_8 Rn_8 HG_8 HR_8
      obtain ⟨z0', z1', z2', z3', z4', z5', _, _, _, _, _, _, _⟩ := K8_9.out
      refine bodyPost_ret (v := .agg #[.int .i64 (rows : Int), .int .i64 (columns : Int), .slice Aa xs.length ca, .int .i64 r3, .int .i64 c3, .slice An us.length cn]) (by simp [results, Try.results62, go_sem, z0', z1', z2', z3', z4', z5']) rfl ?_
      exact ⟨_, _, _, xs, _, _, _, us, rfl, Ra_9.out.wider (by omega) (by omega), Rn_9.out.wider (by omega) (by omega), by omega, by omega, HG_9.out, HR_9.out.more (by omega)⟩
    · skip
      have K8_7 := Lib.hid ((((((K8_6.out.far (a := ⟨W3.heap.size, 0, none⟩) (show w.heap.size ≠ W3.heap.size by omega) (.int .i64 0)).far (a := ⟨W3.heap.size, 1, none⟩) (show w.heap.size ≠ W3.heap.size by omega) (.int .i64 0)).far (a := ⟨W3.heap.size, 2, none⟩) (show w.heap.size ≠ W3.heap.size by omega) (.slice none 0 0)).far (a := ⟨W3.heap.size, 3, none⟩) (show w.heap.size ≠ W3.heap.size by omega) (.int .i64 0)).far (a := ⟨W3.heap.size, 4, none⟩) (show w.heap.size ≠ W3.heap.size by omega) (.int .i64 0)).far (a := ⟨W3.heap.size, 5, none⟩) (show w.heap.size ≠ W3.heap.size by omega) (.slice none 0 0))
      have K9_7 := Lib.hid ((((((K9_6.out.set0 (.int .i64 0)).set1 (.int .i64 0)).set2 (.slice none 0 0)).set3 (.int .i64 0)).set4 (.int .i64 0)).set5 (.slice none 0 0))
      have Ra_7 := Lib.hid ((((((Ra_6.out.grown (set_grown _ (W3.heap.size) 0 (.int .i64 0)) (fun g e => by cases e; omega)).grown (set_grown _ (W3.heap.size) 1 (.int .i64 0)) (fun g e => by cases e; omega)).grown (set_grown _ (W3.heap.size) 2 (.slice none 0 0)) (fun g e => by cases e; omega)).grown (set_grown _ (W3.heap.size) 3 (.int .i64 0)) (fun g e => by cases e; omega)).grown (set_grown _ (W3.heap.size) 4 (.int .i64 0)) (fun g e => by cases e; omega)).grown (set_grown _ (W3.heap.size) 5 (.slice none 0 0)) (fun g e => by cases e; omega))
      have Rb_7 := Lib.hid ((((((Rb_6.out.grown (set_grown _ (W3.heap.size) 0 (.int .i64 0)) (fun g e => by cases e; omega)).grown (set_grown _ (W3.heap.size) 1 (.int .i64 0)) (fun g e => by cases e; omega)).grown (set_grown _ (W3.heap.size) 2 (.slice none 0 0)) (fun g e => by cases e; omega)).grown (set_grown _ (W3.heap.size) 3 (.int .i64 0)) (fun g e => by cases e; omega)).grown (set_grown _ (W3.heap.size) 4 (.int .i64 0)) (fun g e => by cases e; omega)).grown (set_grown _ (W3.heap.size) 5 (.slice none 0 0)) (fun g e => by cases e; omega))
      have HG_7 := Lib.hid (grown_own (grown_own (grown_own (grown_own (grown_own (grown_own HG_6.out (set_grown _ (W3.heap.size) 0 (.int .i64 0)) (fun g e => by cases e; omega)) (set_grown _ (W3.heap.size) 1 (.int .i64 0)) (fun g e => by cases e; omega)) (set_grown _ (W3.heap.size) 2 (.slice none 0 0)) (fun g e => by cases e; omega)) (set_grown _ (W3.heap.size) 3 (.int .i64 0)) (fun g e => by cases e; omega)) (set_grown _ (W3.heap.size) 4 (.int .i64 0)) (fun g e => by cases e; omega)) (set_grown _ (W3.heap.size) 5 (.slice none 0 0)) (fun g e => by cases e; omega))
      have HR_7 := Lib.hid ((((((HR_6.out.grown (set_grown _ (W3.heap.size) 0 (.int .i64 0)) (by simp; omega) (fun b e => by cases e; omega)).grown (set_grown _ (W3.heap.size) 1 (.int .i64 0)) (by simp; omega) (fun b e => by cases e; omega)).grown (set_grown _ (W3.heap.size) 2 (.slice none 0 0)) (by simp; omega) (fun b e => by cases e; omega)).grown (set_grown _ (W3.heap.size) 3 (.int .i64 0)) (by simp; omega) (fun b e => by cases e; omega)).grown (set_grown _ (W3.heap.size) 4 (.int .i64 0)) (by simp; omega) (fun b e => by cases e; omega)).grown (set_grown _ (W3.heap.size) 5 (.slice none 0 0)) (by simp; omega) (fun b e => by cases e; omega))
      have z7 : ((((((W6.setCell ⟨W3.heap.size, 0, none⟩ (.int .i64 0)).setCell ⟨W3.heap.size, 1, none⟩ (.int .i64 0)).setCell ⟨W3.heap.size, 2, none⟩ (.slice none 0 0)).setCell ⟨W3.heap.size, 3, none⟩ (.int .i64 0)).setCell ⟨W3.heap.size, 4, none⟩ (.int .i64 0)).setCell ⟨W3.heap.size, 5, none⟩ (.slice none 0 0)).heap.size = W6.heap.size := by simp
      obtain ⟨x80, x81, x82, x83, x84, x85, xf80, xf81, xf82, xf83, xf84, xf85, x8lt⟩ := K8_6.out
      obtain ⟨x90, x91, x92, x93, x94, x95, xf90, xf91, xf92, xf93, xf94, xf95, x9lt⟩ := K9_6.out
      go_wp2_with fail
      obtain ⟨W7, hW7⟩ : ∃ W, ((((((W6.setCell ⟨W3.heap.size, 0, none⟩ (.int .i64 0)).setCell ⟨W3.heap.size, 1, none⟩ (.int .i64 0)).setCell ⟨W3.heap.size, 2, none⟩ (.slice none 0 0)).setCell ⟨W3.heap.size, 3, none⟩ (.int .i64 0)).setCell ⟨W3.heap.size, 4, none⟩ (.int .i64 0)).setCell ⟨W3.heap.size, 5, none⟩ (.slice none 0 0)) = W := ⟨_, rfl⟩
      rw [hW7] at K8_7 K9_7 Ra_7 Rb_7 HG_7 HR_7 z7 ⊢
      clear x80 x81 x82 x83 x84 x85 xf80 xf81 xf82 xf83 xf84 xf85 x8lt x90 x91 x92 x93 x94 x95 xf90 xf91 xf92 xf93 xf94 xf95 x9lt
      clear hW7 K8_6 K9_6 Ra_6 Rb_6 HG_6 HR_6
      have K8_8 := Lib.hid ((((((K8_7.out.set0 (.int .i64 0)).set1 (.int .i64 0)).set2 (.slice none 0 0)).set3 (.int .i64 0)).set4 (.int .i64 0)).set5 (.slice none 0 0))
      have K9_8 := Lib.hid ((((((K9_7.out.far (a := ⟨w.heap.size, 0, none⟩) (show W3.heap.size ≠ w.heap.size by omega) (.int .i64 0)).far (a := ⟨w.heap.size, 1, none⟩) (show W3.heap.size ≠ w.heap.size by omega) (.int .i64 0)).far (a := ⟨w.heap.size, 2, none⟩) (show W3.heap.size ≠ w.heap.size by omega) (.slice none 0 0)).far (a := ⟨w.heap.size, 3, none⟩) (show W3.heap.size ≠ w.heap.size by omega) (.int .i64 0)).far (a := ⟨w.heap.size, 4, none⟩) (show W3.heap.size ≠ w.heap.size by omega) (.int .i64 0)).far (a := ⟨w.heap.size, 5, none⟩) (show W3.heap.size ≠ w.heap.size by omega) (.slice none 0 0))
      have Ra_8 := Lib.hid ((((((Ra_7.out.grown (set_grown _ (w.heap.size) 0 (.int .i64 0)) (fun g e => by cases e; omega)).grown (set_grown _ (w.heap.size) 1 (.int .i64 0)) (fun g e => by cases e; omega)).grown (set_grown _ (w.heap.size) 2 (.slice none 0 0)) (fun g e => by cases e; omega)).grown (set_grown _ (w.heap.size) 3 (.int .i64 0)) (fun g e => by cases e; omega)).grown (set_grown _ (w.heap.size) 4 (.int .i64 0)) (fun g e => by cases e; omega)).grown (set_grown _ (w.heap.size) 5 (.slice none 0 0)) (fun g e => by cases e; omega))
      have Rb_8 := Lib.hid ((((((Rb_7.out.grown (set_grown _ (w.heap.size) 0 (.int .i64 0)) (fun g e => by cases e; omega)).grown (set_grown _ (w.heap.size) 1 (.int .i64 0)) (fun g e => by cases e; omega)).grown (set_grown _ (w.heap.size) 2 (.slice none 0 0)) (fun g e => by cases e; omega)).grown (set_grown _ (w.heap.size) 3 (.int .i64 0)) (fun g e => by cases e; omega)).grown (set_grown _ (w.heap.size) 4 (.int .i64 0)) (fun g e => by cases e; omega)).grown (set_grown _ (w.heap.size) 5 (.slice none 0 0)) (fun g e => by cases e; omega))
      have HG_8 := Lib.hid (grown_own (grown_own (grown_own (grown_own (grown_own (grown_own HG_7.out (set_grown _ (w.heap.size) 0 (.int .i64 0)) (fun g e => by cases e; omega)) (set_grown _ (w.heap.size) 1 (.int .i64 0)) (fun g e => by cases e; omega)) (set_grown _ (w.heap.size) 2 (.slice none 0 0)) (fun g e => by cases e; omega)) (set_grown _ (w.heap.size) 3 (.int .i64 0)) (fun g e => by cases e; omega)) (set_grown _ (w.heap.size) 4 (.int .i64 0)) (fun g e => by cases e; omega)) (set_grown _ (w.heap.size) 5 (.slice none 0 0)) (fun g e => by cases e; omega))
      have HR_8 := Lib.hid ((((((HR_7.out.grown (set_grown _ (w.heap.size) 0 (.int .i64 0)) (by simp; omega) (fun b e => by cases e; omega)).grown (set_grown _ (w.heap.size) 1 (.int .i64 0)) (by simp; omega) (fun b e => by cases e; omega)).grown (set_grown _ (w.heap.size) 2 (.slice none 0 0)) (by simp; omega) (fun b e => by cases e; omega)).grown (set_grown _ (w.heap.size) 3 (.int .i64 0)) (by simp; omega) (fun b e => by cases e; omega)).grown (set_grown _ (w.heap.size) 4 (.int .i64 0)) (by simp; omega) (fun b e => by cases e; omega)).grown (set_grown _ (w.heap.size) 5 (.slice none 0 0)) (by simp; omega) (fun b e => by cases e; omega))
      have z8 : ((((((W7.setCell ⟨w.heap.size, 0, none⟩ (.int .i64 0)).setCell ⟨w.heap.size, 1, none⟩ (.int .i64 0)).setCell ⟨w.heap.size, 2, none⟩ (.slice none 0 0)).setCell ⟨w.heap.size, 3, none⟩ (.int .i64 0)).setCell ⟨w.heap.size, 4, none⟩ (.int .i64 0)).setCell ⟨w.heap.size, 5, none⟩ (.slice none 0 0)).heap.size = W7.heap.size := by simp
      obtain ⟨x80, x81, x82, x83, x84, x85, xf80, xf81, xf82, xf83, xf84, xf85, x8lt⟩ := K8_7.out
      obtain ⟨x90, x91, x92, x93, x94, x95, xf90, xf91, xf92, xf93, xf94, xf95, x9lt⟩ := K9_7.out
      go_wp2_with fail
      obtain ⟨W8, hW8⟩ : ∃ W, ((((((W7.setCell ⟨w.heap.size, 0, none⟩ (.int .i64 0)).setCell ⟨w.heap.size, 1, none⟩ (.int .i64 0)).setCell ⟨w.heap.size, 2, none⟩ (.slice none 0 0)).setCell ⟨w.heap.size, 3, none⟩ (.int .i64 0)).setCell ⟨w.heap.size, 4, none⟩ (.int .i64 0)).setCell ⟨w.heap.size, 5, none⟩ (.slice none 0 0)) = W := ⟨_, rfl⟩
      rw [hW8] at K8_8 K9_8 Ra_8 Rb_8 HG_8 HR_8 z8 ⊢
      clear x80 x81 x82 x83 x84 x85 xf80 xf81 xf82 xf83 xf84 xf85 x8lt x90 x91 x92 x93 x94 x95 xf90 xf91 xf92 xf93 xf94 xf95 x9lt
      clear hW8 K8_7 K9_7 Ra_7 Rb_7 HG_7 HR_7
      obtain ⟨z0', z1', z2', z3', z4', z5', _, _, _, _, _, _, _⟩ := K8_8.out
      refine bodyPost_ret (v := .agg #[.int .i64 0, .int .i64 0, .slice none 0 0, .int .i64 0, .int .i64 0, .slice none 0 0]) (by simp [results, Try.results62, go_sem, z0', z1', z2', z3', z4', z5']) rfl ?_
      exact ⟨_, _, _, [], _, _, _, [], rfl, Row.nil_ _ _ _, Row.nil_ _ _ _, by simp, by simp, HG_8.out, HR_8.out.more (by omega)⟩
end Go.Proofs.Ytilmglockldddaa
