/- Contracts of the drawing functions of cells. -/
import Derived.Test.YtdebnbgjnmoleaaDrawM2
import Derived.Test.YtdebnbgjnmoleaaFnsH2
namespace Go.Proofs.Ytdebnbgjnmoleaa
open Go.RowKit

theorem below_grown {w w' : World} (h : Below w.heap.size w w') (row : Option Nat) : w.grownBy w' row :=
  ⟨h.os, h.tape, h.output, h.size, fun k hk _ => h.block k hk⟩
theorem few_end {w X : World} {R M lo : Nat} {r c : Value} {s : Value} {zs : List Int} (hR : R < w.heap.size) (K0 : Cell3 X w.heap.size (.int .i64 0) (.int .i64 0) (.slice none 0 0)) (hlo : w.heap.size < lo) (row : Row X lo X.heap.size s zs) (hg : w.grownBy X (some R)) (hr : Rd X R M) :
    Cell3 (((X.setCell ⟨w.heap.size, 0, none⟩ r).setCell ⟨w.heap.size, 1, none⟩ c).setCell ⟨w.heap.size, 2, none⟩ s) w.heap.size r c s ∧
    Row (((X.setCell ⟨w.heap.size, 0, none⟩ r).setCell ⟨w.heap.size, 1, none⟩ c).setCell ⟨w.heap.size, 2, none⟩ s) w.heap.size (((X.setCell ⟨w.heap.size, 0, none⟩ r).setCell ⟨w.heap.size, 1, none⟩ c).setCell ⟨w.heap.size, 2, none⟩ s).heap.size s zs ∧
    w.grownBy (((X.setCell ⟨w.heap.size, 0, none⟩ r).setCell ⟨w.heap.size, 1, none⟩ c).setCell ⟨w.heap.size, 2, none⟩ s) (some R) ∧
    Rd (((X.setCell ⟨w.heap.size, 0, none⟩ r).setCell ⟨w.heap.size, 1, none⟩ c).setCell ⟨w.heap.size, 2, none⟩ s) R M := by
  refine ⟨((K0.set0 r).set1 c).set2 s, ?_, ?_, ?_⟩
  · exact (((row.grown (set_grown X w.heap.size 0 r) (fun g e => by cases e; left; omega)).grown (set_grown _ w.heap.size 1 c) (fun g e => by cases e; left; omega)).grown (set_grown _ w.heap.size 2 s) (fun g e => by cases e; left; omega)).wider (by omega) (by simp)
  · exact grown_own (grown_own (grown_own hg (set_grown X w.heap.size 0 r) (fun g e => by cases e; omega)) (set_grown _ w.heap.size 1 c) (fun g e => by cases e; omega)) (set_grown _ w.heap.size 2 s) (fun g e => by cases e; omega)
  · exact ((hr.grown (set_grown X w.heap.size 0 r) (by simp; omega) (fun b e => by cases e; omega)).grown (set_grown _ w.heap.size 1 c) (by simp; omega) (fun b e => by cases e; omega)).grown (set_grown _ w.heap.size 2 s) (by simp; omega) (fun b e => by cases e; omega)
set_option maxRecDepth 20000 in
set_option maxHeartbeats 3200000 in
theorem l20Few_any (R N rows columns : Nat) (n : Int) (w : World) (hR : Rd w R N) (hN : N ≤ 70000000) (hr1 : 1 ≤ rows) (hc1 : 1 ≤ columns) (hrw : rows ≤ 6) (hcl : columns ≤ 6) (n0 : 0 ≤ n) (n1 : n ≤ 1000) :
    Calls Try.prog 46 #[.pointer (some ⟨R, 0, none⟩), .int .i64 rows, .int .i64 columns, .int .i64 n] w fun e w' => ∃ (r c : Int) (s : Value) (zs : List Int), e = .returned (matV r c s) ∧ Row w' w.heap.size w'.heap.size s zs ∧ zs.length ≤ 37 ∧ -1 ≤ r ∧ r ≤ 6 ∧ 0 ≤ c ∧ c ≤ 7 ∧ w.grownBy w' (some R) ∧ Rd w' R (N + 50000) := by
  have hRlt := hR.lt
  have k0 := Cell3.new w (.int .i64 0) (.int .i64 0) (.slice none 0 0) 28
  have hg0 := World.grownBy_alloc w (.cells #[.int .i64 0, .int .i64 0, .slice none 0 0] 28) (some R)
  have hRa := hR.alloc (.cells #[.int .i64 0, .int .i64 0, .slice none 0 0] 28)
  obtain ⟨W, hW⟩ : ∃ W, w.alloc (.cells #[.int .i64 0, .int .i64 0, .slice none 0 0] 28) = W := ⟨_, rfl⟩
  have hsW : W.heap.size = w.heap.size + 1 := by rw [← hW]; simp
  rw [hW] at k0 hg0 hRa
  have K0 := Lib.hid k0
  have HG0 := Lib.hid hg0
  clear hR k0 hg0
  go_enter Try.func46, Try.ntmps46
  go_wp2_with fail
  refine (l20Matrix_any R N rows columns n W hRa (by omega) hr1 hc1 hrw hcl n0 n1).mono ?_
  rintro e w1 ⟨r, cc, s, zs, rfl, hrow, zl, r0, r1, c0, c1, hg1, hR1, _⟩
  obtain ⟨A4, c4, rfl, hz1, hz2, _⟩ := hrow.form
  have hs1 := hg1.size
  have k5 := Cell3.new w1 (.int .i64 r) (.int .i64 cc) (.slice A4 zs.length c4) 28
  have hal := World.grownBy_alloc w1 (.cells #[.int .i64 r, .int .i64 cc, .slice A4 zs.length c4] 28) none
  have K1 := (K0.out.grown hg1 (by simp; omega)).alloc (.cells #[.int .i64 r, .int .i64 cc, .slice A4 zs.length c4] 28)
  have hg2 := gtrans (gtrans HG0.out hg1) (World.grownBy_alloc w1 (.cells #[.int .i64 r, .int .i64 cc, .slice A4 zs.length c4] 28) (some R))
  have hrow2 := hrow.grown hal (fun g e => by cases e)
  have hR2 := hR1.alloc (.cells #[.int .i64 r, .int .i64 cc, .slice A4 zs.length c4] 28)
  obtain ⟨V, hV⟩ : ∃ V, w1.alloc (.cells #[.int .i64 r, .int .i64 cc, .slice A4 zs.length c4] 28) = V := ⟨_, rfl⟩
  have hsV : V.heap.size = w1.heap.size + 1 := by rw [← hV]; simp
  rw [hV] at k5 K1 hg2 hrow2 hR2
  have KV := Lib.hid k5
  have KV0 := Lib.hid K1
  have HGV := Lib.hid hg2
  have HRV := Lib.hid hrow2
  have HRd := Lib.hid hR2
  clear hrow hg1 hR1 k5 K1 hg2 hrow2 hR2 hal K0 HG0 hRa hW
  have hord := Lib.hid (And.intro hsW (And.intro hs1 hsV))
  have hlo : w.heap.size + 1 ≤ w1.heap.size := by omega
  clear hsW
  obtain ⟨b0, b1, b2, g0, g1, g2, blt⟩ := KV.out
  go_wp2
  clear b0 b1 b2 g0 g1 g2 blt
  go_loopw [10] (fun i wr => ∃ (k : Nat) (ys : List Int), k ≤ zs.length ∧ i = .int .i64 k ∧ ys.length = zs.length ∧ Cell3 wr w.heap.size (.int .i64 0) (.int .i64 0) (.slice none 0 0) ∧ Cell3 wr w1.heap.size (.int .i64 r) (.int .i64 cc) (.slice A4 zs.length c4) ∧ Row wr W.heap.size w1.heap.size (.slice A4 zs.length c4) ys ∧ w.grownBy wr (some R) ∧ Rd wr R (N + 40000 + k) ∧ V.heap.size ≤ wr.heap.size) (fun i _ => zs.length - (intOf i).toNat)
  case atStart => exact ⟨0, zs, Nat.zero_le _, rfl, rfl, KV0.out, KV.out, HRV.out, HGV.out, HRd.out, Nat.le_refl _⟩
  case round =>
    clear KV KV0 HGV HRV HRd
    obtain ⟨k, ys, hk, rfl, hyl, h0, h1, hrow, hgr, hRr, hsz⟩ := hrel
    have hsW := hord.out.1
    by_cases hlt : k < zs.length
    · have hki : (k : Int) < (zs.length : Int) := by omega
      obtain ⟨b0, b1, b2, g0, g1, g2, blt⟩ := h1
      go_wp2_with fail
      refine (pick_pos R (N + 40000 + k) 2 wr hRr (by omega) (by omega)).mono ?_
      rintro e w2 ⟨z, rfl, z0, z1, hR2, hg2⟩
      have h1 : Cell3 wr w1.heap.size (.int .i64 r) (.int .i64 cc) (.slice A4 zs.length c4) := ⟨b0, b1, b2, g0, g1, g2, blt⟩
      have K1 := Lib.hid (h1.grown hg2 (by simp; omega))
      have K0 := Lib.hid (h0.grown hg2 (by simp; omega))
      have KR := hrow.grown hg2 (fun g' e => by cases e; left; omega)
      have KG := gtrans hgr hg2
      have hs2 := hg2.size
      clear b0 b1 b2 g0 g1 g2 blt h0 h1 hrow hgr hRr hg2
      obtain ⟨b0, b1, b2, g0, g1, g2, blt⟩ := K1.out
      by_cases ez : z = 0
      · subst ez
        obtain ⟨g, rfl, hgl, hgh, hc, hf⟩ := KR.cell_ (j := k) (by omega)
        obtain ⟨x, hx⟩ : ∃ x, ys.getD k 0 = x := ⟨_, rfl⟩
        rw [hx] at hc
        have S := KR.stored k 0
        rw [← hyl] at S
        have SR := Lib.hid S.1
        have S0 := Lib.hid (K0.out.grown S.2 (by simp; omega))
        have S1 := Lib.hid (K1.out.grown S.2 (by simp; omega))
        have SG := Lib.hid (grown_own KG S.2 (fun g e => by cases e; omega))
        have SRd := Lib.hid (hR2.grown S.2 (by simp; omega) (fun b e => by cases e; omega))
        have HY := Lib.hid hyl
        clear S hx KR KG
        go_wp2
        go_roundw
        case rel => exact ⟨k + 1, ys.set k 0, by omega, by go_num, by rw [List.length_set]; exact HY.out, S0.out, S1.out, by have := SR.out; rw [HY.out] at this; exact this, SG.out, SRd.out.more (by omega), by simp; omega⟩
        case measure => simp [intOf]; omega
      · have hez : (z == 0) = false := by simpa using ez
        have HKR := Lib.hid KR
        have HKG := Lib.hid KG
        clear KR KG ez
        go_wp2
        go_roundw
        case rel => exact ⟨k + 1, ys, by omega, by go_num, hyl, K0.out, K1.out, HKR.out, HKG.out, hR2.more (by omega), by omega⟩
        case measure => simp [intOf]; omega
    · have hke : k = zs.length := by omega
      subst hke
      have HE := Lib.hid (few_end (r := .int .i64 r) (c := .int .i64 cc) hRlt h0 (show w.heap.size < W.heap.size by omega) (hrow.wider (Nat.le_refl _) (show w1.heap.size ≤ wr.heap.size by have := hord.out; omega)) hgr hRr)
      obtain ⟨b0, b1, b2, g0, g1, g2, blt⟩ := h1
      obtain ⟨d0, d1, d2, e0, e1, e2, dlt⟩ := h0
      clear hrow hgr hRr
      go_wp2
      obtain ⟨⟨z0, z1, z2, _, _, _, _⟩, e1, e2, e3⟩ := HE.out
      refine bodyPost_ret (v := matV r cc (.slice A4 zs.length c4)) (by simp [results, Try.results46, go_sem, z0, z1, z2]) rfl ?_
      exact ⟨r, cc, _, ys, rfl, e1, by omega, r0, r1, c0, c1, e2, e3.more (by omega)⟩
set_option maxRecDepth 20000 in
set_option maxHeartbeats 1600000 in
theorem drawCells (A : Option Addr) (n c : Nat) (w : World) (hn : n ≤ 1048576) (hnc : n ≤ c) (hcm : c ≤ maxLen) (hc : Code8 w A n) :
    Calls Try.prog 20 #[.slice A n c] w fun e w' => ∃ (r c : Int) (s : Value) (zs : List Int), e = .returned (matV r c s) ∧ Row w' w.heap.size w'.heap.size s zs ∧ zs.length ≤ 37 ∧ -1 ≤ r ∧ r ≤ 6 ∧ 0 ≤ c ∧ c ≤ 7 ∧ Below w.heap.size w w' := by
  have k0 := Cell3.new w (.int .i64 0) (.int .i64 0) (.slice none 0 0) 28
  have hb0 := (Below.refl w.heap.size w).alloc (Nat.le_refl _) (.cells #[.int .i64 0, .int .i64 0, .slice none 0 0] 28)
  have hc0 : Code8 (w.alloc (.cells #[.int .i64 0, .int .i64 0, .slice none 0 0] 28)) A n := hc.below hb0
  obtain ⟨W, hW⟩ : ∃ W, w.alloc (.cells #[.int .i64 0, .int .i64 0, .slice none 0 0] 28) = W := ⟨_, rfl⟩
  rw [hW] at k0 hb0 hc0
  have HSW := Lib.hid (show W.heap.size = w.heap.size + 1 by rw [← hW]; simp)
  have K0 := Lib.hid k0
  have HB0 := Lib.hid hb0
  clear k0 hb0 hc
  go_enter Try.func20, Try.ntmps20
  go_wp2_with fail
  refine (open_any A n c W hn hnc hcm hc0).mono ?_
  rintro e w1 ⟨rfl, hR, hb⟩
  have hsW := HSW.out
  have K1 := Lib.hid (K0.out.below hb (by omega))
  have B1 := Lib.hid (HB0.out.trans (hb.mono (by omega)))
  clear hc0 K0 HB0 hb hsW hW
  go_wp2_with fail
  refine (l20Side_any W.heap.size 0 w1 hR (by omega)).mono ?_
  rintro e w2 ⟨s1, rfl, s1l, s1h, hg2, hR2⟩
  go_wp2_with fail
  refine (l20Side_any W.heap.size (0 + 20) w2 hR2 (by omega)).mono ?_
  rintro e w3 ⟨s2, rfl, s2l, s2h, hg3, hR3⟩
  go_wp2_with fail
  refine (l20Few_any W.heap.size (0 + 20 + 20) s1 s2 9 w3 hR3 (by omega) (by omega) (by omega) (by omega) (by omega) (by omega) (by omega)).mono ?_
  rintro e w4 ⟨r, cc, s, zs, rfl, hrow, zl, r0, r1, c0, c1, hg4, hR4⟩
  obtain ⟨A4, c4, rfl, hz1, hz2, _⟩ := hrow.form
  have hsW := HSW.out
  have hlt1 := hR.lt
  have h31 := (gtrans hg2 hg3).size
  have hg14 : w1.grownBy w4 (some W.heap.size) := gtrans (gtrans hg2 hg3) hg4
  have K4 := K1.out.grown hg14 (by simp; omega)
  have B4 := B1.out.grown hg14 B1.out.size (fun g e => by cases e; omega)
  have HE := Lib.hid (mat_ret (r := .int .i64 r) (c := .int .i64 cc) (Nat.le_refl _) K4 (lo := w3.heap.size) hrow (by omega) B4)
  obtain ⟨d0, d1, d2, e0, e1, e2, dlt⟩ := K4
  have hlo := Lib.hid (show w.heap.size ≤ w3.heap.size by omega)
  clear hR hR2 hR3 hR4 hg2 hg3 hg4 hg14 hrow B4 K1 B1 h31 hlt1
  go_wp2
  obtain ⟨⟨z0, z1, z2, _, _, _, _⟩, e1, e2⟩ := HE.out
  refine bodyPost_ret (v := matV r cc (.slice A4 zs.length c4)) (by simp [results, Try.results20, go_sem, z0, z1, z2]) rfl ?_
  exact ⟨r, cc, _, zs, rfl, e1.wider hlo.out (Nat.le_refl _), zl, r0, r1, c0, c1, e2⟩
theorem RowC.app {w : World} {lo hi : Nat} {v : Value} {ts : List Tri} {p q z : Int} (h : RowC w lo hi v (ts.length + 1) (fl ts ++ [p, q, z])) : RowC w lo hi v (ts ++ [(p, q, z)]).length (fl (ts ++ [(p, q, z)])) := by
  rw [fl_app, List.length_append]
  exact h
set_option maxRecDepth 20000 in
set_option maxHeartbeats 3200000 in
theorem l20Cells_any (R N : Nat) (n : Int) (w : World) (hR : Rd w R N) (hN : N ≤ 60000000) (n0 : 0 ≤ n) (n1 : n ≤ 1000) :
    Calls Try.prog 58 #[.pointer (some ⟨R, 0, none⟩), .int .i64 n] w fun e w' => ∃ (r c : Int) (s : Value) (ts : List Tri), e = .returned (.tuple #[.int .i64 r, .int .i64 c, s]) ∧ RowC w' w.heap.size w'.heap.size s ts.length (fl ts) ∧ ts.length ≤ 38 ∧ 1 ≤ r ∧ r ≤ 5 ∧ 0 ≤ c ∧ c ≤ 6 ∧ w.grownBy w' (some R) ∧ Rd w' R (N + 60000) := by
  have hRlt := hR.lt
  go_enter Try.func58, Try.ntmps58
  go_wp2_with fail
  refine (l20Side_any R N w hR (by omega)).mono ?_
  rintro e w1 ⟨s1, rfl, s1l, s1h, hg1, hR1⟩
  go_wp2_with fail
  refine (l20Side_any R (N + 20) w1 hR1 (by omega)).mono ?_
  rintro e w2 ⟨s2, rfl, s2l, s2h, hg2, hR2⟩
  go_wp2_with fail
  refine (l20Few_any R (N + 20 + 20) s1 s2 0 w2 hR2 (by omega) (by omega) (by omega) (by omega) (by omega) (by omega) (by omega)).mono ?_
  rintro e w3 ⟨r, cc, s, zs, rfl, hrow, zl, r0, r1, c0, c1, hg3, hR3⟩
  obtain ⟨A4, c4, rfl, hz1, hz2, _⟩ := hrow.form
  have hg03 := Lib.hid (gtrans (gtrans hg1 hg2) hg3)
  have hSl := hrow.sl_of.2
  clear hg1 hg2 hg3 hR hR1 hR2 hrow
  go_wp2_with fail
  refine (specCells_any r cc A4 c4 _ w3.heap.size zs w3 hSl (Nat.le_refl _) rfl (by omega)).mono ?_
  rintro e w4 ⟨v4, rfl, hrC, hb4⟩
  have hcl := cOf_len r cc zs
  obtain ⟨cs, hcs⟩ : ∃ x, cOf r cc zs = x := ⟨_, rfl⟩
  rw [hcs] at hcl hrC
  obtain ⟨Ac, cC, rfl, hq1, hq2, _⟩ := hrC.form
  have hg34 := below_grown hb4 (some R)
  have hR4 := hR3.grown (below_grown hb4 none) (by simp) (fun b e => by cases e)
  have hs34 := hb4.size
  have hs03 := hg03.out.size
  have HG := Lib.hid (gtrans hg03.out hg34)
  clear hcs hb4 hg34 hg03 hR3 hSl
  go_wp2_with fail
  refine (odd_any R (N + 20 + 20 + 50000) n w4 hR4 (by omega) (by omega)).mono ?_
  rintro e w5 ⟨b, rfl, _, hR5, hg5⟩
  have KR := hrC.grown hg5 (fun g' e => by cases e; left; omega)
  have KG := gtrans HG.out hg5
  have hs5 := hg5.size
  clear hrC HG hR4 hg5
  cases b with
  | false =>
    have HKR := Lib.hid KR
    have HKG := Lib.hid KG
    clear KR KG
    go_wp2
    go_ret3
    exact ⟨s1, s2, _, cs, rfl, HKR.out.wider (by omega) hs5, by omega, by omega, by omega, by omega, by omega, HKG.out, hR5.more (by omega)⟩
  | true =>
    go_wp2_with fail
    refine (pick_pos R (N + 20 + 20 + 50000 + 1) 4 w5 hR5 (by omega) (by omega)).mono ?_
    rintro e w6 ⟨z, rfl, z0, z1, hR6, hg6⟩
    have LR := (KR.grown hg6 (fun g' e => by cases e; left; omega)).wider (Nat.le_refl _) (hi' := w6.heap.size) (Nat.le_trans hs5 hg6.size)
    have LG := gtrans KG hg6
    have hs6 := hg6.size
    clear KR KG hR5 hg6
    by_cases e0 : z = 0
    · subst e0
      clear z0 z1
      have HLR := Lib.hid LR
      have HLG := Lib.hid LG
      clear LR LG
      go_upto_region 8 with fail
      refine draw_region (R := R) (B0 := R) (N := N + 20 + 20 + 50000 + 1 + 1) (E := fun _ v => v = .slice Ac cs.length cC) 1000000000000 1 20 [(63, pickG)] ⟨pick_sound _ 1 (by omega) (by omega), trivial⟩ [(0, Ty.rd), (7, Ty.int 1 5), (9, Ty.own 1)] [(4, Ty.int 1 5), (5, Ty.int 0 6), (6, Ty.own 1)] (Nat.le_refl _) (by kernel_rfl) (by omega) hR6 ⟨ok_rd _ _ _ _, ?_, ?_, trivial⟩ ?_
      · simp only [Ty.ok, Ty.ok0, Ty.int]
        simp
        omega
      · simp [Ty.ok, Ty.ok0, Ty.own, XD]
      intro w7 hg7 hR7
      simp only [Puts, Option.bind_some, envOf, List.find?, Nat.reduceBEq, Ty.own, Ty.int, Nat.reduceEqDiff, if_true, if_false]
      intros
      rename_i y4 y4lo y4hi y5 y5lo y5hi v6 h6
      obtain rfl := of_ok_own (k := 0) h6
      simp only [Act.put, List.setIfInBounds_toArray, List.set_cons_succ, List.set_cons_zero]
      have M := Lib.hid (HLR.out.grown hg7 (fun g' e => by cases e; left; omega))
      have MG := Lib.hid (gtrans HLG.out hg7)
      have hs7 := hg7.size
      clear h6 hg7
      go_wp2
      go_ret3
      exact ⟨y4, y5, _, cs, rfl, M.out.wider (by omega) hs7, by omega, by omega, by omega, by omega, by omega, MG.out, hR7.more (by omega)⟩
    by_cases e1 : z = 1
    · subst e1
      clear z0 z1 e0
      go_upto_region 10 with fail
      refine draw_seq (R := R) (B0 := R) (N := N + 20 + 20 + 50000 + 1 + 1) (E := fun _ v => v = .slice Ac cs.length cC) 1000000000000 1 20 [(63, pickG)] ⟨pick_sound _ 1 (by omega) (by omega), trivial⟩ [(0, Ty.rd), (7, Ty.int 1 5), (8, Ty.int 1 5), (9, Ty.own 1)] [(39, Ty.own 1), (41, Ty.int 0 4), (43, Ty.int 0 4), (48, Ty.int (-1) 4096)] (Nat.le_refl _) 10 (by kernel_rfl) (by omega) hR6 ⟨ok_rd _ _ _ _, ?_, ?_, ?_, trivial⟩ ?_
      · simp only [Ty.ok, Ty.ok0, Ty.int]
        simp
        omega
      · simp only [Ty.ok, Ty.ok0, Ty.int]
        simp
        omega
      · simp [Ty.ok, Ty.ok0, Ty.own, XD]
      intro w7 hg7 hR7
      simp only [List.take_succ_cons, List.take_zero, List.drop_succ_cons, List.drop_zero, Puts, Option.bind_some, envOf, List.find?, Nat.reduceBEq, Ty.own, Ty.int, Nat.reduceEqDiff, if_true, if_false]
      intros
      rename_i v39 h39 v40 y41 y41lo y41hi v42 y43 y43lo y43hi v44 v45 v46 v47 y48 y48lo y48hi
      obtain rfl := of_ok_own (k := 0) h39
      simp only [Act.put, List.setIfInBounds_toArray, List.set_cons_succ, List.set_cons_zero]
      have M := (LR.grown hg7 (fun g' e => by cases e; left; omega)).wider (Nat.le_refl _) (hi' := w7.heap.size) hg7.size
      have MG := gtrans LG hg7
      have hs7 := hg7.size
      have hbl := Lib.hid M.block_lt
      have HA := Lib.hid ((M.grown (World.grownBy_alloc w7 (.cells #[.int .i64 (y41), .int .i64 (y43), .int .i64 (y48)] 59) none) (fun g e => by cases e)).wider (Nat.le_refl _) (hi' := w7.heap.size + 1) (by omega))
      have HAG := Lib.hid (gtrans MG (World.grownBy_alloc w7 (.cells #[.int .i64 (y41), .int .i64 (y43), .int .i64 (y48)] 59) (some R)))
      have HARd := Lib.hid (hR7.alloc (.cells #[.int .i64 (y41), .int .i64 (y43), .int .i64 (y48)] 59))
      clear h39 hg7 M MG LR LG hR6 hR7
      go_wp2_with (
        at_builtin
        go_loud (refine wpList_appC rfl (.tmp 39) (.tmp 50) rfl w3.heap.size (w7.heap.size + 1) (.slice Ac cs.length cC) cs.length (fl cs) rfl HA.out w7.heap.size y41 y43 y48 rfl (World.cell?_alloc_at _ _ _ _ rfl) (World.cell?_alloc_at _ _ _ _ rfl) (World.cell?_alloc_at _ _ _ _ rfl) (by omega) (by simp; omega) ?_)
        intro v' w8 hr8 hg8
        go_loud (
          obtain ⟨A5, c5, hv5, _, _, _⟩ := hr8.form
          subst hv5
          have JR := Lib.hid hr8.app
          have JG := Lib.hid (grown_own HAG.out hg8 (fun g e => by have := (hbl.out g e).1; omega))
          have JRd := Lib.hid (HARd.out.grown hg8 (fun e => by have := (hbl.out _ e.symm).1; omega) (fun b e => by have := (hbl.out b e.symm).1; omega))
          have hs8 := hg8.size
          clear hr8 hg8))
      go_ret3
      exact ⟨s1, s2, _, cs ++ [(y41, y43, y48)], rfl, by have h := JR.out; rw [List.length_append] at h ⊢; exact h.wider (by omega) (Nat.le_refl _), by simp; omega, by omega, by omega, by omega, by omega, JG.out, JRd.out.more (by omega)⟩
    by_cases e2 : z = 2
    · subst e2
      clear z0 z1 e0 e1
      have hbl := Lib.hid LR.block_lt
      have HA := Lib.hid ((LR.grown (World.grownBy_alloc w6 (.cells #[.int .i64 ((s1 : Int)), .int .i64 (0), .int .i64 (1)] 59) none) (fun g e => by cases e)).wider (Nat.le_refl _) (hi' := w6.heap.size + 1) (by omega))
      have HAG := Lib.hid (gtrans LG (World.grownBy_alloc w6 (.cells #[.int .i64 ((s1 : Int)), .int .i64 (0), .int .i64 (1)] 59) (some R)))
      have HARd := Lib.hid (hR6.alloc (.cells #[.int .i64 ((s1 : Int)), .int .i64 (0), .int .i64 (1)] 59))
      clear LR LG hR6
      go_wp2_with (
        at_builtin
        go_loud (refine wpList_appC rfl (.tmp 54) (.tmp 57) rfl w3.heap.size (w6.heap.size + 1) (.slice Ac cs.length cC) cs.length (fl cs) rfl HA.out w6.heap.size (s1 : Int) 0 1 rfl (World.cell?_alloc_at _ _ _ _ rfl) (World.cell?_alloc_at _ _ _ _ rfl) (World.cell?_alloc_at _ _ _ _ rfl) (by omega) (by simp; omega) ?_)
        intro v' w8 hr8 hg8
        go_loud (
          obtain ⟨A5, c5, hv5, _, _, _⟩ := hr8.form
          subst hv5
          have JR := Lib.hid hr8.app
          have JG := Lib.hid (grown_own HAG.out hg8 (fun g e => by have := (hbl.out g e).1; omega))
          have JRd := Lib.hid (HARd.out.grown hg8 (fun e => by have := (hbl.out _ e.symm).1; omega) (fun b e => by have := (hbl.out b e.symm).1; omega))
          have hs8 := hg8.size
          clear hr8 hg8))
      go_ret3
      exact ⟨s1, s2, _, cs ++ [((s1 : Int), 0, 1)], rfl, by have h := JR.out; rw [List.length_append] at h ⊢; exact h.wider (by omega) (Nat.le_refl _), by simp; omega, by omega, by omega, by omega, by omega, JG.out, JRd.out.more (by omega)⟩
    · have d0 : (z == 0) = false := by simpa using e0
      have d1 : (z == 1) = false := by simpa using e1
      have d2 : (z == 2) = false := by simpa using e2
      clear e0 e1 e2
      have hbl := Lib.hid LR.block_lt
      have HA := Lib.hid ((LR.grown (World.grownBy_alloc w6 (.cells #[.int .i64 (0), .int .i64 (0), .int .i64 (1)] 59) none) (fun g e => by cases e)).wider (Nat.le_refl _) (hi' := w6.heap.size + 1) (by omega))
      have HAG := Lib.hid (gtrans LG (World.grownBy_alloc w6 (.cells #[.int .i64 (0), .int .i64 (0), .int .i64 (1)] 59) (some R)))
      have HARd := Lib.hid (hR6.alloc (.cells #[.int .i64 (0), .int .i64 (0), .int .i64 (1)] 59))
      clear LR LG hR6
      go_wp2_with (
        at_builtin
        go_loud (refine wpList_appC rfl (.tmp 24) (.tmp 26) rfl w3.heap.size (w6.heap.size + 1) (.slice Ac cs.length cC) cs.length (fl cs) rfl HA.out w6.heap.size 0 0 1 rfl (World.cell?_alloc_at _ _ _ _ rfl) (World.cell?_alloc_at _ _ _ _ rfl) (World.cell?_alloc_at _ _ _ _ rfl) (by omega) (by simp; omega) ?_)
        intro v' w8 hr8 hg8
        go_loud (
          obtain ⟨A5, c5, hv5, _, _, _⟩ := hr8.form
          subst hv5
          have JR := Lib.hid hr8.app
          have JG := Lib.hid (grown_own HAG.out hg8 (fun g e => by have := (hbl.out g e).1; omega))
          have JRd := Lib.hid (HARd.out.grown hg8 (fun e => by have := (hbl.out _ e.symm).1; omega) (fun b e => by have := (hbl.out b e.symm).1; omega))
          have hs8 := hg8.size
          clear hr8 hg8))
      go_ret3
      exact ⟨s1, s2, _, cs ++ [(0, 0, 1)], rfl, by have h := JR.out; rw [List.length_append] at h ⊢; exact h.wider (by omega) (Nat.le_refl _), by simp; omega, by omega, by omega, by omega, by omega, JG.out, JRd.out.more (by omega)⟩
set_option maxHeartbeats 1600000 in
theorem drawCM (A : Option Addr) (n c : Nat) (w : World) (hn : n ≤ 1048576) (hnc : n ≤ c) (hcm : c ≤ maxLen) (hc : Code8 w A n) :
    Calls Try.prog 30 #[.slice A n c] w fun e w' => ∃ (r c : Int) (s : Value) (ts : List Tri), e = .returned (.tuple #[.int .i64 r, .int .i64 c, s]) ∧ RowC w' w.heap.size w'.heap.size s ts.length (fl ts) ∧ ts.length ≤ 38 ∧ 1 ≤ r ∧ r ≤ 5 ∧ 0 ≤ c ∧ c ≤ 6 ∧ Below w.heap.size w w' := by
  go_enter Try.func30, Try.ntmps30
  go_wp2_with fail
  refine (open_any A n c w hn hnc hcm hc).mono ?_
  rintro e w1 ⟨rfl, hR, hb⟩
  have hs1 := hb.size
  have HB := Lib.hid hb
  clear hb hc
  go_wp2_with fail
  refine (l20Cells_any w.heap.size 0 4 w1 hR (by omega) (by omega) (by omega)).mono ?_
  rintro e w2 ⟨r, cc, s, ts, rfl, hrow, tl, r0, r1, c0, c1, hg2, _⟩
  have HB2 := Lib.hid (HB.out.grown hg2 hs1 (fun g e => by cases e; exact Nat.le_refl _))
  have HR2 := Lib.hid hrow
  clear hR hrow hg2
  go_wp2
  go_ret3
  exact ⟨r, cc, s, ts, rfl, HR2.out.wider hs1 (Nat.le_refl _), tl, r0, r1, c0, c1, HB2.out⟩
theorem l20MatI (R N : Nat) (m : Int) (columns : Nat) (n : Int) (w : World) (hR : Rd w R N) (hN : N ≤ 80000000) (hr1 : 1 ≤ m) (hc1 : 1 ≤ columns) (hrw : m ≤ 6) (hcl : columns ≤ 6) (n0 : 0 ≤ n) (n1 : n ≤ 1000) :
    Calls Try.prog 62 #[.pointer (some ⟨R, 0, none⟩), .int .i64 m, .int .i64 columns, .int .i64 n] w fun e w' => ∃ (r c : Int) (s : Value) (zs : List Int), e = .returned (matV r c s) ∧ Row w' w.heap.size w'.heap.size s zs ∧ zs.length ≤ 37 ∧ w.grownBy w' (some R) ∧ Rd w' R (N + 40000) := by
  obtain ⟨rows, rfl⟩ := Int.eq_ofNat_of_zero_le (show 0 ≤ m by omega)
  exact (l20Matrix_any R N rows columns n w hR hN (by omega) hc1 (by omega) hcl n0 n1).mono fun e w' ⟨r, c, s, zs, h1, h2, h3, _, _, _, _, h4, h5, _⟩ => ⟨r, c, s, zs, h1, h2, h3, h4, h5⟩
set_option maxRecDepth 20000 in
set_option maxHeartbeats 3200000 in
theorem drawCT2 (A : Option Addr) (n c : Nat) (w : World) (hn : n ≤ 1048576) (hnc : n ≤ c) (hcm : c ≤ maxLen) (hc : Code8 w A n) :
    Calls Try.prog 33 #[.slice A n c] w fun e w' => ∃ (r c : Int) (s : Value) (ts : List Tri) (r2 c2 : Int) (s2 : Value) (zs : List Int), e = .returned (.tuple #[.int .i64 r, .int .i64 c, s, matV r2 c2 s2]) ∧ RowC w' w.heap.size w'.heap.size s ts.length (fl ts) ∧ ts.length ≤ 38 ∧ 1 ≤ r ∧ r ≤ 5 ∧ 0 ≤ c ∧ c ≤ 6 ∧ Row w' w.heap.size w'.heap.size s2 zs ∧ zs.length ≤ 37 ∧ Below w.heap.size w w' := by
  have k0 := Cell3.new w (.int .i64 0) (.int .i64 0) (.slice none 0 0) 28
  have hb0 := (Below.refl w.heap.size w).alloc (Nat.le_refl _) (.cells #[.int .i64 0, .int .i64 0, .slice none 0 0] 28)
  have hc0 : Code8 (w.alloc (.cells #[.int .i64 0, .int .i64 0, .slice none 0 0] 28)) A n := hc.below hb0
  obtain ⟨W, hW⟩ : ∃ W, w.alloc (.cells #[.int .i64 0, .int .i64 0, .slice none 0 0] 28) = W := ⟨_, rfl⟩
  rw [hW] at k0 hb0 hc0
  have HSW := Lib.hid (show W.heap.size = w.heap.size + 1 by rw [← hW]; simp)
  have K0 := Lib.hid k0
  have HB0 := Lib.hid hb0
  clear k0 hb0 hc
  go_enter Try.func33, Try.ntmps33
  go_wp2_with fail
  refine (open_any A n c W hn hnc hcm hc0).mono ?_
  rintro e w1 ⟨rfl, hR, hb⟩
  have hsW := HSW.out
  have K1 := Lib.hid (K0.out.below hb (by omega))
  have B1 := Lib.hid (HB0.out.trans (hb.mono (by omega)))
  have hs1 := hb.size
  have hlt1 := hR.lt
  clear hc0 K0 HB0 hb hsW hW
  go_wp2_with fail
  refine (l20Cells_any W.heap.size 0 12 w1 hR (by omega) (by omega) (by omega)).mono ?_
  rintro e w2 ⟨r, cc, s, ts, rfl, hrow, tl, r0, r1, c0, c1, hg2, hR2⟩
  have hs2 := hg2.size
  clear hR
  obtain ⟨As, cs, rfl, _, _, _⟩ := hrow.form
  have HROW := Lib.hid hrow
  clear hrow
  go_wp2_with fail
  refine (pick_pos W.heap.size (0 + 60000) 9 w2 hR2 (by omega) (by omega)).mono ?_
  rintro e w3 ⟨z, rfl, z0, z1, hR3, hg3⟩
  obtain ⟨Z, rfl⟩ := Int.eq_ofNat_of_zero_le z0
  obtain ⟨Y, hY⟩ : ∃ Y : Nat, cc + (Z : Int) / 8 = (Y : Int) := ⟨(cc + (Z : Int) / 8).toNat, by omega⟩
  have hY7 : Y ≤ 7 := by omega
  have hwY : IntKind.i64.wrap (Y : Int) = (Y : Int) := by rw [IntKind.wrap_i64]; omega
  have hg13 := Lib.hid (gtrans hg2 hg3)
  clear hR2 hg2
  have HG3 := Lib.hid hg3
  clear hg3 z0
  go_wp2_with fail
  all_goals (
    refine (l20Side_any W.heap.size (0 + 60000 + 1) w3 hR3 (by omega)).mono ?_
    rintro e w4 ⟨s2, rfl, s2l, s2h, hg4, hR4⟩
    have HG4 := Lib.hid hg4
    clear hg4
    go_wp2_with fail
    refine (l20MatI W.heap.size (0 + 60000 + 1 + 20) _ s2 12 w4 hR4 (by omega) (by omega) (by omega) (by omega) (by omega) (by omega) (by omega)).mono ?_
    rintro e w5 ⟨x, y, v5, zs, rfl, hr5, zl, hg5, hR5⟩
    obtain ⟨A5, c5, rfl, _, _, _⟩ := hr5.form
    have hg25 := gtrans (gtrans HG3.out HG4.out) hg5
    have hg15 := gtrans (gtrans hg13.out HG4.out) hg5
    have hs3 := HG3.out.size
    have hs4 := HG4.out.size
    have hs25 := hg25.size
    have hsW := HSW.out
    have HC5 := Lib.hid (HROW.out.grown hg25 (fun g e => by cases e; left; omega))
    have K5 := K1.out.grown hg15 (by simp; omega)
    have B5 := B1.out.grown hg15 B1.out.size (fun g e => by cases e; omega)
    have HC6 := Lib.hid (((HC5.out.grown (set_grown _ w.heap.size 0 (.int .i64 x)) (fun g e => by cases e; left; omega)).grown (set_grown _ w.heap.size 1 (.int .i64 y)) (fun g e => by cases e; left; omega)).grown (set_grown _ w.heap.size 2 (.slice A5 zs.length c5)) (fun g e => by cases e; left; omega))
    have HE := Lib.hid (mat_ret (r := .int .i64 x) (c := .int .i64 y) (Nat.le_refl _) K5 (lo := w4.heap.size) hr5 (by omega) B5)
    have hlo := Lib.hid (show w.heap.size ≤ w4.heap.size ∧ w2.heap.size ≤ w5.heap.size ∧ w.heap.size ≤ w1.heap.size by omega)
    obtain ⟨d0, d1, d2, e0, e1, e2, dlt⟩ := K5
    clear hR4 hR5 hr5 hg25 hg15 B5 HC5 hs3 hs4 hs25 hsW
    go_wp2
    obtain ⟨⟨z0, z1, z2, _, _, _, _⟩, e1, e2⟩ := HE.out
    refine bodyPost_ret (v := .tuple #[.int .i64 r, .int .i64 cc, .slice As ts.length cs, matV x y (.slice A5 zs.length c5)]) (by simp [results, Try.results33, go_sem, z0, z1, z2]) rfl ?_
    exact ⟨r, cc, _, ts, x, y, _, zs, rfl, HC6.out.wider hlo.out.2.2 (by have := hlo.out; simpa using this.2.1), tl, r0, r1, c0, c1, e1.wider hlo.out.1 (Nat.le_refl _), zl, e2⟩)
end Go.Proofs.Ytdebnbgjnmoleaa
