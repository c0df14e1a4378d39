/- Contracts of the drawing functions of matrices and what goes with them. -/
import Derived.Test.YtakjmdjjpalaiaaDrawM
namespace Go.Proofs.Ytakjmdjjpalaiaa
open Go.RowKit

theorem mat_ret {w X : World} {b lo : Nat} {x y u r c s : Value} {zs : List Int} (hb : w.heap.size ≤ b) (K0 : Cell3 X b x y u) (row : Row X lo X.heap.size s zs) (hlo : b < lo) (hB : Below w.heap.size w X) :
    Cell3 (((X.setCell ⟨b, 0, none⟩ r).setCell ⟨b, 1, none⟩ c).setCell ⟨b, 2, none⟩ s) b r c s ∧
    Row (((X.setCell ⟨b, 0, none⟩ r).setCell ⟨b, 1, none⟩ c).setCell ⟨b, 2, none⟩ s) lo (((X.setCell ⟨b, 0, none⟩ r).setCell ⟨b, 1, none⟩ c).setCell ⟨b, 2, none⟩ s).heap.size s zs ∧
    Below w.heap.size w (((X.setCell ⟨b, 0, none⟩ r).setCell ⟨b, 1, none⟩ c).setCell ⟨b, 2, none⟩ s) := by
  refine ⟨((K0.set0 r).set1 c).set2 s, ?_, ?_⟩
  · exact (((row.grown (set_grown X b 0 r) (fun g e => by cases e; left; omega)).grown (set_grown _ b 1 c) (fun g e => by cases e; left; omega)).grown (set_grown _ b 2 s) (fun g e => by cases e; left; omega)).wider (Nat.le_refl _) (by simp)
  · exact ((hB.setCell (p := ⟨b, 0, none⟩) hb r).setCell (p := ⟨b, 1, none⟩) hb c).setCell (p := ⟨b, 2, none⟩) hb s

set_option maxHeartbeats 1600000 in
theorem l20Size_any (R N : Nat) (n : Int) (w : World) (hR : Rd w R N) (hN : N ≤ 1000000) (n0 : 0 ≤ n) (n1 : n ≤ 1000) :
    Calls Try.prog 64 #[.pointer (some ⟨R, 0, none⟩), .int .i64 n] w fun e w' => ∃ (r c : Nat) (k : Int), e = .returned (.tuple #[.int .i64 r, .int .i64 c, .int .i64 k]) ∧ 1 ≤ r ∧ r ≤ 5 ∧ 1 ≤ c ∧ c ≤ 5 ∧ -1 ≤ k ∧ k ≤ 6 ∧ w.grownBy w' (some R) ∧ Rd w' R (N + 100) := by
  go_enter Try.func64, Try.ntmps64
  go_upto_region 1 with fail
  refine draw_seq (R := R) (B0 := R) (N := N) (E := fun _ _ => True) 1000000000000 1 20 [(80, pickG)] ⟨pick_sound _ 1 (by omega) (by omega), trivial⟩ [(0, Ty.rd)] [(17, Ty.int 1 3)] (Nat.le_refl _) 8 (by kernel_rfl) (by omega) hR ⟨ok_rd _ _ _ _, trivial⟩ ?_
  intro w1 hg1 hR1
  simp only [List.take_succ_cons, List.take_zero, List.drop_succ_cons, List.drop_zero, Puts, Option.bind_some, envOf, List.find?, Nat.reduceBEq, Ty.int, if_true]
  intros
  rename_i y ylo yhi
  simp only [Act.put, List.setIfInBounds_toArray, List.set_cons_succ, List.set_cons_zero]
  have hy : Ty.ok R (XD R R (fun _ _ => True)) TD w1 (Ty.int 1 3) (.int .i64 y) := ok_int ylo yhi
  go_upto_region 2 with fail
  refine draw_seq (R := R) (B0 := R) (N := N + 20) (E := fun _ _ => True) 1000000000000 1 20 [(80, pickG)] ⟨pick_sound _ 1 (by omega) (by omega), trivial⟩ [(0, Ty.rd), (7, Ty.int 1 3)] [(25, Ty.int 1 15)] (Nat.le_refl _) 8 (by kernel_rfl) (by omega) hR1 ⟨ok_rd _ _ _ _, hy, trivial⟩ ?_
  intro w2 hg2 hR2
  simp only [List.take_succ_cons, List.take_zero, List.drop_succ_cons, List.drop_zero, Puts, Option.bind_some, envOf, List.find?, Nat.reduceBEq, Ty.int, if_true]
  intros
  rename_i y2 y2lo y2hi
  simp only [Act.put, List.setIfInBounds_toArray, List.set_cons_succ, List.set_cons_zero]
  have hy : Ty.ok R (XD R R (fun _ _ => True)) TD w2 (Ty.int 1 3) (.int .i64 y) := ok_int ylo yhi
  go_upto_region 3 with fail
  refine draw_seq (R := R) (B0 := R) (N := N + 20 + 20) (E := fun _ _ => True) 1000000000000 1 20 [(80, pickG)] ⟨pick_sound _ 1 (by omega) (by omega), trivial⟩ [(0, Ty.rd), (7, Ty.int 1 3)] [(33, Ty.int 1 15)] (Nat.le_refl _) 8 (by kernel_rfl) (by omega) hR2 ⟨ok_rd _ _ _ _, hy, trivial⟩ ?_
  intro w3 hg3 hR3
  simp only [List.take_succ_cons, List.take_zero, List.drop_succ_cons, List.drop_zero, Puts, Option.bind_some, envOf, List.find?, Nat.reduceBEq, Ty.int, if_true]
  intros
  rename_i y3 y3lo y3hi
  simp only [Act.put, List.setIfInBounds_toArray, List.set_cons_succ, List.set_cons_zero]
  go_wp2_with fail
  refine (odd_any R (N + 20 + 20 + 20) n w3 hR3 (by omega) (by omega)).mono ?_
  rintro e w4 ⟨b, rfl, hb0, hR4, hg4⟩
  have HG := Lib.hid (gtrans (gtrans (gtrans hg1 hg2) hg3) hg4)
  cases b with
  | false =>
    have e2 : Ty.ok R (XD R R (fun _ _ => True)) TD w4 (Ty.int 1 15) (.int .i64 y2) := ok_int y2lo y2hi
    have e3 : Ty.ok R (XD R R (fun _ _ => True)) TD w4 (Ty.int 1 15) (.int .i64 y3) := ok_int y3lo y3hi
    have e1 : Ty.ok R (XD R R (fun _ _ => True)) TD w4 (Ty.int 1 3) (.int .i64 y) := ok_int ylo yhi
    go_upto_region 6 with fail
    refine draw_seq (R := R) (B0 := R) (N := N + 20 + 20 + 20 + 1) (E := fun _ _ => True) 1000000000000 1 20 [(80, pickG)] ⟨pick_sound _ 1 (by omega) (by omega), trivial⟩ [(0, Ty.rd), (8, Ty.int 1 15), (9, Ty.int 1 15), (7, Ty.int 1 3)] [(4, Ty.int 1 5), (5, Ty.int 1 5), (6, Ty.int (-1) 6)] (Nat.le_refl _) 8 (by kernel_rfl) (by omega) hR4 ⟨ok_rd _ _ _ _, e2, e3, e1, trivial⟩ ?_
    intro w5 hg5 hR5
    simp only [List.take_succ_cons, List.take_zero, List.drop_succ_cons, List.drop_zero, Puts, Option.bind_some, envOf, List.find?, Nat.reduceBEq, Ty.int, if_true]
    intros
    rename_i z4 z4lo z4hi z5 z5lo z5hi z6 z6lo z6hi
    simp only [Act.put, List.setIfInBounds_toArray, List.set_cons_succ, List.set_cons_zero]
    obtain ⟨p4, rfl⟩ := Int.eq_ofNat_of_zero_le (show 0 ≤ z4 by omega)
    obtain ⟨p5, rfl⟩ := Int.eq_ofNat_of_zero_le (show 0 ≤ z5 by omega)
    go_wp2
    refine bodyPost_ret (v := .tuple #[.int .i64 p4, .int .i64 p5, .int .i64 z6]) (by simp [results, Try.results64, go_sem]) rfl ?_
    exact ⟨p4, p5, z6, rfl, by omega, by omega, by omega, by omega, by omega, by omega, gtrans HG.out hg5, hR5.more (by omega)⟩
  | true =>
    have e2 : Ty.ok R (XD R R (fun _ _ => True)) TD w4.drew (Ty.int 1 15) (.int .i64 y2) := ok_int y2lo y2hi
    have e3 : Ty.ok R (XD R R (fun _ _ => True)) TD w4.drew (Ty.int 1 15) (.int .i64 y3) := ok_int y3lo y3hi
    go_upto_region 5 with fail
    refine draw_region (R := R) (B0 := R) (N := N + 20 + 20 + 20 + 1) (E := fun _ _ => True) 1000000000000 1 20 [(80, pickG)] ⟨pick_sound _ 1 (by omega) (by omega), trivial⟩ [(0, Ty.rd), (8, Ty.int 1 15), (9, Ty.int 1 15)] [(4, Ty.int 1 5), (5, Ty.int 1 5), (6, Ty.int (-1) 6)] (Nat.le_refl _) (by kernel_rfl) (by omega) hR4 ⟨ok_rd _ _ _ _, e2, e3, trivial⟩ ?_
    intro w5 hg5 hR5
    simp only [Puts, Option.bind_some, envOf, List.find?, Nat.reduceBEq, Ty.int, if_true]
    intros
    rename_i z4 z4lo z4hi z5 z5lo z5hi z6 z6lo z6hi
    simp only [Act.put, List.setIfInBounds_toArray, List.set_cons_succ, List.set_cons_zero]
    obtain ⟨p4, rfl⟩ := Int.eq_ofNat_of_zero_le (show 0 ≤ z4 by omega)
    obtain ⟨p5, rfl⟩ := Int.eq_ofNat_of_zero_le (show 0 ≤ z5 by omega)
    go_wp2
    refine bodyPost_ret (v := .tuple #[.int .i64 p4, .int .i64 p5, .int .i64 z6]) (by simp [results, Try.results64, go_sem]) rfl ?_
    exact ⟨p4, p5, z6, rfl, by omega, by omega, by omega, by omega, by omega, by omega, gtrans HG.out hg5, hR5.more (by omega)⟩
set_option maxRecDepth 20000 in
set_option maxHeartbeats 1600000 in
theorem drawSum (A : Option Addr) (n c : Nat) (w : World) (hn : n ≤ 1048576) (hnc : n ≤ c) (hcm : c ≤ maxLen) (hc : Code8 w A n) :
    Calls Try.prog 22 #[.slice A n c] w fun e w' => ∃ (r c : Int) (s : Value) (zs : List Int) (k : Int), e = .returned (.tuple #[matV r c s, .int .i64 k]) ∧ Row w' w.heap.size w'.heap.size s zs ∧ zs.length ≤ 37 ∧ -1 ≤ r ∧ r ≤ 6 ∧ 0 ≤ c ∧ c ≤ 7 ∧ -1 ≤ k ∧ k ≤ 6 ∧ Below w.heap.size w w' := by
  have k0 := Cell3.new w (.int .i64 0) (.int .i64 0) (.slice none 0 0) 26
  have hb0 := (Below.refl w.heap.size w).alloc (Nat.le_refl _) (.cells #[.int .i64 0, .int .i64 0, .slice none 0 0] 26)
  have hc0 : Code8 (w.alloc (.cells #[.int .i64 0, .int .i64 0, .slice none 0 0] 26)) A n := hc.below hb0
  obtain ⟨W, hW⟩ : ∃ W, w.alloc (.cells #[.int .i64 0, .int .i64 0, .slice none 0 0] 26) = W := ⟨_, rfl⟩
  rw [hW] at k0 hb0 hc0
  have HSW := Lib.hid (show W.heap.size = w.heap.size + 1 by rw [← hW]; simp)
  have K0 := Lib.hid k0
  have HB0 := Lib.hid hb0
  clear k0 hb0 hc
  go_enter Try.func22, Try.ntmps22
  go_wp2_with fail
  refine (open_any A n c W hn hnc hcm hc0).mono ?_
  rintro e w1 ⟨rfl, hR, hb⟩
  have hsW := HSW.out
  have K1 := Lib.hid (K0.out.below hb (by omega))
  have B1 := Lib.hid (HB0.out.trans (hb.mono (by omega)))
  clear hc0 K0 HB0 hb hsW hW
  go_wp2_with fail
  refine (l20Size_any W.heap.size 0 9 w1 hR (by omega) (by omega) (by omega)).mono ?_
  rintro e w2 ⟨s1, s2, k, rfl, s1l, s1h, s2l, s2h, k0, k1, hg2, hR2⟩
  go_wp2_with fail
  refine (l20Matrix_any W.heap.size 100 s1 s2 12 w2 (hR2.more (by omega)) (by omega) (by omega) (by omega) (by omega) (by omega) (by omega) (by omega)).mono ?_
  rintro e w4 ⟨r, cc, s, zs, rfl, hrow, zl, r0, r1, c0, c1, hg4, hR4, _⟩
  have hsW := HSW.out
  obtain ⟨A4, c4, rfl, hz1, hz2, _⟩ := hrow.form
  have hg14 : w1.grownBy w4 (some W.heap.size) := gtrans hg2 hg4
  have K4 := K1.out.grown hg14 (by simp; omega)
  have hb4 := (B1.out.grown hg14 B1.out.size (fun g e => by cases e; omega))
  have h21 := hg2.size
  have hlt1 := hR.lt
  have HE := Lib.hid (mat_ret (r := .int .i64 r) (c := .int .i64 cc) (Nat.le_refl _) K4 hrow (by omega) hb4)
  have hlo := Lib.hid (show w.heap.size ≤ w2.heap.size by omega)
  obtain ⟨v0, v1, v2, p0, p1, p2, vl⟩ := K4
  clear hrow hR hR2 hR4 hg2 hg4 hg14 hb4 hsW h21 hlt1
  go_wp2
  obtain ⟨⟨z0, z1, z2, _, _, _, _⟩, e1, e2⟩ := HE.out
  refine bodyPost_ret (v := .tuple #[matV r cc (.slice A4 zs.length c4), .int .i64 k]) (by simp [results, Try.results22, go_sem, z0, z1, z2]) rfl ?_
  exact ⟨r, cc, _, zs, k, rfl, e1.wider hlo.out (Nat.le_refl _), zl, r0, r1, c0, c1, k0, k1, e2⟩
set_option maxRecDepth 20000 in
set_option maxHeartbeats 1600000 in
theorem drawTop (A : Option Addr) (n c : Nat) (w : World) (hn : n ≤ 1048576) (hnc : n ≤ c) (hcm : c ≤ maxLen) (hc : Code8 w A n) :
    Calls Try.prog 28 #[.slice A n c] w fun e w' => ∃ (r c : Int) (s : Value) (zs : List Int) (k : Int), e = .returned (.tuple #[matV r c s, .int .i64 k]) ∧ Row w' w.heap.size w'.heap.size s zs ∧ zs.length ≤ 37 ∧ -1 ≤ r ∧ r ≤ 6 ∧ 0 ≤ c ∧ c ≤ 7 ∧ -1 ≤ k ∧ k ≤ 6 ∧ Below w.heap.size w w' := by
  have k0 := Cell3.new w (.int .i64 0) (.int .i64 0) (.slice none 0 0) 26
  have hb0 := (Below.refl w.heap.size w).alloc (Nat.le_refl _) (.cells #[.int .i64 0, .int .i64 0, .slice none 0 0] 26)
  have hc0 : Code8 (w.alloc (.cells #[.int .i64 0, .int .i64 0, .slice none 0 0] 26)) A n := hc.below hb0
  obtain ⟨W, hW⟩ : ∃ W, w.alloc (.cells #[.int .i64 0, .int .i64 0, .slice none 0 0] 26) = W := ⟨_, rfl⟩
  rw [hW] at k0 hb0 hc0
  have HSW := Lib.hid (show W.heap.size = w.heap.size + 1 by rw [← hW]; simp)
  have K0 := Lib.hid k0
  have HB0 := Lib.hid hb0
  clear k0 hb0 hc
  go_enter Try.func28, Try.ntmps28
  go_wp2_with fail
  refine (drawSum A n c W hn hnc hcm hc0).mono ?_
  rintro e w4 ⟨r, cc, s, zs, k, rfl, hrow, zl, r0, r1, c0, c1, k0, k1, hb⟩
  have hsW := HSW.out
  obtain ⟨A4, c4, rfl, hz1, hz2, _⟩ := hrow.form
  have K4 := K0.out.below hb (by omega)
  have hb4 := HB0.out.trans (hb.mono (by omega))
  have HE := Lib.hid (mat_ret (r := .int .i64 r) (c := .int .i64 cc) (Nat.le_refl _) K4 hrow (by omega) hb4)
  have hlo := Lib.hid (show w.heap.size ≤ W.heap.size by omega)
  obtain ⟨v0, v1, v2, p0, p1, p2, vl⟩ := K4
  clear hrow hb hb4 hsW hc0 K0 HB0 hW
  go_wp2
  obtain ⟨⟨z0, z1, z2, _, _, _, _⟩, e1, e2⟩ := HE.out
  refine bodyPost_ret (v := .tuple #[matV r cc (.slice A4 zs.length c4), .int .i64 k]) (by simp [results, Try.results28, go_sem, z0, z1, z2]) rfl ?_
  exact ⟨r, cc, _, zs, k, rfl, e1.wider hlo.out (Nat.le_refl _), zl, r0, r1, c0, c1, k0, k1, e2⟩
theorem mat_ret2 {w X : World} {b lo lo2 : Nat} {x y u r c s x2 y2 u2 r2 c2 s2 : Value} {zs zs2 : List Int} (hb : w.heap.size ≤ b) (K0 : Cell3 X b x y u) (K1 : Cell3 X (b + 1) x2 y2 u2) (row : Row X lo X.heap.size s zs) (row2 : Row X lo2 X.heap.size s2 zs2) (hlo : b + 1 < lo) (hlo2 : b + 1 < lo2) (hB : Below w.heap.size w X) :
    ∃ Y, ((((((X.setCell ⟨b, 0, none⟩ r).setCell ⟨b, 1, none⟩ c).setCell ⟨b, 2, none⟩ s).setCell ⟨b + 1, 0, none⟩ r2).setCell ⟨b + 1, 1, none⟩ c2).setCell ⟨b + 1, 2, none⟩ s2) = Y ∧
    Cell3 (((X.setCell ⟨b, 0, none⟩ r).setCell ⟨b, 1, none⟩ c).setCell ⟨b, 2, none⟩ s) (b + 1) x2 y2 u2 ∧
    Cell3 Y b r c s ∧ Cell3 Y (b + 1) r2 c2 s2 ∧ Row Y lo Y.heap.size s zs ∧ Row Y lo2 Y.heap.size s2 zs2 ∧ Below w.heap.size w Y := by
  refine ⟨_, rfl, ?_⟩
  obtain ⟨k0, h1, h2⟩ := mat_ret (r := r) (c := c) hb K0 row (show b < lo by omega) hB
  have k1 := ((K1.far (a := ⟨b, 0, none⟩) (show b + 1 ≠ b by omega) r).far (a := ⟨b, 1, none⟩) (show b + 1 ≠ b by omega) c).far (a := ⟨b, 2, none⟩) (show b + 1 ≠ b by omega) s
  have r2' := (((row2.grown (set_grown X b 0 r) (fun g e => by cases e; left; omega)).grown (set_grown _ b 1 c) (fun g e => by cases e; left; omega)).grown (set_grown _ b 2 s) (fun g e => by cases e; left; omega)).wider (Nat.le_refl _) (hi' := (((X.setCell ⟨b, 0, none⟩ r).setCell ⟨b, 1, none⟩ c).setCell ⟨b, 2, none⟩ s).heap.size) (by simp)
  obtain ⟨k1', h3, h4⟩ := mat_ret (r := r2) (c := c2) (show w.heap.size ≤ b + 1 by omega) k1 r2' (show b + 1 < lo2 by omega) h2
  refine ⟨k1, ?_, k1', ?_, h3, h4⟩
  · exact ((k0.far (a := ⟨b + 1, 0, none⟩) (show b ≠ b + 1 by omega) r2).far (a := ⟨b + 1, 1, none⟩) (show b ≠ b + 1 by omega) c2).far (a := ⟨b + 1, 2, none⟩) (show b ≠ b + 1 by omega) s2
  · exact (((h1.grown (set_grown _ (b + 1) 0 r2) (fun g e => by cases e; left; omega)).grown (set_grown _ (b + 1) 1 c2) (fun g e => by cases e; left; omega)).grown (set_grown _ (b + 1) 2 s2) (fun g e => by cases e; left; omega)).wider (Nat.le_refl _) (by simp)
theorem nestD0 (w : World) : ∀ W, W = (w.alloc (.cells #[.int .i64 0, .int .i64 0, .slice none 0 0] 26)).alloc (.cells #[.int .i64 0, .int .i64 0, .slice none 0 0] 26) →
    Cell3 W w.heap.size (.int .i64 0) (.int .i64 0) (.slice none 0 0) ∧ Cell3 W (w.heap.size + 1) (.int .i64 0) (.int .i64 0) (.slice none 0 0) ∧ Below w.heap.size w W ∧ W.heap.size = w.heap.size + 2 := by
  rintro W rfl
  have a := Cell3.new w (.int .i64 0) (.int .i64 0) (.slice none 0 0) 26
  have b := Cell3.new (w.alloc (.cells #[.int .i64 0, .int .i64 0, .slice none 0 0] 26)) (.int .i64 0) (.int .i64 0) (.slice none 0 0) 26
  simp only [World.size_alloc] at b
  exact ⟨a.alloc _, b, ((Below.refl _ _).alloc (Nat.le_refl _) _).alloc (by simp) _, by simp⟩
set_option maxRecDepth 20000 in
set_option maxHeartbeats 3200000 in
theorem drawFold (A : Option Addr) (n c : Nat) (w : World) (hn : n ≤ 1048576) (hnc : n ≤ c) (hcm : c ≤ maxLen) (hc : Code8 w A n) :
    Calls Try.prog 43 #[.slice A n c] w fun e w' => ∃ (r c : Int) (s : Value) (zs : List Int) (r2 c2 : Int) (s2 : Value) (zs2 : List Int), e = .returned (.tuple #[matV r c s, matV r2 c2 s2]) ∧ Row w' w.heap.size w'.heap.size s zs ∧ Row w' w.heap.size w'.heap.size s2 zs2 ∧ (zs.length ≤ 37 ∧ -1 ≤ r ∧ r ≤ 6 ∧ 0 ≤ c ∧ c ≤ 7) ∧ (zs2.length ≤ 37 ∧ -1 ≤ r2 ∧ r2 ≤ 6 ∧ 0 ≤ c2 ∧ c2 ≤ 7) ∧ Below w.heap.size w w' := by
  obtain ⟨W, hW⟩ : ∃ W, (w.alloc (.cells #[.int .i64 0, .int .i64 0, .slice none 0 0] 26)).alloc (.cells #[.int .i64 0, .int .i64 0, .slice none 0 0] 26) = W := ⟨_, rfl⟩
  obtain ⟨k0, k1, hb0, hsW⟩ := nestD0 w W hW.symm
  have hc0 : Code8 W A n := hc.below hb0
  have HSW := Lib.hid hsW
  have K0 := Lib.hid k0
  have K1 := Lib.hid k1
  have HB0 := Lib.hid hb0
  clear k0 k1 hb0 hc hsW
  go_enter Try.func43, Try.ntmps43
  go_wp2_with fail
  refine (open_any A n c W hn hnc hcm hc0).mono ?_
  rintro e w1 ⟨rfl, hR, hb⟩
  have hsW := HSW.out
  have L0 := Lib.hid (K0.out.below hb (by omega))
  have L1 := Lib.hid (K1.out.below hb (by omega))
  have B1 := Lib.hid (HB0.out.trans (hb.mono (by omega)))
  clear hc0 K0 K1 HB0 hb hsW hW
  go_wp2_with fail
  refine (pick_pos W.heap.size 0 5 w1 hR (by omega) (by omega)).mono ?_
  rintro e w2 ⟨p, rfl, p0, p1, hR2, hg2⟩
  obtain ⟨s1, hs1⟩ : ∃ s1 : Nat, 1 + p = (s1 : Int) := Int.eq_ofNat_of_zero_le (by omega)
  have s1l : 1 ≤ s1 := by omega
  have s1h : s1 ≤ 5 := by omega
  go_wp2_with fail
  refine (pick_pos W.heap.size (0 + 1) 5 w2 hR2 (by omega) (by omega)).mono ?_
  rintro e w3 ⟨q, rfl, q0, q1, hR3, hg3⟩
  obtain ⟨s2, hs2⟩ : ∃ s2 : Nat, 1 + q = (s2 : Int) := Int.eq_ofNat_of_zero_le (by omega)
  have s2l : 1 ≤ s2 := by omega
  have s2h : s2 ≤ 5 := by omega
  go_wp2_with fail
  refine (l20Matrix_any W.heap.size (0 + 1 + 1) s1 s2 12 w3 hR3 (by omega) (by omega) (by omega) (by omega) (by omega) (by omega) (by omega)).mono ?_
  rintro e w4 ⟨r, cc, s, zs, rfl, hrow, zl, r0, r1, c0, c1, hg4, hR4, _⟩
  have hsW := HSW.out
  obtain ⟨A4, c4, rfl, hz1, hz2, _⟩ := hrow.form
  have k5 := Cell3.new w4 (.int .i64 r) (.int .i64 cc) (.slice A4 zs.length c4) 26
  have hg14 : w1.grownBy w4 (some W.heap.size) := gtrans (gtrans hg2 hg3) hg4
  have M0 := (L0.out.grown hg14 (by simp; omega)).alloc (.cells #[.int .i64 r, .int .i64 cc, .slice A4 zs.length c4] 26)
  have M1 := (L1.out.grown hg14 (by simp; omega)).alloc (.cells #[.int .i64 r, .int .i64 cc, .slice A4 zs.length c4] 26)
  have hb4 := (B1.out.grown hg14 B1.out.size (fun g e => by cases e; omega))
  have B4 := hb4.alloc hb4.size (.cells #[.int .i64 r, .int .i64 cc, .slice A4 zs.length c4] 26)
  have R4 := (hrow.grown (World.grownBy_alloc w4 (.cells #[.int .i64 r, .int .i64 cc, .slice A4 zs.length c4] 26) none) (fun g e => by cases e)).wider (Nat.le_refl _) (hi' := w4.heap.size + 1) (by omega)
  have hRd4 := hR4.alloc (.cells #[.int .i64 r, .int .i64 cc, .slice A4 zs.length c4] 26)
  obtain ⟨V, hV⟩ : ∃ V, w4.alloc (.cells #[.int .i64 r, .int .i64 cc, .slice A4 zs.length c4] 26) = V := ⟨_, rfl⟩
  have hsV : V.heap.size = w4.heap.size + 1 := by rw [← hV]; simp
  rw [hV] at k5 M0 M1 B4 R4 hRd4
  rw [← hsV] at R4
  have hlt1 := hR.lt
  have h31 := (gtrans hg2 hg3).size
  have h41 := hg14.size
  have hord := Lib.hid (show w.heap.size + 1 < w3.heap.size by omega)
  have KM0 := Lib.hid M0
  have KM1 := Lib.hid M1
  have KB4 := Lib.hid B4
  have KR4 := Lib.hid R4
  have hneR := Lib.hid (show W.heap.size ≠ w.heap.size ∧ W.heap.size ≠ w.heap.size + 1 ∧ w.heap.size + 1 < W.heap.size ∧ W.heap.size < w3.heap.size ∧ W.heap.size ≤ V.heap.size by omega)
  have h9 : Ty.ok W.heap.size (XD W.heap.size W.heap.size (fun _ v => v = matV r cc (.slice A4 zs.length c4))) TD V.drew ⟨9, 1, 0, 0⟩ (.pointer (some ⟨w4.heap.size, 0, none⟩)) := by
    simp only [Ty.ok, Ty.ok0]
    simp
    exact ⟨by omega, _, k5.c0, _, k5.c1, _, k5.c2, by simp [XD]⟩
  have e1 : Ty.ok W.heap.size (XD W.heap.size W.heap.size (fun _ v => v = matV r cc (.slice A4 zs.length c4))) TD V.drew (Ty.int 1 5) (.int .i64 s1) := ok_int (by omega) (by omega)
  have e2 : Ty.ok W.heap.size (XD W.heap.size W.heap.size (fun _ v => v = matV r cc (.slice A4 zs.length c4))) TD V.drew (Ty.int 1 5) (.int .i64 s2) := ok_int (by omega) (by omega)
  clear hsW hsV hrow k5 hg2 hg3 hg4 hR hR2 hR3 hR4 hg14 M0 M1 hb4 B4 R4 hlt1 h31 h41
  go_upto_region 5 with fail
  refine draw_region_tail (R := W.heap.size) (B0 := W.heap.size) (N := 0 + 1 + 1 + 40000) (E := fun _ v => v = matV r cc (.slice A4 zs.length c4)) 80000000 40000 40000000 [(80, pickG), (65, l20MatG)] ⟨pick_sound _ 40000 (by omega) (by omega), l20Mat_sound _ 40000 (by omega) (by omega), trivial⟩ [(4, Ty.rd), (5, Ty.int 1 5), (6, Ty.int 1 5), (7, ⟨9, 1, 0, 0⟩)] [(20, Ty.own 1), (36, Ty.own 0)] (Nat.le_refl _) 17 (by kernel_rfl) (by omega) hRd4 ⟨ok_rd _ _ _ _, e1, e2, h9, trivial⟩ ?_
  intro w5 hg5 hR5
  simp only [List.take_succ_cons, List.take_zero, List.drop_succ_cons, List.drop_zero, Puts, Option.bind_some, envOf, List.find?, Nat.reduceBEq, Ty.own, Nat.reduceEqDiff, if_false]
  intro v20 h20
  obtain rfl := of_ok_own (k := 0) h20
  intros
  rename_i v36 h36
  obtain ⟨r2, cc2, sv2, zs2, rfl, hrow2, zl2, r20, r21, c20, c21⟩ := of_ok_mat h36
  simp only [Act.put, List.setIfInBounds_toArray, List.set_cons_succ, List.set_cons_zero]
  obtain ⟨A5, c5, rfl, hz3, hz4, _⟩ := hrow2.form
  have M0 := KM0.out.grown hg5 (by have := hneR.out; simp; omega)
  have M1 := KM1.out.grown hg5 (by have := hneR.out; simp; omega)
  have R5 := (KR4.out.grown hg5 (fun g e => by cases e; left; exact hneR.out.2.2.2.1)).wider (Nat.le_refl _) (hi' := w5.heap.size) hg5.size
  have B5 := KB4.out.grown hg5 KB4.out.size (fun g e => by cases e; have := hneR.out; omega)
  have HE := Lib.hid (mat_ret2 (r := .int .i64 r) (c := .int .i64 cc) (r2 := .int .i64 r2) (c2 := .int .i64 cc2) (Nat.le_refl _) M0 M1 R5 hrow2 hord.out hneR.out.2.2.1 B5)
  clear h20 h36 h9 e1 e2 hg5 hR5 R5 B5 hrow2 hRd4
  obtain ⟨v0, v1, v2, p0, p1, p2, vl⟩ := M0
  obtain ⟨Y, hY, M1', _⟩ := HE.out
  obtain ⟨u0, u1, u2, t0, t1, t2, ul⟩ := M1'
  go_wp2
  obtain ⟨Y', hY', _, ⟨z0, z1, z2, _, _, _, _⟩, ⟨y0, y1, y2, _, _, _, _⟩, x1, x2, x3⟩ := HE.out
  rw [hY] at hY'
  subst hY'
  refine bodyPost_ret (v := .tuple #[matV r cc (.slice A4 zs.length c4), matV r2 cc2 (.slice A5 zs2.length c5)]) (by simp [results, Try.results43, go_sem, z0, z1, z2, y0, y1, y2]) rfl ?_
  exact ⟨r, cc, _, zs, r2, cc2, _, zs2, rfl, x1.wider (by have := hord.out; omega) (Nat.le_refl _), x2.wider (by have := hneR.out; omega) (Nat.le_refl _), ⟨zl, r0, r1, c0, c1⟩, ⟨zl2, r20, r21, c20, c21⟩, x3⟩
end Go.Proofs.Ytakjmdjjpalaiaa
