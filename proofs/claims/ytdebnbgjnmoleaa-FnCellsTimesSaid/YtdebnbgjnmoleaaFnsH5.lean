/- Contracts: matrices of cells, the reference's. -/
import Derived.Test.YtdebnbgjnmoleaaFnsH4
namespace Go.Proofs.Ytdebnbgjnmoleaa
open Go.RowKit

set_option maxHeartbeats 3200000 in
theorem specCM_sides (rows cols : Int) (A : Option Addr) (cap B n : Nat) (ts : List Tri) (w : World) (hs : Sl w B A (fl ts)) (hB : B ≤ w.heap.size) (hn : ts.length ≤ 2000000) (hN : (n : Int) = rows * cols) (h1 : 1 ≤ rows ∧ rows ≤ 5) (h2 : 1 ≤ cols ∧ cols ≤ 5) :
    Calls Try.prog 27 #[.int .i64 rows, .int .i64 cols, .slice A ts.length cap] w fun e w' => Below w.heap.size w w' ∧ ((OkC rows cols ts ∧ ∃ s, e = .returned (.tuple #[matV rows cols s, .bool true]) ∧ Row w' w.heap.size w'.heap.size s (putTo n cols ts ts.length)) ∨
      (¬ OkC rows cols ts ∧ e = .returned (.tuple #[matV 0 0 (.slice none 0 0), .bool false]))) := by
  have hn25 : 1 ≤ n ∧ n ≤ 25 := by have := side_mul h1 h2; omega
  have HN := Lib.hid hN
  have hrc : rows * cols = (n : Int) := hN.symm
  have HT0 : Hid (putTo n cols ts 0 = List.replicate n 0) := rfl
  have HTL : Hid (∀ k, (putTo n cols ts k).length = n) := fun k => putTo_len n cols ts k
  have HTS : Hid (∀ k, putTo n cols ts (k + 1) = (putTo n cols ts k).set (plc cols (ts.getD k t0)).toNat (ts.getD k t0).2.2) := fun _ => rfl
  obtain ⟨T, hT⟩ : ∃ T, putTo n cols ts = T := ⟨_, rfl⟩
  rw [hT] at HT0 HTL HTS ⊢
  clear hT hN
  have hmk := run_make_row' (P := Try.prog) 22 3 (.int .i64 0) 8 Try.underlying22 info_int rfl .i64 .i64 n (by omega) (by omega)
  obtain ⟨W, hW⟩ : ∃ W, w.alloc (.cells #[.int .i64 0, .int .i64 0, .slice none 0 0] 28) = W := ⟨_, rfl⟩
  obtain ⟨q0, hb, hws⟩ := nestR w W hW.symm
  have hr0 := made_rowM W n (by omega)
  have hb0 := hb.alloc hb.size (.cells (madeCells #[Value.int .i64 0] n) 3)
  have q1 := q0.alloc (.cells (madeCells #[Value.int .i64 0] n) 3)
  have hs1 : Sl (W.alloc (.cells (madeCells #[Value.int .i64 0] n) 3)) B A (fl ts) := hs.below hb0 hB
  have kV := Cell3.new (W.alloc (.cells (madeCells #[Value.int .i64 0] n) 3)) (.int .i64 rows) (.int .i64 cols) (.slice (some ⟨W.heap.size, 0, none⟩) n n) 28
  have hgV := World.grownBy_alloc (W.alloc (.cells (madeCells #[Value.int .i64 0] n) 3)) (.cells #[.int .i64 rows, .int .i64 cols, .slice (some ⟨W.heap.size, 0, none⟩) n n] 28) none
  obtain ⟨V, hV⟩ : ∃ V, (W.alloc (.cells (madeCells #[Value.int .i64 0] n) 3)).alloc (.cells #[.int .i64 rows, .int .i64 cols, .slice (some ⟨W.heap.size, 0, none⟩) n n] 28) = V := ⟨_, rfl⟩
  rw [hV] at kV hgV
  simp only [World.size_alloc] at kV
  have hsv : V.heap.size = W.heap.size + 2 := by rw [← hV]; simp
  have HRV := Lib.hid (hr0.grown hgV (fun g e => by cases e))
  have HBV := Lib.hid (show Below w.heap.size w V from hV ▸ hb0.alloc hb0.size _)
  have HV0 := Lib.hid (show Cell3 V w.heap.size _ _ _ from hV ▸ q1.alloc _)
  have HSV := Lib.hid (show Sl V B A (fl ts) from hV ▸ hs1.below (B' := W.heap.size) ((Below.refl _ _).alloc (by simp) _) (by omega))
  have K5 := Lib.hid kV
  have hws' : w.heap.size + 1 ≤ W.heap.size := by omega
  clear hws hr0 hb0 q0 q1 hs hs1 hb kV hgV
  go_enter Try.func27, Try.ntmps27
  go_wp2_with fail
  refine (l1In_yes _ _ _ _ h1.1 h1.2).mono ?_
  rintro e w' ⟨rfl, rfl⟩
  go_wp2_with fail
  refine (l1In_yes _ _ _ _ h2.1 h2.2).mono ?_
  rintro e w' ⟨rfl, rfl⟩
  go_wp2
  clear hmk
  go_loopw [9, 10] (fun l i wr => ∃ k : Nat, k ≤ ts.length ∧ i = .int .i64 k ∧ l = .int .i64 (lastC cols ts k) ∧ okCto rows cols ts k ∧ Row wr W.heap.size (W.heap.size + 1) (.slice (some ⟨W.heap.size, 0, none⟩) n n) (T k) ∧ Below w.heap.size w wr ∧ Cell3 wr (W.heap.size + 1) (.int .i64 rows) (.int .i64 cols) (.slice (some ⟨W.heap.size, 0, none⟩) n n) ∧ Cell3 wr w.heap.size (.int .i64 0) (.int .i64 0) (.slice none 0 0) ∧ Sl wr B A (fl ts) ∧ V.heap.size ≤ wr.heap.size) (fun _ i _ => ts.length - (intOf i).toNat)
  case atStart => exact ⟨0, Nat.zero_le _, rfl, rfl, okCto_zero _ _ _, by rw [HT0.out]; exact HRV.out, HBV.out, K5.out, HV0.out, HSV.out, Nat.le_refl _⟩
  case round =>
    clear HRV HBV K5 HV0 HSV
    obtain ⟨k, hk, rfl, rfl, hok, hrow, hbel, hc5c, hc0c, hsl, hsz⟩ := hrel
    have hlb := lastC_bound h1.2 h2 hok
    have HOK := Lib.hid hok
    clear hok
    by_cases hlt : k < ts.length
    · obtain ⟨b, off, rfl, hbB, c0, c1, c2⟩ := hsl.tri hlt
      have HSU := Lib.hid (fun h => okCto_succ (k := k) HOK.out h)
      have HNO := Lib.hid (fun (h : ¬ okC1 rows cols (lastC cols ts k) (ts.getD k t0)) (hh : OkC rows cols ts) => h (hh.2.2 k hlt))
      have HL : Hid (lastC cols ts (k + 1) = plc cols (ts.getD k t0)) := rfl
      have hTk := HTS.out k
      obtain ⟨l, hl⟩ : ∃ l, lastC cols ts k = l := ⟨_, rfl⟩
      obtain ⟨t, ht⟩ : ∃ t, ts.getD k t0 = t := ⟨_, rfl⟩
      rw [hl] at hlb HSU HNO
      rw [ht] at c0 c1 c2 HSU HNO HL hTk
      simp only [hl]
      obtain ⟨p, q, z⟩ := t
      simp only at c0 c1 c2 hTk
      have hok1 : okC1 rows cols l (p, q, z) ↔ (0 ≤ p ∧ p < rows) ∧ (0 ≤ q ∧ q < cols) ∧ (0 ≤ z ∧ z ≤ 4095) ∧ z ≠ 0 ∧ l < p * cols + q := Iff.rfl
      have HOK1 := Lib.hid hok1
      have hpl : plc cols (p, q, z) = p * cols + q := rfl
      have HPL := Lib.hid hpl
      rw [hpl] at hTk
      have hki : (k : Int) < (ts.length : Int) := by omega
      have hal := World.grownBy_alloc wr (.cells #[.int .i64 p, .int .i64 q, .int .i64 z] 59) none
      have KN := Cell3.new wr (.int .i64 p) (.int .i64 q) (.int .i64 z) 59
      have HRA := Lib.hid (hrow.grown hal (fun g e => by cases e))
      have H5 := Lib.hid (hc5c.alloc (.cells #[.int .i64 p, .int .i64 q, .int .i64 z] 59))
      have H0 := Lib.hid (hc0c.alloc (.cells #[.int .i64 p, .int .i64 q, .int .i64 z] 59))
      have HBL := Lib.hid (hbel.alloc hbel.size (.cells #[.int .i64 p, .int .i64 q, .int .i64 z] 59))
      have HSL := Lib.hid (hsl.below (B' := wr.heap.size) ((Below.refl _ wr).alloc (Nat.le_refl _) (.cells #[.int .i64 p, .int .i64 q, .int .i64 z] 59)) (by omega))
      have hszA : V.heap.size ≤ (wr.alloc (.cells #[.int .i64 p, .int .i64 q, .int .i64 z] 59)).heap.size := by simp; omega
      obtain ⟨Y, hY⟩ : ∃ Y, wr.alloc (.cells #[.int .i64 p, .int .i64 q, .int .i64 z] 59) = Y := ⟨_, rfl⟩
      rw [hY] at KN HRA H5 H0 HBL HSL hszA
      have HE := Lib.hid (fun (r0 r1 r2 : Value) => (show Cell3 (((Y.setCell ⟨w.heap.size, 0, none⟩ r0).setCell ⟨w.heap.size, 1, none⟩ r1).setCell ⟨w.heap.size, 2, none⟩ r2) w.heap.size r0 r1 r2 ∧ Below w.heap.size w (((Y.setCell ⟨w.heap.size, 0, none⟩ r0).setCell ⟨w.heap.size, 1, none⟩ r1).setCell ⟨w.heap.size, 2, none⟩ r2) from ⟨((H0.out.set0 _).set1 _).set2 _, ((HBL.out.setCell (p := ⟨w.heap.size, 0, none⟩) (by simp) r0).setCell (p := ⟨w.heap.size, 1, none⟩) (by simp) r1).setCell (p := ⟨w.heap.size, 2, none⟩) (by simp) r2⟩))
      obtain ⟨u0, u1, u2, _, _, _, ult⟩ := KN
      obtain ⟨e0, e1, e2, f0, f1, f2, elt⟩ := H0.out
      clear hl ht hok1 hpl hrow hbel hc5c hc0c hsl hal
      refine (Classical.em (0 ≤ p ∧ p ≤ rows - 1)).elim (fun a1 => ?_) (fun a1 => ?_)
      rotate_left
      · have a1' : p < 0 ∨ rows - 1 < p := by omega
        clear a1 hTk
        go_wp2_with fail
        refine (l1In_no _ _ _ _ a1').mono ?_
        rintro e w' ⟨rfl, rfl⟩
        go_wp2
        obtain ⟨⟨z0, z1, z2, _, _, _, _⟩, B4⟩ := HE.out (.int .i64 0) (.int .i64 0) (.slice none 0 0)
        refine bodyPost_ret (v := .tuple #[matV 0 0 (.slice none 0 0), .bool false]) (by simp [results, Try.results27, go_sem, z0, z1, z2]) rfl ?_
        exact ⟨B4, .inr ⟨HNO.out (fun h => by have := (HOK1.out.1 h).1; omega), rfl⟩⟩
      refine (Classical.em (0 ≤ q ∧ q ≤ cols - 1)).elim (fun a2 => ?_) (fun a2 => ?_)
      rotate_left
      · have a2' : q < 0 ∨ cols - 1 < q := by omega
        clear a2 hTk
        go_wp2_with fail
        refine (l1In_yes _ _ _ _ a1.1 a1.2).mono ?_
        rintro e w' ⟨rfl, rfl⟩
        go_wp2_with fail
        refine (l1In_no _ _ _ _ a2').mono ?_
        rintro e w' ⟨rfl, rfl⟩
        go_wp2
        obtain ⟨⟨z0, z1, z2, _, _, _, _⟩, B4⟩ := HE.out (.int .i64 0) (.int .i64 0) (.slice none 0 0)
        refine bodyPost_ret (v := .tuple #[matV 0 0 (.slice none 0 0), .bool false]) (by simp [results, Try.results27, go_sem, z0, z1, z2]) rfl ?_
        exact ⟨B4, .inr ⟨HNO.out (fun h => by have := (HOK1.out.1 h).2.1; omega), rfl⟩⟩
      refine (Classical.em (0 ≤ z ∧ z ≤ 4095)).elim (fun a3 => ?_) (fun a3 => ?_)
      rotate_left
      · have a3' : z < 0 ∨ 4095 < z := by omega
        clear a3 hTk
        go_wp2_with fail
        refine (l1In_yes _ _ _ _ a1.1 a1.2).mono ?_
        rintro e w' ⟨rfl, rfl⟩
        go_wp2_with fail
        refine (l1In_yes _ _ _ _ a2.1 a2.2).mono ?_
        rintro e w' ⟨rfl, rfl⟩
        go_wp2_with fail
        refine (specRingValid_no _ _ a3').mono ?_
        rintro e w' ⟨rfl, rfl⟩
        go_wp2
        obtain ⟨⟨z0, z1, z2, _, _, _, _⟩, B4⟩ := HE.out (.int .i64 0) (.int .i64 0) (.slice none 0 0)
        refine bodyPost_ret (v := .tuple #[matV 0 0 (.slice none 0 0), .bool false]) (by simp [results, Try.results27, go_sem, z0, z1, z2]) rfl ?_
        exact ⟨B4, .inr ⟨HNO.out (fun h => by have := (HOK1.out.1 h).2.2.1; omega), rfl⟩⟩
      by_cases a4 : z = 0
      · have hz1 : (z == 0) = true := by simpa using a4
        have A4 := Lib.hid a4
        clear hTk a4
        go_wp2_with fail
        refine (l1In_yes _ _ _ _ a1.1 a1.2).mono ?_
        rintro e w' ⟨rfl, rfl⟩
        go_wp2_with fail
        refine (l1In_yes _ _ _ _ a2.1 a2.2).mono ?_
        rintro e w' ⟨rfl, rfl⟩
        go_wp2_with fail
        refine (specRingValid_yes _ _ a3.1 a3.2).mono ?_
        rintro e w' ⟨rfl, rfl⟩
        go_wp2
        obtain ⟨⟨z0, z1, z2, _, _, _, _⟩, B4⟩ := HE.out (.int .i64 0) (.int .i64 0) (.slice none 0 0)
        refine bodyPost_ret (v := .tuple #[matV 0 0 (.slice none 0 0), .bool false]) (by simp [results, Try.results27, go_sem, z0, z1, z2]) rfl ?_
        exact ⟨B4, .inr ⟨HNO.out (fun h => (HOK1.out.1 h).2.2.2.1 A4.out), rfl⟩⟩
      have hz0 : (z == 0) = false := by simpa using a4
      have hmb := tri_mul (p := p) (cols := cols) ⟨a1.1, by omega⟩ h2
      have HPB := Lib.hid (fun (hh : l < p * cols + q) => (plc_bound (t := (p, q, z)) (HOK1.out.2 ⟨⟨a1.1, by omega⟩, ⟨a2.1, by omega⟩, a3, a4, hh⟩) h2.2).2)
      rw [HPL.out, hrc] at HPB
      obtain ⟨m, hm⟩ : ∃ m, p * cols = m := ⟨_, rfl⟩
      rw [hm] at hmb HOK1 HPL HPB hTk
      obtain ⟨P, hP⟩ : ∃ P : Nat, m + q = (P : Int) := ⟨(m + q).toNat, by omega⟩
      rw [hP] at HOK1 HPL HPB hTk
      rw [Int.toNat_natCast] at hTk
      have HTk := Lib.hid hTk
      have hPb : P ≤ 24 := by omega
      have hwm : IntKind.i64.wrap m = m := by rw [IntKind.wrap_i64]; omega
      have hwp : IntKind.i64.wrap (P : Int) = (P : Int) := by rw [IntKind.wrap_i64]; omega
      clear hTk
      by_cases a5 : (P : Int) ≤ l
      · go_wp2_with fail
        refine (l1In_yes _ _ _ _ a1.1 a1.2).mono ?_
        rintro e w' ⟨rfl, rfl⟩
        go_wp2_with fail
        refine (l1In_yes _ _ _ _ a2.1 a2.2).mono ?_
        rintro e w' ⟨rfl, rfl⟩
        go_wp2_with fail
        refine (specRingValid_yes _ _ a3.1 a3.2).mono ?_
        rintro e w' ⟨rfl, rfl⟩
        go_wp2
        obtain ⟨⟨z0, z1, z2, _, _, _, _⟩, B4⟩ := HE.out (.int .i64 0) (.int .i64 0) (.slice none 0 0)
        refine bodyPost_ret (v := .tuple #[matV 0 0 (.slice none 0 0), .bool false]) (by simp [results, Try.results27, go_sem, z0, z1, z2]) rfl ?_
        exact ⟨B4, .inr ⟨HNO.out (fun h => by have := (HOK1.out.1 h).2.2.2.2; omega), rfl⟩⟩
      · have hPn : (P : Int) < (n : Int) := HPB.out (by omega)
        have HSU2 := Lib.hid (HSU.out (HOK1.out.2 ⟨⟨a1.1, by omega⟩, ⟨a2.1, by omega⟩, a3, a4, by omega⟩))
        obtain ⟨g, hg, hg1, hg2, hcg, hfz⟩ := HRA.out.cell_ (j := P) (by rw [HTL.out]; omega)
        injection hg with hg
        injection hg with hg
        subst hg
        obtain ⟨y, hy⟩ : ∃ y, (T k).getD P 0 = y := ⟨_, rfl⟩
        rw [hy] at hcg
        have S := Lib.hid (HRA.out.stored P z)
        obtain ⟨v0, v1, v2, _, _, _, vlt⟩ := H5.out
        clear hy HE HNO HSU
        go_wp2_with fail
        refine (l1In_yes _ _ _ _ a1.1 a1.2).mono ?_
        rintro e w' ⟨rfl, rfl⟩
        go_wp2_with fail
        refine (l1In_yes _ _ _ _ a2.1 a2.2).mono ?_
        rintro e w' ⟨rfl, rfl⟩
        go_wp2_with fail
        refine (specRingValid_yes _ _ a3.1 a3.2).mono ?_
        rintro e w' ⟨rfl, rfl⟩
        go_wp2
        go_roundw
        case rel => exact ⟨k + 1, by omega, by go_num, by rw [HL.out, HPL.out], HSU2.out, by rw [HTk.out]; exact S.out.1, HBL.out.setCell (p := ⟨W.heap.size, P, none⟩) (show w.heap.size ≤ W.heap.size by omega) _, H5.out.far (a := ⟨W.heap.size, P, none⟩) (show W.heap.size + 1 ≠ W.heap.size by omega) _, H0.out.far (a := ⟨W.heap.size, P, none⟩) (show w.heap.size ≠ W.heap.size by omega) _, HSL.out.keep (fun p hp => World.cell?_setCell_other _ _ _ _ (fun e => by rw [← e] at hp; exact absurd (show W.heap.size < B from hp) (by omega))), by simpa using hszA⟩
        case measure => simp [intOf]; omega
    · have e : k = ts.length := by omega
      rw [e] at hrow
      have HOKC := Lib.hid (show OkC rows cols ts from ⟨h1, h2, by have := HOK.out; rw [e] at this; exact this⟩)
      have hE := Lib.hid e
      have HR := Lib.hid hrow
      have HB5 := Lib.hid hbel
      have HC1 := Lib.hid hc0c
      obtain ⟨v0, v1, v2, p0, p1, p2, vlt⟩ := hc5c
      obtain ⟨b0, b1, b2, g0, g1, g2, blt⟩ := hc0c
      clear hrow hbel e hsl
      go_wp2
      have P2 := ((HC1.out.set0 (.int .i64 rows)).set1 (.int .i64 cols)).set2 (.slice (some ⟨W.heap.size, 0, none⟩) n n)
      have R2 := HR.out.grown (set_grown _ w.heap.size 0 (.int .i64 rows)) (fun g e => by cases e; left; omega)
      have R3 := R2.grown (set_grown _ w.heap.size 1 (.int .i64 cols)) (fun g e => by cases e; left; omega)
      have R4 := R3.grown (set_grown _ w.heap.size 2 (.slice (some ⟨W.heap.size, 0, none⟩) n n)) (fun g e => by cases e; left; omega)
      have B4 := ((HB5.out.setCell (p := ⟨w.heap.size, 0, none⟩) (by simp) (.int .i64 rows)).setCell (p := ⟨w.heap.size, 1, none⟩) (by simp) (.int .i64 cols)).setCell (p := ⟨w.heap.size, 2, none⟩) (by simp) (.slice (some ⟨W.heap.size, 0, none⟩) n n)
      have S4 : ((((wr.setCell ⟨w.heap.size, 0, none⟩ (.int .i64 rows)).setCell ⟨w.heap.size, 1, none⟩ (.int .i64 cols)).setCell ⟨w.heap.size, 2, none⟩ (.slice (some ⟨W.heap.size, 0, none⟩) n n)).heap.size) = wr.heap.size := by simp
      obtain ⟨W4, hW4⟩ : ∃ W4, (((wr.setCell ⟨w.heap.size, 0, none⟩ (.int .i64 rows)).setCell ⟨w.heap.size, 1, none⟩ (.int .i64 cols)).setCell ⟨w.heap.size, 2, none⟩ (.slice (some ⟨W.heap.size, 0, none⟩) n n)) = W4 := ⟨_, rfl⟩
      rw [hW4] at P2 R4 B4 S4 ⊢
      obtain ⟨z0, z1, z2, _, _, _, _⟩ := P2
      refine bodyPost_ret (v := .tuple #[matV rows cols (.slice (some ⟨W.heap.size, 0, none⟩) n n), .bool true]) (by simp [results, Try.results27, go_sem, z0, z1, z2]) rfl ?_
      exact ⟨B4, .inl ⟨HOKC.out, _, rfl, R4.wider (by omega) (by omega)⟩⟩
theorem specCM_out (rows cols : Int) (A : Option Addr) (cap : Nat) (m : Nat) (w : World) (h : ¬ ((1 ≤ rows ∧ rows ≤ 5) ∧ (1 ≤ cols ∧ cols ≤ 5))) :
    Calls Try.prog 27 #[.int .i64 rows, .int .i64 cols, .slice A m cap] w fun e w' => e = .returned (.tuple #[matV 0 0 (.slice none 0 0), .bool false]) ∧ Below w.heap.size w w' := by
  obtain ⟨W, hW⟩ : ∃ W, w.alloc (.cells #[.int .i64 0, .int .i64 0, .slice none 0 0] 28) = W := ⟨_, rfl⟩
  obtain ⟨q0, hb, hws⟩ := nestR w W hW.symm
  have Q0 := Lib.hid q0
  have HB := Lib.hid hb
  obtain ⟨b0, b1, b2, g0, g1, g2, blt⟩ := q0
  clear hb
  have HE := Lib.hid (show Cell3 (((W.setCell ⟨w.heap.size, 0, none⟩ (.int .i64 0)).setCell ⟨w.heap.size, 1, none⟩ (.int .i64 0)).setCell ⟨w.heap.size, 2, none⟩ (.slice none 0 0)) w.heap.size (.int .i64 0) (.int .i64 0) (.slice none 0 0) ∧ Below w.heap.size w (((W.setCell ⟨w.heap.size, 0, none⟩ (.int .i64 0)).setCell ⟨w.heap.size, 1, none⟩ (.int .i64 0)).setCell ⟨w.heap.size, 2, none⟩ (.slice none 0 0)) from ⟨((Q0.out.set0 _).set1 _).set2 _, ((HB.out.setCell (p := ⟨w.heap.size, 0, none⟩) (by simp) _).setCell (p := ⟨w.heap.size, 1, none⟩) (by simp) _).setCell (p := ⟨w.heap.size, 2, none⟩) (by simp) _⟩)
  by_cases h1 : 1 ≤ rows ∧ rows ≤ 5
  · have h2 : cols < 1 ∨ 5 < cols := by omega
    clear h
    go_enter Try.func27, Try.ntmps27
    go_wp2_with fail
    refine (l1In_yes _ _ _ _ h1.1 h1.2).mono ?_
    rintro e w' ⟨rfl, rfl⟩
    go_wp2_with fail
    refine (l1In_no _ _ _ _ h2).mono ?_
    rintro e w' ⟨rfl, rfl⟩
    go_wp2
    obtain ⟨⟨z0, z1, z2, _, _, _, _⟩, B4⟩ := HE.out
    refine bodyPost_ret (v := .tuple #[matV 0 0 (.slice none 0 0), .bool false]) (by simp [results, Try.results27, go_sem, z0, z1, z2]) rfl ?_
    exact ⟨rfl, B4⟩
  · have h1' : rows < 1 ∨ 5 < rows := by omega
    clear h h1
    go_enter Try.func27, Try.ntmps27
    go_wp2_with fail
    refine (l1In_no _ _ _ _ h1').mono ?_
    rintro e w' ⟨rfl, rfl⟩
    go_wp2
    obtain ⟨⟨z0, z1, z2, _, _, _, _⟩, B4⟩ := HE.out
    refine bodyPost_ret (v := .tuple #[matV 0 0 (.slice none 0 0), .bool false]) (by simp [results, Try.results27, go_sem, z0, z1, z2]) rfl ?_
    exact ⟨rfl, B4⟩
open Classical in
noncomputable def cmR (rows cols : Int) (ts : List Tri) : Int := if OkC rows cols ts then rows else 0
open Classical in
noncomputable def cmC (rows cols : Int) (ts : List Tri) : Int := if OkC rows cols ts then cols else 0
open Classical in
noncomputable def cmZ (rows cols : Int) (ts : List Tri) : List Int := if OkC rows cols ts then putTo (rows * cols).toNat cols ts ts.length else []
open Classical in
noncomputable def cmB (rows cols : Int) (ts : List Tri) : Bool := decide (OkC rows cols ts)
section
variable (rows cols : Int) (A : Option Addr) (cap B : Nat) (ts : List Tri) (w : World) (hs : Sl w B A (fl ts)) (hB : B ≤ w.heap.size) (hn : ts.length ≤ 2000000)
include hs hB hn
theorem implCM_any : Calls Try.prog 24 #[.int .i64 rows, .int .i64 cols, .slice A ts.length cap] w fun e w' => ∃ s, e = .returned (.tuple #[matV (cmR rows cols ts) (cmC rows cols ts) s, .bool (cmB rows cols ts)]) ∧ Row w' w.heap.size w'.heap.size s (cmZ rows cols ts) ∧ Below w.heap.size w w' := by
  classical
  unfold cmR cmC cmZ cmB
  by_cases h : OkC rows cols ts
  · rw [if_pos h, if_pos h, if_pos h, decide_eq_true h]
    have := side_mul h.1 h.2.1
    exact implCM_yes rows cols A cap B _ ts w hs hB hn (by omega) h
  · rw [if_neg h, if_neg h, if_neg h, decide_eq_false h]
    exact (implCM_no rows cols A cap B ts w hs hB hn h).mono fun e w' ⟨h1, h2⟩ => ⟨_, h1, Row.nil_ _ _ _, h2⟩
theorem specCM_any : Calls Try.prog 27 #[.int .i64 rows, .int .i64 cols, .slice A ts.length cap] w fun e w' => ∃ s, e = .returned (.tuple #[matV (cmR rows cols ts) (cmC rows cols ts) s, .bool (cmB rows cols ts)]) ∧ Row w' w.heap.size w'.heap.size s (cmZ rows cols ts) ∧ Below w.heap.size w w' := by
  classical
  unfold cmR cmC cmZ cmB
  by_cases hside : (1 ≤ rows ∧ rows ≤ 5) ∧ (1 ≤ cols ∧ cols ≤ 5)
  · have := side_mul hside.1 hside.2
    refine (specCM_sides rows cols A cap B (rows * cols).toNat ts w hs hB hn (by omega) hside.1 hside.2).mono ?_
    rintro e w' ⟨hb, ⟨h, s, he, hr⟩ | ⟨h, he⟩⟩
    · rw [if_pos h, if_pos h, if_pos h, decide_eq_true h]
      exact ⟨s, he, hr, hb⟩
    · rw [if_neg h, if_neg h, if_neg h, decide_eq_false h]
      exact ⟨_, he, Row.nil_ _ _ _, hb⟩
  · have h : ¬ OkC rows cols ts := fun h => hside ⟨h.1, h.2.1⟩
    rw [if_neg h, if_neg h, if_neg h, decide_eq_false h]
    exact (specCM_out rows cols A cap ts.length w hside).mono fun e w' ⟨h1, h2⟩ => ⟨_, h1, Row.nil_ _ _ _, h2⟩
end
theorem cmZ_len (rows cols : Int) (ts : List Tri) : (cmZ rows cols ts).length ≤ 25 := by
  unfold cmZ
  split
  · next h =>
    rw [putTo_len]
    have := side_mul h.1 h.2.1
    omega
  · simp
end Go.Proofs.Ytdebnbgjnmoleaa
