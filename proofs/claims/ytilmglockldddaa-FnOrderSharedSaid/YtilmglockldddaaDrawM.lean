/- Contracts of the drawing functions of matrices. -/
import Derived.Test.YtilmglockldddaaDrawSig
import Derived.Test.YtilmglockldddaaCameM
import Derived.Deep.RegionHeld3
import Derived.Deep.Cut
import Derived.Deep.CutRange
import Derived.Deep.DeepCutAuto
namespace Go.Proofs.Ytilmglockldddaa
open Go.RowKit

theorem nestD (w : World) (r c : Int) : ∀ W, W = (w.alloc (.cells #[.int .i64 0, .int .i64 0, .slice none 0 0] 33)).alloc (.cells #[.int .i64 r, .int .i64 c, .slice none 0 0] 33) →
    Cell3 W w.heap.size (.int .i64 0) (.int .i64 0) (.slice none 0 0) ∧ Cell3 W (w.heap.size + 1) (.int .i64 r) (.int .i64 c) (.slice none 0 0) ∧ W.heap.size = w.heap.size + 2 := by
  rintro W rfl
  have a := Cell3.new w (.int .i64 0) (.int .i64 0) (.slice none 0 0) 33
  have b := Cell3.new (w.alloc (.cells #[.int .i64 0, .int .i64 0, .slice none 0 0] 33)) (.int .i64 r) (.int .i64 c) (.slice none 0 0) 33
  simp only [World.size_alloc] at b
  exact ⟨a.alloc _, b, by simp⟩
theorem okR.append1 {zs : List Int} {k : Nat} {z : Int} (h : okR zs k) (hl : zs.length = k) (h1 : 0 ≤ z) (h2 : z ≤ 4095) : okR (zs ++ [z]) (k + 1) := fun j hj => by
  subst hl
  by_cases e : j = zs.length
  · subst e
    simp [List.getD_eq_getElem?_getD]
    omega
  · have := h j (by omega)
    simp only [List.getD_eq_getElem?_getD, List.getElem?_append_left (show j < zs.length by omega)] at this ⊢
    exact this
theorem mat_end {w X : World} {R M : Nat} {r c : Value} {s : Value} {zs : List Int} (hR : R < w.heap.size) (K0 : Cell3 X w.heap.size (.int .i64 0) (.int .i64 0) (.slice none 0 0)) (row : Row X (w.heap.size + 2) X.heap.size s zs) (hg : w.grownBy X (some R)) (hr : Rd X R M) :
    Cell3 (((X.setCell ⟨w.heap.size, 0, none⟩ r).setCell ⟨w.heap.size, 1, none⟩ c).setCell ⟨w.heap.size, 2, none⟩ s) w.heap.size r c s ∧
    Row (((X.setCell ⟨w.heap.size, 0, none⟩ r).setCell ⟨w.heap.size, 1, none⟩ c).setCell ⟨w.heap.size, 2, none⟩ s) w.heap.size (((X.setCell ⟨w.heap.size, 0, none⟩ r).setCell ⟨w.heap.size, 1, none⟩ c).setCell ⟨w.heap.size, 2, none⟩ s).heap.size s zs ∧
    w.grownBy (((X.setCell ⟨w.heap.size, 0, none⟩ r).setCell ⟨w.heap.size, 1, none⟩ c).setCell ⟨w.heap.size, 2, none⟩ s) (some R) ∧
    Rd (((X.setCell ⟨w.heap.size, 0, none⟩ r).setCell ⟨w.heap.size, 1, none⟩ c).setCell ⟨w.heap.size, 2, none⟩ s) R M := by
  refine ⟨((K0.set0 r).set1 c).set2 s, ?_, ?_, ?_⟩
  · exact (((row.grown (set_grown X w.heap.size 0 r) (fun g e => by cases e; left; omega)).grown (set_grown _ w.heap.size 1 c) (fun g e => by cases e; left; omega)).grown (set_grown _ w.heap.size 2 s) (fun g e => by cases e; left; omega)).wider (by omega) (by simp)
  · exact grown_own (grown_own (grown_own hg (set_grown X w.heap.size 0 r) (fun g e => by cases e; omega)) (set_grown _ w.heap.size 1 c) (fun g e => by cases e; omega)) (set_grown _ w.heap.size 2 s) (fun g e => by cases e; omega)
  · exact ((hr.grown (set_grown X w.heap.size 0 r) (by simp; omega) (fun b e => by cases e; omega)).grown (set_grown _ w.heap.size 1 c) (by simp; omega) (fun b e => by cases e; omega)).grown (set_grown _ w.heap.size 2 s) (by simp; omega) (fun b e => by cases e; omega)
set_option maxRecDepth 20000 in
set_option maxHeartbeats 3200000 in
theorem l20Matrix_any (R N rows columns : Nat) (n : Int) (w : World) (hR : Rd w R N) (hN : N ≤ 80000000) (hr1 : 1 ≤ rows) (hc1 : 1 ≤ columns) (hrw : rows ≤ 6) (hcl : columns ≤ 6) (n0 : 0 ≤ n) (n1 : n ≤ 1000) :
    Calls Try.prog 50 #[.pointer (some ⟨R, 0, none⟩), .int .i64 rows, .int .i64 columns, .int .i64 n] w fun e w' => ∃ (r c : Int) (s : Value) (zs : List Int), e = .returned (matV r c s) ∧ Row w' w.heap.size w'.heap.size s zs ∧ zs.length ≤ 37 ∧ -1 ≤ r ∧ r ≤ 6 ∧ 0 ≤ c ∧ c ≤ 7 ∧ w.grownBy w' (some R) ∧ Rd w' R (N + 40000) ∧ (n = 0 → r = rows ∧ c = columns ∧ zs.length = rows * columns ∧ okR zs zs.length) := by
  have hRlt := hR.lt
  obtain ⟨P, hP⟩ : ∃ P, rows * columns = P := ⟨_, rfl⟩
  have hP36 : P ≤ 36 := by subst hP; exact Nat.le_trans (Nat.mul_le_mul hrw hcl) (by omega)
  have hPi : (rows : Int) * (columns : Int) = (P : Int) := by rw [← hP]; simp
  have hP1 : 1 ≤ P := by subst hP; exact Nat.mul_pos hr1 hc1
  have HP := Lib.hid hP
  clear hP
  obtain ⟨W, hW⟩ : ∃ W, (w.alloc (.cells #[.int .i64 0, .int .i64 0, .slice none 0 0] 33)).alloc (.cells #[.int .i64 rows, .int .i64 columns, .slice none 0 0] 33) = W := ⟨_, rfl⟩
  obtain ⟨q0, q1, hws⟩ := nestD w rows columns W hW.symm
  have hgW : w.grownBy W (some R) := hW ▸ gtrans (World.grownBy_alloc _ _ _) (World.grownBy_alloc _ _ _)
  have hRW : Rd W R N := hW ▸ (hR.alloc _).alloc _
  have Q0 := Lib.hid q0
  have Q1 := Lib.hid q1
  clear hR q0 q1
  obtain ⟨b0, b1, b2, g0, g1, g2, blt⟩ := Q1.out
  go_enter Try.func50, Try.ntmps50
  go_wp2
  clear b0 b1 b2 g0 g1 g2 blt
  go_loopw [10] (fun i wr => ∃ (k : Nat) (sv : Value) (zs : List Int), k ≤ P ∧ i = .int .i64 k ∧ zs.length = k ∧ Cell3 wr w.heap.size (.int .i64 0) (.int .i64 0) (.slice none 0 0) ∧ Cell3 wr (w.heap.size + 1) (.int .i64 rows) (.int .i64 columns) sv ∧ Row wr (w.heap.size + 2) wr.heap.size sv zs ∧ okR zs k ∧ w.grownBy wr (some R) ∧ Rd wr R (N + 600 * k)) (fun i _ => P - (intOf i).toNat)
  case atStart =>
    exact ⟨0, _, [], Nat.zero_le _, rfl, rfl, Q0.out.far (a := ⟨w.heap.size + 1, 2, none⟩) (show w.heap.size ≠ w.heap.size + 1 by omega) _, Q1.out.set2 _, Row.nil_ _ _ _, okR_zero _, grown_own hgW (set_grown W (w.heap.size + 1) 2 _) (fun g e => by cases e; omega), hRW.grown (set_grown W (w.heap.size + 1) 2 _) (by simp; omega) (fun b e => by cases e; omega)⟩
  case round =>
    obtain ⟨k, sv, zs, hk, rfl, hzl, h0, h1, hrow, hok, hgr, hRr⟩ := hrel
    by_cases hlt : k < P
    · have H0 := Lib.hid h0
      have H1 := Lib.hid h1
      have HROW := Lib.hid hrow
      have HOK := Lib.hid hok
      have HZL := Lib.hid hzl
      have HG := Lib.hid hgr
      have HRR := Lib.hid hRr
      have hbl := Lib.hid hrow.block_lt
      have hlo := Lib.hid hgr.size
      have hblw := h1.lt
      have h7 : Ty.ok R (XD R R (fun _ v => v = sv)) TD wr.drew ⟨7, 1, 0, 0⟩ (.pointer (some ⟨w.heap.size + 1, 0, none⟩)) := by
        simp only [Ty.ok, Ty.ok0]
        simp
        exact ⟨by omega, sv, h1.c2, by simp [XD]⟩
      clear h0 h1 hrow hok hzl hgr hRr
      go_upto_region 5 with fail
      refine draw_region_tail (R := R) (B0 := R) (N := N + 600 * k) (E := fun _ v => v = sv) 90000000 30 450 [(41, pickG), (67, l1RingG), (68, l20RingG)] ⟨pick_sound _ 30 (by omega) (by omega), l1Ring_sound _ 30, l20Ring_sound _ 30 (by omega) (by omega), trivial⟩ [(0, Ty.rd), (9, ⟨7, 1, 0, 0⟩)] [(22, Ty.own 1), (35, ⟨4, 1, 0, 4095⟩)] (Nat.le_refl _) 15 (by kernel_rfl) (by omega) HRR.out ⟨ok_rd _ _ _ _, h7, trivial⟩ ?_
      intro w2 hg2 hR2
      simp only [List.take_succ_cons, List.take_zero, List.drop_succ_cons, List.drop_zero, Puts, Option.bind_some, envOf, List.find?, Nat.reduceBEq, Ty.own, Nat.reduceEqDiff, if_false]
      intro v21 v22 h22
      obtain rfl := of_ok_own (k := 0) h22
      intros
      rename_i v35 h35
      obtain ⟨g, z, rfl, hz, zlo, zhi⟩ := of_ok_one h35
      simp only [Act.put, List.setIfInBounds_toArray, List.set_cons_succ, List.set_cons_zero]
      have hs2 := hg2.size
      have hown2 := (HROW.out.grown hg2 (fun g' e => by cases e; left; omega)).wider (Nat.le_refl _) (hi' := w2.heap.size) hg2.size
      have K0 := Lib.hid (H0.out.grown hg2 (by simp; omega))
      have K1 := Lib.hid (H1.out.grown hg2 (by simp; omega))
      have hlow := HZL.out
      clear h22 h35 h7
      go_wp2_with (
        at_builtin
        go_loud (refine wpList_app1 rfl (.tmp 22) (.tmp 35) rfl (w.heap.size + 2) w2.heap.size v22 zs rfl hown2 g z rfl hz (by omega) (by omega) ?_)
        intro v' w3 hown3 hgrow3
        go_loud (
          obtain ⟨A5, c5, hv5, _, _, _⟩ := hown3.form
          rw [show (zs ++ [(z : Int)]).length = k + 1 by have := HZL.out; simp; omega] at hv5
          subst hv5
          have hne : ∀ b, b < w.heap.size + 2 → some b ≠ v22.ownBlock := fun b hb e => by have := (hbl.out b e.symm).1; omega
          have J0 := Lib.hid ((K0.out.grown hgrow3 (hne _ (by omega))).far (a := ⟨w.heap.size + 1, 2, none⟩) (show w.heap.size ≠ w.heap.size + 1 by omega) (.slice A5 (k + 1) c5))
          have J1 := K1.out.grown hgrow3 (hne _ (by omega))
          have J1' := Lib.hid (J1.set2 (.slice A5 (k + 1) c5))
          have JG := Lib.hid (grown_own (grown_own (gtrans HG.out hg2) hgrow3 (fun g e => by have := (hbl.out g e).1; omega)) (set_grown w3 (w.heap.size + 1) 2 (.slice A5 (k + 1) c5)) (fun g e => by cases e; omega))
          have JR := Lib.hid (hown3.grown (set_grown w3 (w.heap.size + 1) 2 (.slice A5 (k + 1) c5)) (fun g e => by cases e; left; omega))
          have JRd := Lib.hid ((hR2.grown hgrow3 (hne _ (by omega)) (fun b e => by have := (hbl.out b e.symm).1; omega)).grown (set_grown w3 (w.heap.size + 1) 2 (.slice A5 (k + 1) c5)) (by simp; omega) (fun b e => by cases e; omega))
          have hsz3 := hgrow3.size
          obtain ⟨v0, v1, v2, p0, p1, p2, vlt5⟩ := J1
          clear hown3 hgrow3 hne))
      go_roundw
      case rel => exact ⟨k + 1, _, zs ++ [z], by omega, by go_num, by have := HZL.out; simp; omega, J0.out, J1'.out, JR.out.wider (Nat.le_refl _) (by simp), HOK.out.append1 HZL.out zlo zhi, JG.out, JRd.out.more (by omega)⟩
      case measure => simp [intOf]; omega
    · have hkP : k = P := by omega
      subst hkP
      clear hlt
      obtain ⟨As, cs, rfl, _, _, _⟩ := hrow.form
      go_wp2_with fail
      refine (odd_any R (N + 600 * k) n wr hRr (by omega) (by omega)).mono ?_
      rintro e w2 ⟨b, rfl, hb0, hR2, hg2⟩
      have K1 := h1.grown hg2 (by simp; omega)
      have K0' := Lib.hid (h0.grown hg2 (by simp; omega))
      have KR := (hrow.grown hg2 (fun g' e => by cases e; left; omega)).wider (Nat.le_refl _) (hi' := w2.heap.size) hg2.size
      have KG := gtrans hgr hg2
      have KRd := hR2
      have hs2 := hg2.size
      have hsw := hgr.size
      have HOK := Lib.hid hok
      have HZL := Lib.hid hzl
      have hzl' : zs.length ≤ 36 := by omega
      clear h0 h1 hrow hgr hRr hg2 hR2 hok hzl
      cases b with
      | false =>
        obtain ⟨v0, v1, v2, p0, p1, p2, vl⟩ := K1
        have HE := Lib.hid (mat_end (r := .int .i64 rows) (c := .int .i64 columns) hRlt K0'.out KR KG KRd)
        obtain ⟨c0, c1, c2, q0, q1, q2, cl⟩ := K0'.out
        go_wp2
        obtain ⟨⟨z0, z1, z2, _, _, _, _⟩, e1, e2, e3⟩ := HE.out
        refine bodyPost_ret (v := matV rows columns (.slice As zs.length cs)) (by simp [results, Try.results50, go_sem, z0, z1, z2]) rfl ?_
        exact ⟨rows, columns, _, zs, rfl, e1, by omega, by omega, by omega, by omega, by omega, e2, e3.more (by omega), fun _ => ⟨rfl, rfl, by rw [HZL.out, HP.out], by rw [HZL.out]; exact HOK.out⟩⟩
      | true =>
        have hnn : ¬ n = 0 := fun e => by have := hb0 (by omega); cases this
        go_wp2_with fail
        refine (pick_pos R (N + 600 * k + 1) 4 w2 KRd (by omega) (by omega)).mono ?_
        rintro e w3 ⟨z, rfl, z0, z1, hR3, hg3⟩
        have L1 := K1.grown hg3 (by simp; omega)
        have L0' := Lib.hid (K0'.out.grown hg3 (by simp; omega))
        have LR := (KR.grown hg3 (fun g' e => by cases e; left; omega)).wider (Nat.le_refl _) (hi' := w3.heap.size) hg3.size
        have LG := gtrans KG hg3
        have hs3 := hg3.size
        clear K0' K1 KR KG KRd hg3
        by_cases e0 : z = 0
        · subst e0
          clear z0 z1
          go_upto_region 10 with fail
          refine draw_seq (R := R) (B0 := R) (N := N + 600 * k + 1 + 1) (E := fun _ _ => True) 1000000000000 1 6 [(41, pickG)] ⟨pick_sound _ 1 (by omega) (by omega), trivial⟩ [(0, Ty.rd)] [(57, Ty.int (-1) 6)] (Nat.le_refl _) 5 (by kernel_rfl) (by omega) hR3 ⟨ok_rd _ _ _ _, trivial⟩ ?_
          intro w4 hg4 hR4
          simp only [List.take_succ_cons, List.take_zero, List.drop_succ_cons, List.drop_zero, Puts, Option.bind_some, envOf, List.find?, Nat.reduceBEq, Ty.int, if_true]
          intros
          rename_i y ylo yhi
          simp only [Act.put, List.setIfInBounds_toArray, List.set_cons_succ, List.set_cons_zero]
          have M1 := L1.grown hg4 (by simp; omega)
          have M0' := Lib.hid ((L0'.out.grown hg4 (by simp; omega)).far (a := ⟨w.heap.size + 1, 0, none⟩) (show w.heap.size ≠ w.heap.size + 1 by omega) (.int .i64 y))
          have MR := ((LR.grown hg4 (fun g' e => by cases e; left; omega)).wider (Nat.le_refl _) (hi' := w4.heap.size) hg4.size).grown (set_grown w4 (w.heap.size + 1) 0 (.int .i64 y)) (fun g e => by cases e; left; omega)
          have MG := grown_own (gtrans LG hg4) (set_grown w4 (w.heap.size + 1) 0 (.int .i64 y)) (fun g e => by cases e; omega)
          have MRd := hR4.grown (set_grown w4 (w.heap.size + 1) 0 (.int .i64 y)) (by simp; omega) (fun b e => by cases e; omega)
          have M1' := Lib.hid (M1.set0 (.int .i64 y))
          have hs4 := hg4.size
          clear L0' L1 LR LG hR3 hg4 hR4
          have HE := Lib.hid (mat_end (r := .int .i64 y) (c := .int .i64 columns) hRlt M0'.out (MR.wider (Nat.le_refl _) (by simp)) MG MRd)
          obtain ⟨v0, v1, v2, p0, p1, p2, vl⟩ := M1
          obtain ⟨u0, u1, u2, r0, r1, r2, ul⟩ := M1'.out
          obtain ⟨c0, c1, c2, q0, q1, q2, cl⟩ := M0'.out
          clear MR MG MRd
          go_wp2
          obtain ⟨⟨z0, z1, z2, _, _, _, _⟩, e1, e2, e3⟩ := HE.out
          refine bodyPost_ret (v := matV y columns (.slice As zs.length cs)) (by simp [results, Try.results50, go_sem, z0, z1, z2]) rfl ?_
          exact ⟨y, columns, _, zs, rfl, e1, by omega, by omega, by omega, by omega, by omega, e2, e3.more (by omega), fun e => absurd e hnn⟩
        by_cases e1 : z = 1
        · subst e1
          clear z0 z1
          have M1 := L1
          have M1' := Lib.hid (L1.set1 (.int .i64 ((columns : Int) + 1)))
          have M0' := Lib.hid (L0'.out.far (a := ⟨w.heap.size + 1, 1, none⟩) (show w.heap.size ≠ w.heap.size + 1 by omega) (.int .i64 ((columns : Int) + 1)))
          have MR := LR.grown (set_grown w3 (w.heap.size + 1) 1 (.int .i64 ((columns : Int) + 1))) (fun g e => by cases e; left; omega)
          have MG := grown_own LG (set_grown w3 (w.heap.size + 1) 1 (.int .i64 ((columns : Int) + 1))) (fun g e => by cases e; omega)
          have MRd := hR3.grown (set_grown w3 (w.heap.size + 1) 1 (.int .i64 ((columns : Int) + 1))) (by simp; omega) (fun b e => by cases e; omega)
          clear L0' L1 LR LG hR3
          have HE := Lib.hid (mat_end (r := .int .i64 rows) (c := .int .i64 ((columns : Int) + 1)) hRlt M0'.out (MR.wider (Nat.le_refl _) (by simp)) MG MRd)
          obtain ⟨v0, v1, v2, p0, p1, p2, vl⟩ := M1
          obtain ⟨u0, u1, u2, r0, r1, r2, ul⟩ := M1'.out
          obtain ⟨c0, c1, c2, q0, q1, q2, cl⟩ := M0'.out
          clear MR MG MRd
          go_wp2
          obtain ⟨⟨z0, z1, z2, _, _, _, _⟩, e1, e2, e3⟩ := HE.out
          refine bodyPost_ret (v := matV rows ((columns : Int) + 1) (.slice As zs.length cs)) (by simp [results, Try.results50, go_sem, z0, z1, z2]) rfl ?_
          exact ⟨rows, ((columns : Int) + 1), _, zs, rfl, e1, by omega, by omega, by omega, by omega, by omega, e2, e3.more (by omega), fun e => absurd e hnn⟩
        by_cases e2 : z = 2
        · subst e2
          clear z0 z1 e0 e1
          have hal := World.grownBy_alloc w3 (.cells #[.int .i64 1] 3) none
          have hownA := (LR.grown hal (fun g e => by cases e)).wider (Nat.le_refl _) (hi' := w3.heap.size + 1) (by omega)
          have A1 := Lib.hid (L1.grown hal (by simp))
          have A0 := Lib.hid (L0'.out.grown hal (by simp))
          have AG := Lib.hid (gtrans LG (World.grownBy_alloc w3 (.cells #[.int .i64 1] 3) (some R)))
          have ARd := Lib.hid (hR3.alloc (.cells #[.int .i64 1] 3))
          have hbl := Lib.hid LR.block_lt
          obtain ⟨x0, x1, x2, y0, y1, y2, xl⟩ := L1
          obtain ⟨xa0, xa1, xa2, ya0, ya1, ya2, xal⟩ := A1.out
          clear L0' LR LG hR3 hal
          go_wp2_with (
            at_builtin
            go_loud (refine wpList_app1 rfl (.tmp 68) (.tmp 69) rfl (w.heap.size + 2) (w3.heap.size + 1) (.slice As zs.length cs) zs rfl hownA w3.heap.size 1 rfl (World.cell?_alloc_at _ _ _ _ rfl) (by omega) (by simp; omega) ?_)
            intro v' w4 hr4 hg4
            go_loud (
              obtain ⟨A5, c5, hv5, _, _, _⟩ := hr4.form
              rw [show (zs ++ [(1 : Int)]).length = k + 1 by have := HZL.out; simp; omega] at hv5
              subst hv5
              have hne : ∀ b, b < w.heap.size + 2 → some b ≠ (Value.slice As zs.length cs).ownBlock := fun b hb e => by have := (hbl.out b e.symm).1; omega
              have J1 := A1.out.grown hg4 (hne _ (by omega))
              have J1' := Lib.hid (J1.set2 (.slice A5 (k + 1) c5))
              have J0 := Lib.hid ((A0.out.grown hg4 (hne _ (by omega))).far (a := ⟨w.heap.size + 1, 2, none⟩) (show w.heap.size ≠ w.heap.size + 1 by omega) (.slice A5 (k + 1) c5))
              have JG := Lib.hid (grown_own (grown_own AG.out hg4 (fun g e => by have := (hbl.out g e).1; omega)) (set_grown w4 (w.heap.size + 1) 2 (.slice A5 (k + 1) c5)) (fun g e => by cases e; omega))
              have JR := Lib.hid (hr4.grown (set_grown w4 (w.heap.size + 1) 2 (.slice A5 (k + 1) c5)) (fun g e => by cases e; left; omega))
              have JRd := Lib.hid ((ARd.out.grown hg4 (hne _ (by omega)) (fun b e => by have := (hbl.out b e.symm).1; omega)).grown (set_grown w4 (w.heap.size + 1) 2 (.slice A5 (k + 1) c5)) (by simp; omega) (fun b e => by cases e; omega))
              have HE := Lib.hid (mat_end (r := .int .i64 rows) (c := .int .i64 columns) hRlt J0.out (JR.out.wider (Nat.le_refl _) (by simp)) JG.out JRd.out)
              obtain ⟨v0, v1, v2, p0, p1, p2, vl⟩ := J1
              obtain ⟨u0, u1, u2, r0, r1, r2, ul⟩ := J1'.out
              obtain ⟨c0, c1, c2, q0, q1, q2, cl⟩ := J0.out
              clear hr4 hg4 hne))
          obtain ⟨⟨z0, z1, z2, _, _, _, _⟩, e1, e2, e3⟩ := HE.out
          refine bodyPost_ret (v := matV rows columns (.slice A5 (k + 1) c5)) (by simp [results, Try.results50, go_sem, z0, z1, z2]) rfl ?_
          exact ⟨rows, columns, _, zs ++ [1], rfl, e1, by simp; omega, by omega, by omega, by omega, by omega, e2, e3.more (by omega), fun e => absurd e hnn⟩
        · have d0 : (z == 0) = false := by simpa using e0
          have d1 : (z == 1) = false := by simpa using e1
          have d2 : (z == 2) = false := by simpa using e2
          obtain ⟨g, rfl, hgl, hgh, hc, hf⟩ := LR.cell_ (j := 0) (by have := HZL.out; omega)
          clear e0 e1 e2 hc hf
          have hz1 : zs.length ≠ 0 := by have := HZL.out; omega
          go_upto_region 8 with fail
          refine draw_region_tail (R := R) (B0 := R) (N := N + 600 * k + 1 + 1) (E := fun _ v => v = .slice (some ⟨g, 0, none⟩) zs.length cs) 1000000000000 1 7 [(41, pickG)] ⟨pick_sound _ 1 (by omega) (by omega), trivial⟩ [(0, Ty.rd), (9, ⟨7, 1, 0, 0⟩)] [(44, Ty.own 1), (49, Ty.int (-1) 4096)] (Nat.le_refl _) 7 (by kernel_rfl) (by omega) hR3 ⟨ok_rd _ _ _ _, by
            simp only [Ty.ok, Ty.ok0]
            simp
            exact ⟨by omega, _, L1.c2, by simp [XD]⟩, trivial⟩ ?_
          intro w4 hg4 hR4
          simp only [List.take_succ_cons, List.take_zero, List.drop_succ_cons, List.drop_zero, Puts, Option.bind_some, envOf, List.find?, Nat.reduceBEq, Ty.own, Ty.int, Nat.reduceEqDiff, if_true, if_false]
          intro v43 v44 h44
          obtain rfl := of_ok_own (k := 0) h44
          intros
          rename_i y ylo yhi
          simp only [Act.put, List.setIfInBounds_toArray, List.set_cons_succ, List.set_cons_zero]
          clear h44
          have X1 := L1.grown hg4 (by simp; omega)
          have X0 := L0'.out.grown hg4 (by simp; omega)
          have X := (LR.grown hg4 (fun g' e => by cases e; left; omega)).wider (Nat.le_refl _) (hi' := w4.heap.size) hg4.size
          obtain ⟨g', e', _, _, hc, hf⟩ := X.cell_ (j := 0) (by have := HZL.out; omega)
          injection e' with e'
          injection e' with e'
          subst e'
          obtain ⟨x, hx⟩ : ∃ x, zs.getD 0 0 = x := ⟨_, rfl⟩
          rw [hx] at hc
          clear hx
          have XG := gtrans LG hg4
          have S := X.stored 0 y
          have S0 := Lib.hid (X0.grown S.2 (by simp; omega))
          have S1 := Lib.hid (X1.grown S.2 (by simp; omega))
          have SR := Lib.hid S.1
          have SG := Lib.hid (grown_own XG S.2 (fun g e => by cases e; omega))
          have SRd := Lib.hid (hR4.grown S.2 (by simp; omega) (fun b e => by cases e; omega))
          have HE := Lib.hid (mat_end (r := .int .i64 rows) (c := .int .i64 columns) hRlt S0.out (SR.out.wider (Nat.le_refl _) (by simp)) SG.out SRd.out)
          clear L1 LR LG hR3 hg4 X0 X1 X XG S
          obtain ⟨v0, v1, v2, p0, p1, p2, vl⟩ := S1.out
          obtain ⟨c0, c1, c2, q0, q1, q2, cl⟩ := S0.out
          go_wp2
          obtain ⟨⟨z0, z1, z2, _, _, _, _⟩, e1, e2, e3⟩ := HE.out
          refine bodyPost_ret (v := matV rows columns (.slice (some ⟨g, 0, none⟩) zs.length cs)) (by simp [results, Try.results50, go_sem, z0, z1, z2]) rfl ?_
          exact ⟨rows, columns, _, rfl, zs.set 0 y, e1, by simp; omega, by omega, by omega, by omega, by omega, e2, e3.more (by omega)⟩

def l20MatG : List Ty → Option Ty
  | [a, b, c, d] => if a.k = 1 ∧ (b.k = 3 ∧ 1 ≤ b.lo ∧ b.hi ≤ 6) ∧ (c.k = 3 ∧ 1 ≤ c.lo ∧ c.hi ≤ 6) ∧ (d.k = 3 ∧ 0 ≤ d.lo ∧ d.hi ≤ 1000) then some (Ty.own 0) else none
  | _ => none
theorem l20Mat_sound (L c : Nat) (hL : L ≤ 80000000) (hc1 : 40000 ≤ c) : Sound L c 50 l20MatG := by
  intro R B0 N E ts τ vs k w hg ha hB hJ hk
  unfold l20MatG at hg
  split at hg
  · rename_i a b c' d
    split at hg
    · rename_i hc
      injection hg with hg
      subst hg
      match vs, ha with
      | [u1, u2, u3, u4], ha =>
        obtain rfl := of_ok_rd ha.1 hc.1
        obtain ⟨m, rfl, hm1, hm2⟩ := of_ok_int ha.2.1 hc.2.1.1
        obtain ⟨m', rfl, hm1', hm2'⟩ := of_ok_int ha.2.2.1 hc.2.2.1.1
        obtain ⟨n, rfl, hn1, hn2⟩ := of_ok_int ha.2.2.2.1 hc.2.2.2.1
        obtain ⟨rows, rfl⟩ := Int.eq_ofNat_of_zero_le (show 0 ≤ m by omega)
        obtain ⟨columns, rfl⟩ := Int.eq_ofNat_of_zero_le (show 0 ≤ m' by omega)
        have hlt := hJ.1.lt
        refine ⟨fun w => enters Try.func50 (by kernel_rfl) rfl _ w, (l20Matrix_any R (N + c * k) rows columns n w hJ.1 (by have := hJ.small hk; omega) (by omega) (by omega) (by omega) (by omega) (by omega) (by omega)).mono ?_⟩
        rintro e w' ⟨r, cc, s, zs, rfl, hrow, h1, h2, h3, h4, h5, hgr, hr, _⟩
        refine ⟨_, rfl, ?_, hJ.next hr hc1, hgr⟩
        simp only [Ty.ok, Ty.ok0, Ty.own, XD]
        simp
        exact ⟨r, cc, s, zs, rfl, (hrow.wider (by omega) (Nat.le_refl _)).1, fun b e => by have := (hrow.block_lt b e).1; omega, h1, h2, h3, h4, h5⟩
    · cases hg
  · cases hg
theorem of_ok_mat {R B0 : Nat} {E : Nat → Value → Prop} {w : World} {v : Value} (h : (Ty.own 0).ok R (XD R B0 E) TD w v) : ∃ (r c : Int) (s : Value) (zs : List Int), v = matV r c s ∧ Row w B0 w.heap.size s zs ∧ zs.length ≤ 37 ∧ -1 ≤ r ∧ r ≤ 6 ∧ 0 ≤ c ∧ c ≤ 7 := by
  simp [Ty.ok, Ty.ok0, Ty.own, XD] at h
  obtain ⟨r, c, s, zs, rfl, h1, h2, h3⟩ := h
  exact ⟨r, c, s, zs, rfl, ⟨h1, fun g hg => (h1.lt g hg).2⟩, h3⟩

theorem l20Side_any (R N : Nat) (w : World) (hR : Rd w R N) (hN : N ≤ 80000000) :
    Calls Try.prog 49 #[.pointer (some ⟨R, 0, none⟩)] w fun e w' => ∃ s : Nat, e = .returned (.int .i64 s) ∧ 1 ≤ s ∧ s ≤ 5 ∧ w.grownBy w' (some R) ∧ Rd w' R (N + 20) := by
  have hRlt := hR.lt
  go_enter Try.func49, Try.ntmps49
  go_upto_region 1 with fail
  refine draw_seq (R := R) (B0 := R) (N := N) (E := fun _ _ => True) 1000000000000 1 9 [(41, pickG)] ⟨pick_sound _ 1 (by omega) (by omega), trivial⟩ [(0, Ty.rd)] [(11, Ty.int 1 5)] (Nat.le_refl _) 9 (by kernel_rfl) (by omega) hR ⟨ok_rd _ _ _ _, trivial⟩ ?_
  intro w2 hg2 hR2
  simp only [List.take_succ_cons, List.take_zero, List.drop_succ_cons, List.drop_zero, Puts, Option.bind_some, envOf, List.find?, Nat.reduceBEq, Ty.int, if_true]
  intros
  rename_i y ylo yhi
  obtain ⟨s, rfl⟩ := Int.eq_ofNat_of_zero_le (show 0 ≤ y by omega)
  simp only [Act.put, List.setIfInBounds_toArray, List.set_cons_succ, List.set_cons_zero]
  go_wp2
  go_ret
  exact ⟨s, by simp, by omega, by omega, hg2, hR2.more (by omega)⟩
end Go.Proofs.Ytilmglockldddaa
