/- Contract of the drawing function of tasks: the walk. -/
import Derived.Test.YtfkccdmjlopleaaDrawC
namespace Go.Proofs.Ytfkccdmjlopleaa
open Go.RowKit

theorem lit0V (w : World) : GRow (w.alloc (.cells #[] 29)) w.heap.size (w.heap.size + 1) 29 (.slice (some ⟨w.heap.size, 0, none⟩) 0 0) [] := ⟨World.ownsRow_lit w #[] 0 (Nat.le_refl _) (by simp [maxLen]) rfl, fun g hg => by simp [Value.ownBlock] at hg; omega⟩
theorem Small.snoc {m : Nat} {zss : List (List Int)} {zs : List Int} (h : Small m zss) (h1 : zss.length + 1 ≤ m) (h2 : zs.length ≤ m) : Small m (zss ++ [zs]) := by
  refine ⟨by simpa using h1, fun k hk => ?_⟩
  by_cases e : k < zss.length
  · rw [show at2 (zss ++ [zs]) k = at2 zss k by unfold at2; simp [List.getElem?_append, e]]
    exact h.2 k e
  · have ek : k = zss.length := by simp at hk; omega
    subst ek
    rw [show at2 (zss ++ [zs]) zss.length = zs by unfold at2; simp]
    exact h2
theorem small_nil (m : Nat) : Small m [] := ⟨by simp, fun k hk => absurd hk (by simp)⟩
theorem own_ne {a b : Option Nat} {lo : Nat} (ha : ∀ g, a = some g → lo ≤ g) (hb : ∀ g, b = some g → g < lo) : a = none ∨ a ≠ b := by
  cases h : a with
  | none => exact .inl rfl
  | some g => right; intro e; have := ha g h; have := hb g e.symm; omega

theorem at2_rep (n j : Nat) : at2 (List.replicate n ([] : List Int)) j = [] := by
  unfold at2
  rw [List.getD_eq_getElem?_getD, List.getElem?_replicate]
  split <;> rfl
theorem lit_row (w : World) (zs : List Int) (h : zs.length ≤ 1000) : Row (w.alloc (.cells (zs.map (Value.int .i64)).toArray 3)) w.heap.size (w.heap.size + 1) (.slice (some ⟨w.heap.size, 0, none⟩) zs.length zs.length) zs := by
  refine ⟨?_, fun g hg => by simp [Value.ownBlock] at hg; omega⟩
  exact World.ownsRow_lit w _ _ (Nat.le_refl _) (by simp only [maxLen]; omega) (by simp)
set_option maxHeartbeats 3200000 in
theorem l20Tasks_any (R N : Nat) (w : World) (hR : Rd w R N) (hN : N ≤ 1000) (n : Int) (n0 : 1 ≤ n) (n1 : n ≤ 1000) :
    Calls Try.prog 35 #[.pointer (some ⟨R, 0, none⟩), .int .i64 n] w fun e w' => ∃ (v : Value) (zss : List (List Int)) (A : Option Addr) (c : Nat), e = .returned v ∧ v = .slice A zss.length c ∧ zss.length ≤ c ∧ c ≤ maxLen ∧ SS w' w'.heap.size A zss ∧ Small 20 zss ∧ w.grownBy w' (some R) := by
  have hRlt := hR.lt
  go_enter Try.func35, Try.ntmps35
  go_wp2_with fail
  have hg0 := lit0V w
  refine (pick_pos R N 9 _ (hR.alloc _) (by omega) (by omega)).mono ?_
  rintro e w1 ⟨z, rfl, z0, z1, hR1, hg1⟩
  have hown1 := (hg0.grown hg1 (fun g hg => by cases hg; left; omega)).wider (Nat.le_refl _) (hi' := w1.heap.size) (by have := hg1.size; simp at this; omega)
  have hgr1 : w.grownBy w1 (some R) := gtrans (World.grownBy_alloc w _ _) hg1
  clear hg0 hg1
  obtain ⟨many, rfl⟩ := Int.eq_ofNat_of_zero_le z0
  have hm8 : many ≤ 8 := by omega
  go_wp2
  go_loopw [5, 7] (fun v i wr => ∃ (k : Nat) (vs : List Value) (zss : List (List Int)), k ≤ many ∧ i = .int .i64 k ∧ GRow wr w.heap.size wr.heap.size 29 v vs ∧ Inn wr w.heap.size v.ownBlock vs zss ∧ zss.length = k ∧ Small 15 zss ∧ Rd wr R (N + 10 + 10 * k) ∧ w.grownBy wr (some R)) (fun _ i _ => many - (intOf i).toNat)
  case atStart => exact ⟨0, [], [], by omega, rfl, hown1, ⟨rfl, fun j hj => absurd hj (by simp)⟩, rfl, small_nil _, hR1.more (by omega), hgr1⟩
  case round =>
    obtain ⟨k, vs, zss, hk, rfl, hown, hinn, hzl, hsm, hRr, hgr⟩ := hrel
    clear hown1 hgr1 hR1
    by_cases hlt : k < many
    · obtain ⟨wo, rfl⟩ : ∃ wo, wo = wr := ⟨_, rfl⟩
      have hl0 := lit0 wo
      have hsz0 := hgr.size
      have hvl := hinn.1
      obtain ⟨ov, hov⟩ : ∃ ov, u5 = ov := ⟨_, rfl⟩
      rw [hov] at hown hinn ⊢
      clear hov
      have HI := Lib.hid hinn
      have HO := Lib.hid hown
      have HSM := Lib.hid hsm
      have HZL := Lib.hid hzl
      have HVL := Lib.hid hvl
      clear hinn hown hsm hzl hvl
      go_wp2_with fail
      refine (pick_pos R _ 4 _ (hRr.alloc _) (by omega) (by omega)).mono ?_
      rintro e w2 ⟨z, rfl, z0, z1, hR2, hg2⟩
      obtain ⟨j0, rfl⟩ := Int.eq_ofNat_of_zero_le z0
      have hgA : wo.grownBy w2 (some R) := gtrans (World.grownBy_alloc wo _ _) hg2
      have hO2 := HO.out.grown hgA (fun g hg => by cases hg; left; omega)
      have hI2 := HI.out.grown hgA (fun g hg => by cases hg; omega)
      have hw2 := (hl0.grown hg2 (fun g hg => by cases hg; left; omega)).wider (Nat.le_refl _) (hi' := w2.heap.size) (by have := hg2.size; simp at this; omega)
      have hgr2 := gtrans hgr hgA
      have hsz2 := hgA.size
      clear hl0 hg2 hgA hRr hgr
      have HO2 := Lib.hid hO2
      have HI2 := Lib.hid hI2
      clear hO2 hI2
      go_wp2
      go_loopw [8, 9] (fun v i wr => ∃ (j : Nat) (ys : List Int), j ≤ 3 ∧ i = .int .i64 j ∧ Row wr wo.heap.size wr.heap.size v ys ∧ ys.length + j ≤ 3 ∧ GRow wr w.heap.size wo.heap.size 29 ov vs ∧ Inn wr w.heap.size ov.ownBlock vs zss ∧ Rd wr R (N + 10 + 10 * k + 5 - j) ∧ w.grownBy wr (some R) ∧ wo.heap.size ≤ wr.heap.size) (fun _ i _ => (intOf i).toNat)
      case atStart => exact ⟨j0, [], by omega, rfl, hw2, by simp; omega, HO2.out, HI2.out, hR2.more (by omega), hgr2, hsz2⟩
      case round =>
        obtain ⟨j, ys, hj, rfl, hrow, hyl, hO3, hI3, hR3, hgr3, hsz3⟩ := hrel
        clear hw2 hR2 hgr2 hsz2
        have HO3 := Lib.hid hO3
        have HI3 := Lib.hid hI3
        have HROW := Lib.hid hrow
        clear hO3 hI3 hrow
        by_cases hgo : 0 < j ∧ 0 < k
        · obtain ⟨hj0, hk0⟩ := hgo
          go_wp2_with fail
          refine (pick_pos R _ k _ hR3 (by omega) (by omega)).mono ?_
          rintro e w4 ⟨y, rfl, y0, y1, hR4, hg4⟩
          have hsz4 := hg4.size
          have hrow4 := (HROW.out.grown hg4 (fun g hg => by cases hg; left; omega)).wider (Nat.le_refl _) (hi' := w4.heap.size) hsz4
          have hlow := Lib.hid HROW.out.block_lt
          have hO4 := HO3.out.grown hg4 (fun g hg => by cases hg; left; omega)
          have hI4 := HI3.out.grown hg4 (fun g hg => by cases hg; omega)
          have hgr4 := gtrans hgr3 hg4
          have hal := (World.grownBy_alloc w4 (.cells #[.int .i64 y] 3) none)
          have hrowA := (hrow4.grown hal (fun g e => by cases e)).wider (Nat.le_refl _) (hi' := w4.heap.size + 1) (by omega)
          have hOA := Lib.hid (hO4.grown hal (fun g e => by cases e))
          have hIA := Lib.hid (hI4.grown hal (fun g e => by cases e))
          have hRA := hR4.alloc (.cells #[.int .i64 y] 3)
          have hgrA := gtrans hgr4 (World.grownBy_alloc w4 (.cells #[.int .i64 y] 3) (some R))
          clear hrow4 hO4 hI4 hal hgr4
          go_wp2_with (at_builtin; go_loud (refine wpList_app1 rfl (.tmp 29) (.tmp 33) rfl wo.heap.size (w4.heap.size + 1) _ ys rfl hrowA w4.heap.size y rfl (World.cell?_alloc_at _ _ _ _ rfl) (by omega) (by simp; omega) ?_); intro v' w5 hrow5 hgrow5)
          have hsz5 := hgrow5.size
          have hR5 := hRA.grown hgrow5 (fun e => by have := hlow.out R e.symm; omega) (fun b e => by have := hlow.out b e.symm; omega)
          have hO5 := hOA.out.grown hgrow5 (fun g e => .inr (hlow.out g e).1)
          have hI5 : Inn w5 w.heap.size ov.ownBlock vs zss := ⟨hIA.out.1, fun i hi => by
            obtain ⟨h1, h2⟩ := HI2.out.2 i hi
            obtain ⟨h3, h4⟩ := hIA.out.2 i hi
            have h5 : ∀ g, vs[i].ownBlock = some g → g < wo.heap.size := (HI.out.2 i hi).1.2
            refine ⟨(h3.kept' hgrow5 ?_).wider (Nat.le_refl _) hsz5, h4⟩
            cases hb : vs[i].ownBlock with
            | none => exact .inl rfl
            | some g => right; intro e; have := h5 g hb; have := (hlow.out g e.symm).1; omega⟩
          have hgr5 := grown_own hgrA hgrow5 (fun g e => by have := (hlow.out g e).1; omega)
          have HO5 := Lib.hid hO5
          have HI5 := Lib.hid hI5
          clear hO5 hI5 hOA hIA
          go_roundw
          case rel => exact ⟨j - 1, ys ++ [y], by omega, by go_num, hrow5, by simp; omega, HO5.out, HI5.out, hR5.more (by omega), hgr5, by simp at hsz5; omega⟩
          case measure => simp [intOf]; omega
        · rcases (show j = 0 ∨ (0 < j ∧ k = 0) by omega) with rfl | ⟨hj0, hk0⟩
          · skip
            have hrw := HROW.out
            obtain ⟨A8, c8, h8, h8a, h8b, _⟩ := hrw.form
            have hbl8 := hrw.block_lt
            rw [h8] at hrw hbl8 ⊢
            clear h8 HROW
            have hOA := HO3.out.grown (World.grownBy_alloc wr (.cells #[.slice A8 ys.length c8] 29) none) (fun g e => by cases e)
            have hIA := HI3.out.grown (World.grownBy_alloc wr (.cells #[.slice A8 ys.length c8] 29) none) (fun g e => by cases e)
            have hwA := hrw.grown (World.grownBy_alloc wr (.cells #[.slice A8 ys.length c8] 29) none) (fun g e => by cases e)
            have hRA := hR3.alloc (.cells #[.slice A8 ys.length c8] 29)
            have hgrA := gtrans hgr3 (World.grownBy_alloc wr (.cells #[.slice A8 ys.length c8] 29) (some R))
            have hblo := HO3.out.block_lt
            have hvl := HI3.out.1
            have hzl := HZL.out
            have hsA : (wr.alloc (.cells #[.slice A8 ys.length c8] 29)).heap.size = wr.heap.size + 1 := by simp
            have HIA := Lib.hid hIA
            have HWA := Lib.hid hwA
            have HBLO := Lib.hid hblo
            have HBL8 := Lib.hid hbl8
            clear hIA hwA hblo hbl8 hrw HO3 HI3
            go_wp2_with (at_builtin; go_loud (refine wpList_appV rfl (.tmp 35) (.tmp 37) rfl w.heap.size wo.heap.size _ vs rfl hOA ⟨wr.heap.size, 0, none⟩ 1 1 [.slice A8 ys.length c8] rfl rfl (fun j u hj => ?news) (by intro u hu; simp at hu; subst hu; rfl) (by omega) (by simp; omega) ?_); rotate_left; intro v' w5 hO5 hgrow5 hblk)
            case news => match j, hj with
              | 0, hj => simp at hj; subst hj; rw [add_at]; exact World.cell?_alloc_at _ _ _ _ rfl
            have hsz5 := hgrow5.size
            have hR5 := hRA.grown hgrow5 (fun e => by have := HBLO.out R e.symm; omega) (fun b e => by have := HBLO.out b e.symm; omega)
            have hI5 := HIA.out.written hgrow5 hblk
            have hgr5 := grown_own hgrA hgrow5 (fun g e => (HBLO.out g e).1)
            have hw5 : Row w5 w.heap.size w5.heap.size (.slice A8 ys.length c8) ys := by
              refine (HWA.out.kept' hgrow5 (own_ne (lo := wo.heap.size) (fun g h => (HBL8.out g h).1) (fun g h => (HBLO.out g h).2))).wider hsz0 ?_
              rw [hsA] at hsz5
              omega
            have hI6 := hI5.snoc hw5 (by
              rcases hblk with e | e
              · rw [e]; exact own_ne (lo := wo.heap.size) (fun g h => (HBL8.out g h).1) (fun g h => (HBLO.out g h).2)
              · rw [e]
                cases hb : (Value.slice A8 ys.length c8).ownBlock with
                | none => exact .inl rfl
                | some g => right; intro h; cases h; have := (HBL8.out _ hb).2; rw [hsA] at this; omega)
            have HI6 := Lib.hid hI6
            have HO5 := Lib.hid hO5
            clear hI6 hO5 hI5 HIA HWA
            go_roundw
            case rel => exact ⟨k + 1, vs ++ [_], zss ++ [ys], by omega, by go_num, HO5.out, HI6.out, by simp; omega, HSM.out.snoc (by omega) (by omega), hR5.more (by omega), hgr5⟩
            case measure => simp [intOf]; omega
          · skip
            have hrw := HROW.out
            obtain ⟨A8, c8, h8, h8a, h8b, _⟩ := hrw.form
            have hbl8 := hrw.block_lt
            rw [h8] at hrw hbl8 ⊢
            clear h8 HROW
            have hOA := HO3.out.grown (World.grownBy_alloc wr (.cells #[.slice A8 ys.length c8] 29) none) (fun g e => by cases e)
            have hIA := HI3.out.grown (World.grownBy_alloc wr (.cells #[.slice A8 ys.length c8] 29) none) (fun g e => by cases e)
            have hwA := hrw.grown (World.grownBy_alloc wr (.cells #[.slice A8 ys.length c8] 29) none) (fun g e => by cases e)
            have hRA := hR3.alloc (.cells #[.slice A8 ys.length c8] 29)
            have hgrA := gtrans hgr3 (World.grownBy_alloc wr (.cells #[.slice A8 ys.length c8] 29) (some R))
            have hblo := HO3.out.block_lt
            have hvl := HI3.out.1
            have hzl := HZL.out
            have hsA : (wr.alloc (.cells #[.slice A8 ys.length c8] 29)).heap.size = wr.heap.size + 1 := by simp
            have HIA := Lib.hid hIA
            have HWA := Lib.hid hwA
            have HBLO := Lib.hid hblo
            have HBL8 := Lib.hid hbl8
            clear hIA hwA hblo hbl8 hrw HO3 HI3
            go_wp2_with (at_builtin; go_loud (refine wpList_appV rfl (.tmp 35) (.tmp 37) rfl w.heap.size wo.heap.size _ vs rfl hOA ⟨wr.heap.size, 0, none⟩ 1 1 [.slice A8 ys.length c8] rfl rfl (fun j u hj => ?news) (by intro u hu; simp at hu; subst hu; rfl) (by omega) (by simp; omega) ?_); rotate_left; intro v' w5 hO5 hgrow5 hblk)
            case news => match j, hj with
              | 0, hj => simp at hj; subst hj; rw [add_at]; exact World.cell?_alloc_at _ _ _ _ rfl
            have hsz5 := hgrow5.size
            have hR5 := hRA.grown hgrow5 (fun e => by have := HBLO.out R e.symm; omega) (fun b e => by have := HBLO.out b e.symm; omega)
            have hI5 := HIA.out.written hgrow5 hblk
            have hgr5 := grown_own hgrA hgrow5 (fun g e => (HBLO.out g e).1)
            have hw5 : Row w5 w.heap.size w5.heap.size (.slice A8 ys.length c8) ys := by
              refine (HWA.out.kept' hgrow5 (own_ne (lo := wo.heap.size) (fun g h => (HBL8.out g h).1) (fun g h => (HBLO.out g h).2))).wider hsz0 ?_
              rw [hsA] at hsz5
              omega
            have hI6 := hI5.snoc hw5 (by
              rcases hblk with e | e
              · rw [e]; exact own_ne (lo := wo.heap.size) (fun g h => (HBL8.out g h).1) (fun g h => (HBLO.out g h).2)
              · rw [e]
                cases hb : (Value.slice A8 ys.length c8).ownBlock with
                | none => exact .inl rfl
                | some g => right; intro h; cases h; have := (HBL8.out _ hb).2; rw [hsA] at this; omega)
            have HI6 := Lib.hid hI6
            have HO5 := Lib.hid hO5
            clear hI6 hO5 hI5 HIA HWA
            go_roundw
            case rel => exact ⟨k + 1, vs ++ [_], zss ++ [ys], by omega, by go_num, HO5.out, HI6.out, by simp; omega, HSM.out.snoc (by omega) (by omega), hR5.more (by omega), hgr5⟩
            case measure => simp [intOf]; omega
    · skip
      have e : k = many := by omega
      subst e
      have hsz0 := hgr.size
      obtain ⟨ov, hov⟩ : ∃ ov, u5 = ov := ⟨_, rfl⟩
      rw [hov] at hown hinn ⊢
      clear hov
      have HSM := Lib.hid hsm
      have HO := Lib.hid hown
      have HI := Lib.hid hinn
      have hvl := hinn.1
      clear hsm hown hinn
      go_wp2_with fail
      refine (odd_any R _ n wr hRr (by omega) (by omega)).mono ?_
      rintro e w2 ⟨b, rfl, _, hR2, hg2⟩
      have hO2 := (HO.out.grown hg2 (fun g hg => by cases hg; left; omega)).wider (Nat.le_refl _) (hi' := w2.heap.size) hg2.size
      have hI2 := HI.out.grown hg2 (fun g hg => by cases hg; omega)
      have hgr2 := gtrans hgr hg2
      clear hg2 hgr HO HI hRr
      cases b with
      | false =>
        obtain ⟨A5, c5, rfl, h1, h2, h3⟩ := hI2.ss hO2 (Nat.le_refl _)
        have H3 := Lib.hid h3
        clear h3 hO2 hI2
        go_wp2
        go_ret
        exact ⟨_, zss, A5, c5, rfl, by rw [hzl]; rfl, h1, h2, H3.out, ⟨by have := HSM.out.1; omega, fun j hj => by have := HSM.out.2 j hj; omega⟩, hgr2⟩
      | true =>
        have HO2 := Lib.hid hO2
        have HI2 := Lib.hid hI2
        clear hO2 hI2
        go_wp2_with fail
        refine (pick_pos R _ 3 w2 hR2 (by omega) (by omega)).mono ?_
        rintro e w3 ⟨z, rfl, z0, z1, hR3, hg3⟩
        have hO3 := (HO2.out.grown hg3 (fun g hg => by cases hg; left; have := hgr2.size; omega)).wider (Nat.le_refl _) (hi' := w3.heap.size) hg3.size
        have hI3 := HI2.out.grown hg3 (fun g hg => by cases hg; have := hgr2.size; omega)
        have hgr3 := gtrans hgr2 hg3
        have HO3 := Lib.hid hO3
        have HI3 := Lib.hid hI3
        have hsz3 := hgr3.size
        clear hO3 hI3 hg3 hgr2 hR2 HO2 HI2
        by_cases e0 : z = 0
        · subst e0
          obtain ⟨Ao, co, hof, _, _⟩ := HO3.out.form
          rw [show vs.length = k by omega] at hof
          subst hof
          have HZL := Lib.hid hzl
          have HVL := Lib.hid hvl
          clear hzl hvl
          go_wp2_with fail
          refine (pick_pos R _ 2 _ (hR3.alloc _) (by omega) (by omega)).mono ?_
          rintro e w4 ⟨y, rfl, y0, y1, hR4, hg4⟩
          have hgA : w3.grownBy w4 (some R) := gtrans (World.grownBy_alloc w3 _ _) hg4
          have hO4 := (HO3.out.grown hgA (fun g hg => by cases hg; left; omega)).wider (Nat.le_refl _) (hi' := w4.heap.size) hgA.size
          have hI4 := HI3.out.grown hgA (fun g hg => by cases hg; omega)
          have hgr4 := gtrans hgr3 hgA
          have hsz4 := hgr4.size
          have hc0 : w4.cell? ⟨w3.heap.size, 0, none⟩ = some (.int .i64 (-1)) := hg4.cell (World.cell?_alloc_at _ _ _ _ rfl) (by simp; omega)
          have hc1 : w4.cell? ⟨w3.heap.size, 1, none⟩ = some (.int .i64 (k : Int)) := hg4.cell (World.cell?_alloc_at _ _ _ _ rfl) (by simp; omega)
          obtain ⟨yn, rfl⟩ := Int.eq_ofNat_of_zero_le y0
          obtain ⟨x, hx, hxk⟩ : ∃ x : Int, w4.cell? ⟨w3.heap.size, yn, none⟩ = some (.int .i64 x) ∧ True := by
            rcases (show yn = 0 ∨ yn = 1 by omega) with rfl | rfl
            · exact ⟨_, hc0, trivial⟩
            · exact ⟨_, hc1, trivial⟩
          have hw5 := lit_row w4 [x] (by simp)
          have hg5 := World.grownBy_alloc w4 (.cells #[.int .i64 x] 3) none
          have hO5 := (hO4.grown hg5 (fun g e => by cases e))
          have hI5 := hI4.grown hg5 (fun g e => by cases e)
          have hg6 := World.grownBy_alloc (w4.alloc (.cells #[.int .i64 x] 3)) (.cells #[.slice (some ⟨w4.heap.size, 0, none⟩) 1 1] 29) none
          have hO6 := hO5.grown hg6 (fun g e => by cases e)
          have hI6 := hI5.grown hg6 (fun g e => by cases e)
          have hw6 := (show Row (w4.alloc (.cells #[.int .i64 x] 3)) w4.heap.size (w4.heap.size + 1) (.slice (some ⟨w4.heap.size, 0, none⟩) 1 1) [x] from hw5).grown hg6 (fun g e => by cases e)
          have hgr6 := gtrans hgr4 (gtrans (World.grownBy_alloc w4 (.cells #[.int .i64 x] 3) (some R)) (World.grownBy_alloc (w4.alloc (.cells #[.int .i64 x] 3)) (.cells #[.slice (some ⟨w4.heap.size, 0, none⟩) 1 1] 29) (some R)))
          have HI6 := Lib.hid hI6
          have HW6 := Lib.hid hw6
          have hbo := Lib.hid hO4.block_lt
          have hyn : (yn : Int) < 2 := by omega
          clear hw5 hO5 hI5 hI6 hw6 hO4 hI4 hc0 hc1 HO3 HI3
          go_wp2_with (at_builtin; go_loud (refine wpList_appV rfl (.tmp 47) (.tmp 56) rfl w.heap.size w4.heap.size _ vs rfl hO6 ⟨w4.heap.size + 1, 0, none⟩ 1 1 [.slice (some ⟨w4.heap.size, 0, none⟩) 1 1] rfl rfl (fun j u hj => ?news) (by intro u hu; simp at hu; subst hu; rfl) (by have := HZL.out; have := HVL.out; omega) (by simp; omega) ?_); rotate_left; intro v' w7 hO7 hgrow7 hblk)
          case news => match j, hj with
            | 0, hj => simp at hj; subst hj; rw [add_at]; exact World.cell?_alloc_at _ _ _ _ (by simp)
          have hsz7 := hgrow7.size
          have hI7 := HI6.out.written hgrow7 hblk
          have hgr7 := grown_own hgr6 hgrow7 (fun g e => (hbo.out g e).1)
          have hw7 : Row w7 w.heap.size w7.heap.size (.slice (some ⟨w4.heap.size, 0, none⟩) 1 1) [x] := (HW6.out.kept' hgrow7 (own_ne (lo := w4.heap.size) (fun g h => by simp [Value.ownBlock] at h; omega) (fun g h => (hbo.out g h).2))).wider hsz4 (by simp at hsz7; omega)
          have hI8 := hI7.snoc hw7 (by
            rcases hblk with e | e
            · rw [e]; exact own_ne (lo := w4.heap.size) (fun g h => by simp [Value.ownBlock] at h; omega) (fun g h => (hbo.out g h).2)
            · rw [e]; right; intro h; simp [Value.ownBlock] at h; try omega)
          obtain ⟨A5, c5, h0, h1, h2, h3⟩ := hI8.ss hO7 (Nat.le_refl _)
          have H3 := Lib.hid h3
          subst h0
          have hzl := HZL.out
          have hl9 : (zss ++ [[x]]).length = k + 1 := by simp; omega
          have HL9 := Lib.hid hl9
          clear hI8 hI7 hw7 hO7 h3 hl9 hzl
          go_wp2
          go_ret
          exact ⟨_, zss ++ [[x]], A5, c5, rfl, rfl, h1, h2, H3.out, Small.snoc ⟨by have := HSM.out.1; omega, fun j hj => by have := HSM.out.2 j hj; omega⟩ (by have := HZL.out; omega) (by simp), hgr7⟩
        by_cases e1 : z = 1
        · subst e1
          have d0 : ((1 : Int) == 0) = false := by decide
          have hw5 := lit_row w3 [] (by simp)
          have hb5 := World.grownBy_alloc w3 (.cells #[] 3) none
          have hO5 := HO3.out.grown hb5 (fun g e => by cases e)
          have hI5 := HI3.out.grown hb5 (fun g e => by cases e)
          obtain ⟨w5, hw5e⟩ : ∃ w5, w3.alloc (.cells #[] 3) = w5 := ⟨_, rfl⟩
          have hs5 : w5.heap.size = w3.heap.size + 1 := by rw [← hw5e]; simp
          have hw6 := lit_row w5 [0, 0, 0, 0, 0] (by simp)
          rw [show ([] : List Int).map (Value.int .i64) = [] from rfl, show ([] : List Value).toArray = #[] from rfl, hw5e] at hw5
          rw [hw5e] at hb5 hO5 hI5
          have hb6 := World.grownBy_alloc w5 (.cells #[.int .i64 0, .int .i64 0, .int .i64 0, .int .i64 0, .int .i64 0] 3) none
          have hO6 := hO5.grown hb6 (fun g e => by cases e)
          have hI6 := hI5.grown hb6 (fun g e => by cases e)
          have hz6 := hw5.grown hb6 (fun g e => by cases e)
          obtain ⟨w6, hw6e⟩ : ∃ w6, w5.alloc (.cells #[.int .i64 0, .int .i64 0, .int .i64 0, .int .i64 0, .int .i64 0] 3) = w6 := ⟨_, rfl⟩
          have hs6 : w6.heap.size = w3.heap.size + 2 := by rw [← hw6e]; simp [hs5]
          rw [show ([0, 0, 0, 0, 0] : List Int).map (Value.int .i64) = [.int .i64 0, .int .i64 0, .int .i64 0, .int .i64 0, .int .i64 0] from rfl, show ([.int .i64 0, .int .i64 0, .int .i64 0, .int .i64 0, .int .i64 0] : List Value).toArray = #[.int .i64 0, .int .i64 0, .int .i64 0, .int .i64 0, .int .i64 0] from rfl, hw6e, hs5] at hw6
          rw [hw6e] at hO6 hI6 hz6 hb6
          have hb7 := World.grownBy_alloc w6 (.cells #[.slice (some ⟨w3.heap.size, 0, none⟩) 0 0, .slice (some ⟨w3.heap.size + 1, 0, none⟩) 5 5] 29) none
          have hO7 := hO6.grown hb7 (fun g e => by cases e)
          have hI7 := hI6.grown hb7 (fun g e => by cases e)
          have hz7 := hz6.grown hb7 (fun g e => by cases e)
          have hf7 := hw6.grown hb7 (fun g e => by cases e)
          have hgr7 := gtrans hgr3 (gtrans (gtrans (World.grownBy_alloc w3 (.cells #[] 3) (some R)) (hw5e ▸ hw6e ▸ World.grownBy_alloc w5 (.cells #[.int .i64 0, .int .i64 0, .int .i64 0, .int .i64 0, .int .i64 0] 3) (some R))) (World.grownBy_alloc w6 (.cells #[.slice (some ⟨w3.heap.size, 0, none⟩) 0 0, .slice (some ⟨w3.heap.size + 1, 0, none⟩) 5 5] 29) (some R)))
          have hbo := Lib.hid HO3.out.block_lt
          have HI7 := Lib.hid hI7
          have HZ7 := Lib.hid hz7
          have HF7 := Lib.hid hf7
          have hvk : vs.length ≤ 8 := by omega
          have HZL := Lib.hid hzl
          have HVL := Lib.hid hvl
          subst hw6e
          subst hw5e
          have hR7 := (((hR3.alloc (.cells #[] 3)).alloc (.cells #[.int .i64 0, .int .i64 0, .int .i64 0, .int .i64 0, .int .i64 0] 3)).alloc (.cells #[.slice (some ⟨w3.heap.size, 0, none⟩) 0 0, .slice (some ⟨w3.heap.size + 1, 0, none⟩) 5 5] 29))
          clear hw5 hw6 hO5 hO6 hI5 hI6 hI7 hz6 hz7 hf7 hb5 hb6 hb7 HO3 HI3 hzl hvl hs5 hs6
          go_wp2_with (at_builtin; go_loud (refine wpList_appV rfl (.tmp 60) (.tmp 63) rfl w.heap.size w3.heap.size _ vs rfl hO7 ⟨w3.heap.size + 2, 0, none⟩ 2 2 [.slice (some ⟨w3.heap.size, 0, none⟩) 0 0, .slice (some ⟨w3.heap.size + 1, 0, none⟩) 5 5] rfl rfl (fun j u hj => ?news) (by intro u hu; simp at hu; rcases hu with rfl | rfl <;> rfl) (by omega) (by simp; omega) ?_); rotate_left; intro v' w8 hO8 hgrow8 hblk)
          case news => match j, hj with
            | 0, hj => simp at hj; subst hj; rw [add_at]; exact World.cell?_alloc_at _ _ _ _ (by simp)
            | 1, hj => simp at hj; subst hj; rw [add_at]; exact World.cell?_alloc_at _ _ _ _ (by simp)
          have hsz8 := hgrow8.size
          have hI8 := HI7.out.written hgrow8 hblk
          have hgr8 := grown_own hgr7 hgrow8 (fun g e => (hbo.out g e).1)
          have hz8 : Row w8 w.heap.size w8.heap.size (.slice (some ⟨w3.heap.size, 0, none⟩) 0 0) [] := (HZ7.out.kept' hgrow8 (own_ne (lo := w3.heap.size) (fun g h => by simp [Value.ownBlock] at h; omega) (fun g h => (hbo.out g h).2))).wider hsz3 (by simp at hsz8; omega)
          have hf8 : Row w8 w.heap.size w8.heap.size (.slice (some ⟨w3.heap.size + 1, 0, none⟩) 5 5) [0, 0, 0, 0, 0] := (HF7.out.kept' hgrow8 (own_ne (lo := w3.heap.size) (fun g h => by simp [Value.ownBlock] at h; omega) (fun g h => (hbo.out g h).2))).wider (by omega) (by simp at hsz8; omega)
          have hI9 := (hI8.snoc hz8 (by
            rcases hblk with e | e
            · rw [e]; exact own_ne (lo := w3.heap.size) (fun g h => by simp [Value.ownBlock] at h; omega) (fun g h => (hbo.out g h).2)
            · rw [e]; right; intro h; simp [Value.ownBlock] at h; try omega)).snoc hf8 (by
            rcases hblk with e | e
            · rw [e]; exact own_ne (lo := w3.heap.size) (fun g h => by simp [Value.ownBlock] at h; omega) (fun g h => (hbo.out g h).2)
            · rw [e]; right; intro h; simp [Value.ownBlock] at h; try omega)
          rw [List.append_assoc] at hI9
          obtain ⟨A5, c5, h0, h1, h2, h3⟩ := hI9.ss hO8 (Nat.le_refl _)
          have H3 := Lib.hid h3
          subst h0
          clear hI8 hI9 hz8 hf8 hO8 h3
          go_wp2
          go_ret
          exact ⟨_, zss ++ [[]] ++ [[0, 0, 0, 0, 0]], A5, c5, rfl, rfl, h1, h2, H3.out, Small.snoc (Small.snoc ⟨by have := HSM.out.1; omega, fun j hj => by have := HSM.out.2 j hj; omega⟩ (by have := HZL.out; omega) (by simp)) (by have := HZL.out; simp; omega) (by simp), hgr8⟩
        · have d0 : (z == 0) = false := by simpa using e0
          have d1 : (z == 1) = false := by simpa using e1
          have hmk := fun wx => run_make_row' (P := Try.prog) 22 29 (.slice none 0 0) 24 Try.underlying22 info_ints rfl .i64 .i64 13 (by omega) (by omega) wx
          have hmk2 : ∀ wx, (Instr.makeSlice 22 (.int .i64 13) (.int .i64 13)).run Try.prog wx = .ok (.slice (some ⟨wx.heap.size, 0, none⟩) 13 13) (wx.alloc (.cells (madeCells #[.slice none 0 0] 13) 29)) := hmk
          clear hmk
          have hG := made_rowSS w3 13 (by omega)
          clear HO3 HI3
          go_wp2
          go_ret
          have hI : Inn (w3.alloc (.cells (madeCells #[Value.slice none 0 0] 13) 29)) w3.heap.size (Value.slice (some ⟨w3.heap.size, 0, none⟩) 13 13).ownBlock (List.replicate 13 (.slice none 0 0)) (List.replicate 13 []) := by
            refine ⟨by simp, fun j hj => ?_⟩
            rw [List.getElem_replicate]
            have hj' : j < 13 := by simpa using hj
            rw [at2_rep]
            exact ⟨Row.nil_ _ _ _, .inl rfl⟩
          obtain ⟨A5, c5, h0, h1, h2, h3⟩ := hI.ss hG (by simp)
          exact ⟨_, List.replicate 13 [], A5, c5, rfl, h0, h1, h2, h3, ⟨by simp, fun j hj => by rw [at2_rep]; simp⟩, gtrans hgr3 (World.grownBy_alloc _ _ _)⟩
end Go.Proofs.Ytfkccdmjlopleaa
