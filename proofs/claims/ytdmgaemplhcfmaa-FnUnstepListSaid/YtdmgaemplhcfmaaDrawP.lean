/- Contracts of the drawing functions of lists of plain numbers and of steps. -/
import Derived.Test.YtdmgaemplhcfmaaDrawA
import Derived.Test.YtdmgaemplhcfmaaDrawSig
import Derived.Test.YtdmgaemplhcfmaaFnsB3
namespace Go.Proofs.Ytdmgaemplhcfmaa
open Go.RowKit

theorem lit0 (w : World) : Row (w.alloc (.cells #[] 3)) w.heap.size (w.heap.size + 1) (.slice (some ⟨w.heap.size, 0, none⟩) 0 0) [] := ⟨World.ownsRow_lit w #[] 0 (Nat.le_refl _) (by simp [maxLen]) rfl, fun g hg => by simp [Value.ownBlock] at hg; omega⟩
theorem Row.of_own {w : World} {lo : Nat} {v : Value} {zs : List Int} (h : w.ownsRow lo 3 1 v zs.length (zs.map (Value.int .i64))) : Row w lo w.heap.size v zs := ⟨h, fun g hg => (h.lt g hg).2⟩

set_option maxHeartbeats 800000 in
theorem l20Plain_any (R N : Nat) (n : Int) (w : World) (hR : Rd w R N) (hN : N ≤ 1000) (n0 : 1 ≤ n) (n1 : n ≤ 1000) :
    Calls Try.prog 42 #[.pointer (some ⟨R, 0, none⟩), .int .i64 n] w fun e w' => ∃ (v : Value) (zs : List Int), e = .returned v ∧ Row w' w.heap.size w'.heap.size v zs ∧ zs.length ≤ 21 ∧ w.grownBy w' (some R) ∧ Rd w' R (N + 400) := by
  have hRlt := hR.lt
  go_enter Try.func42, Try.ntmps42
  go_wp2_with fail
  have hown0 := lit0 w
  refine (pick_pos R N 8 _ (hR.alloc _) (by omega) (by omega)).mono ?_
  rintro e w1 ⟨z, rfl, z0, z1, hR1, hg1⟩
  have hown1 := (hown0.grown hg1 (fun g hg => by cases hg; left; omega)).wider (Nat.le_refl _) (hi' := w1.heap.size) (by have := hg1.size; simp at this; omega)
  have hgr1 : w.grownBy w1 (some R) := gtrans (World.grownBy_alloc w _ _) hg1
  clear hown0 hg1
  obtain ⟨k0, rfl⟩ := Int.eq_ofNat_of_zero_le z0
  go_wp2
  go_loopw [5, 6] (fun v i wr => ∃ (k : Nat) (zs : List Int), k ≤ 8 ∧ i = .int .i64 k ∧ Row wr w.heap.size wr.heap.size v zs ∧ zs.length + k ≤ 8 ∧ 1 ≤ zs.length + k ∧ Rd wr R (N + 200 - 20 * k) ∧ w.grownBy wr (some R)) (fun _ i _ => (intOf i).toNat)
  case atStart => exact ⟨k0 + 1, [], by omega, by go_num, hown1, by simp; omega, by simp, hR1.more (by omega), hgr1⟩
  case round =>
    obtain ⟨k, zs, hk, rfl, hown, hlen, hne, hRr, hgr⟩ := hrel
    clear hown1 hgr1 hR1
    by_cases hlt : 0 < k
    · go_upto_region 5 with fail
      refine draw_seq (R := R) (B0 := R) (N := N + 200 - 20 * k) (E := fun _ v => v = u5) 1000000000000 1 17 [(51, pickG)] ⟨pick_sound _ 1 (by omega) (by omega), trivial⟩ [(0, Ty.rd), (5, Ty.own 1)] [(15, Ty.own 1), (31, ⟨4, 1, -10000, 10000⟩)] (Nat.le_refl _) 17 (by kernel_rfl) (by omega) hRr ⟨ok_rd _ _ _ _, ok_own 0 rfl, trivial⟩ ?_
      intro w2 hg2 hR2
      simp only [List.take_succ_cons, List.take_zero, List.drop_succ_cons, List.drop_zero, Puts, Option.bind_some, envOf, List.find?, Nat.reduceBEq, Ty.own, Nat.reduceEqDiff, if_true, if_false]
      intro v12 h12
      obtain rfl := of_ok_own (k := 0) h12
      intros
      rename_i v23 h23
      obtain ⟨g, z, rfl, hz, zlo, zhi⟩ := of_ok_one h23
      simp only [Act.put, List.setIfInBounds_toArray, List.set_cons_succ, List.set_cons_zero]
      have hlow := Lib.hid (fun g' (hg' : v12.ownBlock = some g') => hown.block_lt g' hg')
      have hown2 := (hown.grown hg2 (fun g' e => by cases e; left; omega)).wider (Nat.le_refl _) (hi' := w2.heap.size) hg2.size
      clear h12 h23 hown
      have hgr2 := gtrans hgr hg2
      have hsz := hgr2.size
      go_wp2_with (at_builtin; go_loud (refine wpList_app1 rfl (.tmp 15) (.tmp 31) rfl w.heap.size w2.heap.size v12 zs rfl hown2 g z rfl hz (by omega) (by omega) ?_); intro v' w3 hown3 hgrow3)
      go_roundw
      case rel =>
        refine ⟨k - 1, zs ++ [z], by omega, by go_num, hown3, by simp; omega, by simp; omega, (hR2.grown hgrow3 (fun e => ?_) (fun b e => ?_)).more (by omega), grown_own hgr2 hgrow3 (fun g e => (hlow.out g e).1)⟩
        · have := hlow.out R e.symm; omega
        · have := hlow.out b e.symm; omega
      case measure => simp [intOf]; omega
    · have hk0 : k = 0 := by omega
      subst hk0
      have hlow := Lib.hid (fun g' (hg' : u5.ownBlock = some g') => hown.block_lt g' hg')
      go_wp2_with fail
      refine (odd_any R (N + 200) n wr (by simpa using hRr) (by omega) (by omega)).mono ?_
      rintro e w2 ⟨b, rfl, _, hR2, hg2⟩
      have hown2 := (hown.grown hg2 (fun g' e => by cases e; left; omega)).wider (Nat.le_refl _) (hi' := w2.heap.size) hg2.size
      have hgr2 := gtrans hgr hg2
      have hsz2 := hg2.size
      clear hown hg2 hgr hRr
      cases b with
      | false =>
        go_wp2
        go_ret
        exact ⟨u5, zs, rfl, hown2, by omega, hgr2, hR2.more (by omega)⟩
      | true =>
        go_wp2_with fail
        refine (pick_pos R (N + 200 + 1) 3 w2 hR2 (by omega) (by omega)).mono ?_
        rintro e w3 ⟨z, rfl, z0, z1, hR3, hg3⟩
        have hown3 := (hown2.grown hg3 (fun g' e => by cases e; left; omega)).wider (Nat.le_refl _) (hi' := w3.heap.size) hg3.size
        have hgr3 := gtrans hgr2 hg3
        have hsz3 := hg3.size
        have hszw := hgr3.size
        clear hown2 hg3 hgr2 hR2
        by_cases e0 : z = 0
        · subst e0
          go_wp2
          go_ret
          exact ⟨_, [], rfl, (lit0 w3).wider (by omega) (by simp), by simp, gtrans hgr3 (World.grownBy_alloc _ _ _), (hR3.alloc _).more (by omega)⟩
        by_cases e1 : z = 1
        · subst e1
          have hmk := fun wx => run_make_row' (P := Try.prog) 22 3 (.int .i64 0) 8 Try.underlying22 info_int rfl .i64 .i64 21 (by omega) (by omega) wx
          have hmk2 : ∀ wx, (Instr.makeSlice 22 (.int .i64 21) (.int .i64 21)).run Try.prog wx = .ok (.slice (some ⟨wx.heap.size, 0, none⟩) 21 21) (wx.alloc (.cells (madeCells #[.int .i64 0] 21) 3)) := hmk
          clear hmk
          have hm := (made_row w3 21 (by omega)).wider (lo' := w.heap.size) (hi' := w3.heap.size + 1) (by omega) (Nat.le_refl _)
          go_wp2
          go_ret
          exact ⟨_, List.replicate 21 0, rfl, hm.wider (Nat.le_refl _) (by simp), by simp, gtrans hgr3 (World.grownBy_alloc _ _ _), (hR3.alloc _).more (by omega)⟩
        · have hz1 : zs.length ≠ 0 := by omega
          have d0 : (z == 0) = false := by simpa using e0
          have d1 : (z == 1) = false := by simpa using e1
          go_upto_region 8 with fail
          refine draw_seq (R := R) (B0 := R) (N := N + 200 + 1 + 1) (E := fun _ v => v = u5) 1000000000000 1 6 [(51, pickG)] ⟨pick_sound _ 1 (by omega) (by omega), trivial⟩ [(0, Ty.rd), (5, Ty.own 1)] [(38, Ty.own 1), (43, Ty.int (-10001) 10001)] (Nat.le_refl _) 6 (by kernel_rfl) (by omega) hR3 ⟨ok_rd _ _ _ _, ok_own 0 rfl, trivial⟩ ?_
          intro w4 hg4 hR4
          simp only [List.take_succ_cons, List.take_zero, List.drop_succ_cons, List.drop_zero, Puts, Option.bind_some, envOf, List.find?, Nat.reduceBEq, Ty.own, Ty.int, Nat.reduceEqDiff, if_true, if_false]
          intro v12 h12
          obtain rfl := of_ok_own (k := 0) h12
          intros
          rename_i y ylo yhi
          simp only [Act.put, List.setIfInBounds_toArray, List.set_cons_succ, List.set_cons_zero]
          have hown4 := (hown3.grown hg4 (fun g' e => by cases e; left; omega)).wider (Nat.le_refl _) (hi' := w4.heap.size) hg4.size
          have hgr4 := gtrans hgr3 hg4
          obtain ⟨A5, c5, rfl, _, _, _⟩ := hown4.form
          obtain ⟨g, rfl, hgl, hgh, hc, hf⟩ := hown4.cell_ (j := 0) (by omega)
          obtain ⟨x, hx⟩ : ∃ x, zs.getD 0 0 = x := ⟨_, rfl⟩
          rw [hx] at hc
          have S := Lib.hid (hown4.stored 0 y)
          clear h12 hown3 hown4 hx
          go_wp2
          go_ret
          have S := S.out
          have h5 := grown_own hgr4 S.2 (fun g' e => by cases e; omega)
          refine ⟨_, zs.set 0 y, rfl, S.1.wider (Nat.le_refl _) (by simp), by simp; omega, h5, (hR4.grown S.2 (fun e => by cases e; omega) (fun b e => by cases e; omega)).more (by omega)⟩

theorem l20Step_any (R N : Nat) (w : World) (hR : Rd w R N) (hN : N ≤ 1000) :
    Calls Try.prog 50 #[.pointer (some ⟨R, 0, none⟩)] w fun e w' => ∃ (s : Int), e = .returned (.int .i64 s) ∧ 0 ≤ s ∧ s ≤ 101 ∧ w.grownBy w' (some R) ∧ Rd w' R (N + 20) := by
  have hRlt := hR.lt
  go_enter Try.func50, Try.ntmps50
  go_upto_region 1 with fail
  refine draw_seq (R := R) (B0 := R) (N := N) (E := fun _ _ => True) 1000000000000 1 11 [(51, pickG)] ⟨pick_sound _ 1 (by omega) (by omega), trivial⟩ [(0, Ty.rd)] [(13, Ty.int 0 101)] (Nat.le_refl _) 11 (by kernel_rfl) (by omega) hR ⟨ok_rd _ _ _ _, trivial⟩ ?_
  intro w2 hg2 hR2
  simp only [List.take_succ_cons, List.take_zero, List.drop_succ_cons, List.drop_zero, Puts, Option.bind_some, envOf, List.find?, Nat.reduceBEq, Ty.own, Ty.int, Nat.reduceEqDiff, if_true, if_false]
  intros
  rename_i y ylo yhi
  simp only [Act.put, List.setIfInBounds_toArray, List.set_cons_succ, List.set_cons_zero]
  go_wp2
  go_ret
  exact ⟨_, rfl, ylo, yhi, hg2, hR2.more (by omega)⟩
end Go.Proofs.Ytdmgaemplhcfmaa
