/- Contracts of the drawing functions of lists of told numbers. -/
import Derived.Test.YtjmchblfihnhjaaDrawB
import Derived.Test.YtjmchblfihnhjaaLists
namespace Go.Proofs.Ytjmchblfihnhjaa
open Go.RowKit

set_option maxHeartbeats 400000 in
theorem l20Told_any (R N : Nat) (w : World) (hR : Rd w R N) (hN : N ≤ 1000) :
    Calls Try.prog 30 #[.pointer (some ⟨R, 0, none⟩)] w fun e w' => ∃ (v : Value) (zs : List Int), e = .returned v ∧ w'.ownsRow w.heap.size 3 1 v zs.length (zs.map (Value.int .i64)) ∧ zs.length ≤ 8 ∧ (∀ z ∈ zs, -1 ≤ z ∧ z ≤ 2147483647) ∧ w.grownBy w' (some R) := by
  obtain ⟨i0, hi, hz0, hz1, hz2⟩ := info_parts info_int
  have hRlt := hR.lt
  go_enter Try.func30, Try.ntmps30
  go_wp2_with fail
  have hown0 : (w.alloc (.cells #[] 3)).ownsRow w.heap.size 3 1 (.slice (some ⟨w.heap.size, 0, none⟩) 0 0) 0 [] := World.ownsRow_lit w #[] 0 (Nat.le_refl _) (by simp [maxLen]) rfl
  refine (pick_pos R N 8 _ (hR.alloc _) (by omega) (by omega)).mono ?_
  rintro e w1 ⟨z, rfl, z0, z1, hR1, hg1⟩
  have hown1 := hown0.kept hg1 (by right; simp [Value.ownBlock]; omega)
  have hgr1 : w.grownBy w1 (some R) := gtrans (World.grownBy_alloc w _ _) hg1
  clear hown0 hg1
  obtain ⟨k0, rfl⟩ := Int.eq_ofNat_of_zero_le z0
  go_wp2
  go_loopw [3, 4] (fun v i wr => ∃ (k : Nat) (zs : List Int), k ≤ 7 ∧ i = .int .i64 k ∧ wr.ownsRow w.heap.size 3 1 v zs.length (zs.map (Value.int .i64)) ∧ zs.length + k ≤ 7 ∧ (∀ z ∈ zs, -1 ≤ z ∧ z ≤ 2147483647) ∧ Rd wr R (N + 200 - 20 * k) ∧ w.grownBy wr (some R)) (fun _ i _ => (intOf i).toNat)
  case atStart => exact ⟨k0, [], by omega, rfl, hown1, by simp; omega, by simp, hR1.more (by omega), hgr1⟩
  case round =>
    obtain ⟨k, zs, hk, rfl, hown, hlen, hall, hRr, hgr⟩ := hrel
    clear hown1 hgr1 hR1
    by_cases hlt : 0 < k
    · go_upto_region 5 with fail
      refine draw_seq (R := R) (B0 := R) (N := N + 200 - 20 * k) (E := fun _ v => v = u3) 1000000000000 1 12 [(27, pickG)] ⟨pick_sound _ 1 (by omega) (by omega), trivial⟩ [(0, Ty.rd), (3, Ty.own 1)] [(12, Ty.own 1), (23, ⟨4, 1, 0, 2147483646⟩)] (Nat.le_refl _) 12 (by kernel_rfl) (by omega) hRr ⟨ok_rd _ _ _ _, ok_own 0 rfl, trivial⟩ ?_
      intro w2 hg2 hR2
      simp only [List.take_succ_cons, List.take_zero, List.drop_succ_cons, List.drop_zero, Puts, Option.bind_some, envOf, List.find?, Nat.reduceBEq, Ty.own, Nat.reduceEqDiff, if_true, if_false]
      intro v12 h12
      obtain rfl := of_ok_own (k := 0) h12
      intros
      rename_i v23 h23
      obtain ⟨g, z, rfl, hz, zlo, zhi⟩ := of_ok_one h23
      simp only [Act.put, List.setIfInBounds_toArray, List.set_cons_succ, List.set_cons_zero]
      have hown2 := hown.kept hg2 (by
        rcases hv : v12.ownBlock with _ | g'
        · exact .inl rfl
        · right; rw [Ne, Option.some.injEq]; have := (hown.lt g' hv).1; omega)
      clear h12 h23 hown
      have hgr2 := gtrans hgr hg2
      have hlow := Lib.hid (fun g' (hg' : v12.ownBlock = some g') => (hown2.lt g' hg').1)
      go_wp2_with (at_builtin; refine wpList_append_own _ rfl (.tmp 12) (.tmp 23) 29 rfl w.heap.size 3 i0 (.int .i64 0) 1 8 Try.underlying29 hi hz0 hz1 hz2 rfl (by decide) v12 zs.length _ rfl hown2 ⟨g, 0, none⟩ 1 1 [.int .i64 z] rfl rfl (news_one hz) (by intro u hu; simp at hu; subst hu; rfl) (by simp only [maxLen]; omega) (by omega) (by have := hgr2.size; omega) ?_; intro v' w3 hown3 hgrow3 _)
      go_roundw
      case rel =>
        refine ⟨k - 1, zs ++ [z], by omega, by go_num, by simpa using hown3, by simp; omega, ?_, (hR2.grown hgrow3 (fun e => ?_) (fun b e => ?_)).more (by omega), grown_own hgr2 hgrow3 hlow.out⟩
        · intro y hy
          rcases List.mem_append.1 hy with hy | hy
          · exact hall y hy
          · simp at hy; omega
        · have := hlow.out R e.symm; omega
        · have := hlow.out b e.symm; omega
      case measure => simp [intOf]; omega
    · have hk0 : k = 0 := by omega
      subst hk0
      have hlow := Lib.hid (fun g' (hg' : u3.ownBlock = some g') => (hown.lt g' hg').1)
      go_wp2_with fail
      refine (odd_any R (N + 200) 9 wr (by simpa using hRr) (by omega) (by omega)).mono ?_
      rintro e w2 ⟨b, rfl, _, hR2, hg2⟩
      have hown2 := hown.kept hg2 (by
        rcases hv : u3.ownBlock with _ | g'
        · exact .inl rfl
        · right; rw [Ne, Option.some.injEq]; have := hlow.out g' hv; omega)
      have hgr2 := gtrans hgr hg2
      clear hown hg2 hgr hRr
      cases b with
      | false =>
        go_wp2
        go_ret
        exact ⟨u3, zs, rfl, hown2, by omega, hall, hgr2⟩
      | true =>
        go_upto_region 7 with fail
        refine draw_seq (R := R) (B0 := R) (N := N + 200 + 1) (E := fun _ v => v = u3) 1000000000000 1 12 [(27, pickG)] ⟨pick_sound _ 1 (by omega) (by omega), trivial⟩ [(0, Ty.rd), (3, Ty.own 1)] [(27, Ty.own 1), (33, ⟨4, 1, -1, 2147483647⟩)] (Nat.le_refl _) 7 (by kernel_rfl) (by omega) hR2 ⟨ok_rd _ _ _ _, ok_own 0 rfl, trivial⟩ ?_
        intro w3 hg3 hR3
        simp only [List.take_succ_cons, List.take_zero, List.drop_succ_cons, List.drop_zero, Puts, Option.bind_some, envOf, List.find?, Nat.reduceBEq, Ty.own, Nat.reduceEqDiff, if_true, if_false]
        intro v12 h12
        obtain rfl := of_ok_own (k := 0) h12
        intros
        rename_i v23 h23
        obtain ⟨g, z, rfl, hz, zlo, zhi⟩ := of_ok_one h23
        simp only [Act.put, List.setIfInBounds_toArray, List.set_cons_succ, List.set_cons_zero]
        have hown3 := hown2.kept hg3 (by
          rcases hv : v12.ownBlock with _ | g'
          · exact .inl rfl
          · right; rw [Ne, Option.some.injEq]; have := hlow.out g' hv; omega)
        clear h12 h23 hown2
        have hgr3 := gtrans hgr2 hg3
        go_wp2_with (at_builtin; refine wpList_append_own _ rfl (.tmp 27) (.tmp 33) 29 rfl w.heap.size 3 i0 (.int .i64 0) 1 8 Try.underlying29 hi hz0 hz1 hz2 rfl (by decide) v12 zs.length _ rfl hown3 ⟨g, 0, none⟩ 1 1 [.int .i64 z] rfl rfl (news_one hz) (by intro u hu; simp at hu; subst hu; rfl) (by simp only [maxLen]; omega) (by omega) (by have := hgr3.size; omega) ?_; intro v' w4 hown4 hgrow4 _)
        go_ret
        refine ⟨v', zs ++ [z], rfl, by simpa using hown4, by simp; omega, ?_, grown_own hgr3 hgrow4 hlow.out⟩
        intro y hy
        rcases List.mem_append.1 hy with hy | hy
        · exact hall y hy
        · simp at hy; omega

theorem drawTO_any (A : Option Addr) (n c : Nat) (w : World) (hn : n ≤ 1048576) (hnc : n ≤ c) (hcm : c ≤ maxLen) (hc : Code8 w A n) :
    Calls Try.prog 17 #[.slice A n c] w fun e w' => ∃ (v : Value) (zs : List Int), e = .returned v ∧ Row w' w.heap.size w'.heap.size v zs ∧ zs.length ≤ 2001 ∧ (∀ z ∈ zs, -1 ≤ z ∧ z ≤ 2147483647) ∧ Below w.heap.size w w' := by
  go_enter Try.func17, Try.ntmps17
  go_wp2_with fail
  refine (open_any A n c w hn hnc hcm hc).mono ?_
  rintro e w1 ⟨rfl, hR, hb⟩
  go_wp2_with fail
  refine (odd_any w.heap.size 0 24 w1 hR (by omega) (by omega)).mono ?_
  rintro e w2 ⟨b, rfl, _, hR2, hg2⟩
  have hb2 := hb.grown hg2 hb.size (fun k hk => by cases hk; exact Nat.le_refl _)
  clear hg2 hR hb
  cases b with
  | false =>
    go_wp2_with fail
    refine (l20Told_any w.heap.size 1 w2 hR2 (by omega)).mono ?_
    rintro e w3 ⟨v, zs, rfl, hown, hlen, hall, hg3⟩
    go_wp2
    go_ret
    exact ⟨v, zs, rfl, Row.wider ⟨hown, fun g hg => (hown.lt g hg).2⟩ hb2.size (Nat.le_refl _), by omega, hall, hb2.grown hg3 hb2.size (fun k hk => by cases hk; exact Nat.le_refl _)⟩
  | true =>
    have hmk := fun wx => run_make_row' (P := Try.prog) 29 3 (.int .i64 0) 8 Try.underlying29 info_int rfl .i64 .i64 2001 (by omega) (by omega) wx
    have hmk2 : ∀ wx, (Instr.makeSlice 29 (.int .i64 2001) (.int .i64 2001)).run Try.prog wx = .ok (.slice (some ⟨wx.heap.size, 0, none⟩) 2001 2001) (wx.alloc (.cells (madeCells #[.int .i64 0] 2001) 3)) := hmk
    clear hmk
    have h0 : (w2.alloc (.cells (madeCells #[Value.int .i64 0] 2001) 3)).ownsRow w2.heap.size 3 1 (.slice (some ⟨w2.heap.size, 0, none⟩) 2001 2001) 2001 ((List.replicate 2001 (0 : Int)).map (Value.int .i64)) := by
      rw [← madeCells_ints]
      exact World.ownsRow_lit w2 _ _ (Nat.le_refl _) (by simp only [maxLen]; omega) (size_madeCells _ _)
    have H0 := Lib.hid h0
    clear h0
    go_wp2
    go_ret
    refine ⟨_, List.replicate 2001 0, rfl, ⟨?_, fun g hg => by simp [Value.ownBlock] at hg; simp; omega⟩, Nat.le_of_eq List.length_replicate, fun z hz => by have := List.eq_of_mem_replicate hz; omega, hb2.alloc hb2.size _⟩
    have h1 : Row (w2.alloc (.cells (madeCells #[Value.int .i64 0] 2001) 3)) w2.heap.size (w2.heap.size + 1) (.slice (some ⟨w2.heap.size, 0, none⟩) 2001 2001) (List.replicate 2001 (0 : Int)) := ⟨by rw [List.length_replicate]; exact H0.out, fun g hg => by simp [Value.ownBlock] at hg; omega⟩
    exact (h1.wider hb2.size (Nat.le_refl _)).1
end Go.Proofs.Ytjmchblfihnhjaa
