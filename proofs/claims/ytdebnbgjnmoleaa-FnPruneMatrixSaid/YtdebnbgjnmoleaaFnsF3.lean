/- Contracts: pruned matrices, the program's. -/
import Derived.Test.YtdebnbgjnmoleaaFnsF2
namespace Go.Proofs.Ytdebnbgjnmoleaa
open Go.RowKit

theorem nest2 (w : World) (r c : Int) (s : Value) : ∀ W, W = (w.alloc (.cells #[.int .i64 r, .int .i64 c, s] 28)).alloc (.cells #[.int .i64 0, .int .i64 0, .slice none 0 0] 28) →
    Cell3 W w.heap.size (.int .i64 r) (.int .i64 c) s ∧ Cell3 W (w.heap.size + 1) (.int .i64 0) (.int .i64 0) (.slice none 0 0) ∧ Below w.heap.size w W ∧ W.heap.size = w.heap.size + 2 := by
  rintro W rfl
  have a := Cell3.new w (.int .i64 r) (.int .i64 c) s 28
  have b := Cell3.new (w.alloc (.cells #[.int .i64 r, .int .i64 c, s] 28)) (.int .i64 0) (.int .i64 0) (.slice none 0 0) 28
  simp only [World.size_alloc] at b
  exact ⟨a.alloc _, b, ((Below.refl _ _).alloc (Nat.le_refl _) _).alloc (by simp) _, by simp⟩

section
variable (r c l : Int) (A : Option Addr) (cap n B : Nat) (zs : List Int) (w : World) (hs : Sl w B A zs) (hB : B ≤ w.heap.size) (e : n = zs.length) (hn : n ≤ 1100000)
include hs hB e hn
set_option maxHeartbeats 400000 in
theorem implPrune_no (h : ¬ OkP r c zs l) : Calls Try.prog 36 #[matV r c (.slice A n cap), .int .i64 l] w fun e w' => e = .returned (matV 0 0 (.slice none 0 0)) ∧ Below w.heap.size w w' := by
  subst e
  obtain ⟨W, hW⟩ : ∃ W, (w.alloc (.cells #[.int .i64 r, .int .i64 c, .slice A zs.length cap] 28)).alloc (.cells #[.int .i64 0, .int .i64 0, .slice none 0 0] 28) = W := ⟨_, rfl⟩
  obtain ⟨q0, q1, hb, hws⟩ := nest2 w r c (.slice A zs.length cap) W hW.symm
  have HS := Lib.hid (hs.below hb hB)
  have Q1 := Lib.hid q1
  obtain ⟨a0, a1, a2, f0, f1, f2, alt⟩ := q0
  clear hs q1
  by_cases hm : OkM r c zs
  · have hl : l < 0 ∨ 4096 < l := by
      apply Classical.byContradiction
      intro hh
      exact h ⟨hm, by omega, by omega⟩
    have HM := Lib.hid hm
    clear h hm
    go_enter Try.func36, Try.ntmps36
    go_wp2_with fail
    refine (implMV_yes r c A cap _ B zs W HS.out (by omega) rfl (by omega) HM.out).mono ?_
    rintro e w2 ⟨rfl, hb2⟩
    have P1 := Q1.out.below hb2 (by omega)
    have HP1 := Lib.hid P1
    obtain ⟨b0, b1, b2, g0, g1, g2, blt⟩ := P1
    have HB := Lib.hid (hb.trans (hb2.mono (by omega)))
    clear hb hb2
    rcases hl with hl | hl
    · go_wp2
      have P2 := ((HP1.out.set0 (.int .i64 0)).set1 (.int .i64 0)).set2 (.slice none 0 0)
      have B4 := ((HB.out.setCell (p := ⟨w.heap.size + 1, 0, none⟩) (by simp) (.int .i64 0)).setCell (p := ⟨w.heap.size + 1, 1, none⟩) (by simp) (.int .i64 0)).setCell (p := ⟨w.heap.size + 1, 2, none⟩) (by simp) (.slice none 0 0)
      obtain ⟨W4, hW4⟩ : ∃ W4, (((w2.setCell ⟨w.heap.size + 1, 0, none⟩ (.int .i64 0)).setCell ⟨w.heap.size + 1, 1, none⟩ (.int .i64 0)).setCell ⟨w.heap.size + 1, 2, none⟩ (.slice none 0 0)) = W4 := ⟨_, rfl⟩
      rw [hW4] at P2 B4 ⊢
      obtain ⟨z0, z1, z2, _, _, _, _⟩ := P2
      refine bodyPost_ret (v := matV 0 0 (.slice none 0 0)) (by simp [results, Try.results36, go_sem, z0, z1, z2]) rfl ?_
      exact ⟨rfl, B4⟩
    · go_wp2
      have P2 := ((HP1.out.set0 (.int .i64 0)).set1 (.int .i64 0)).set2 (.slice none 0 0)
      have B4 := ((HB.out.setCell (p := ⟨w.heap.size + 1, 0, none⟩) (by simp) (.int .i64 0)).setCell (p := ⟨w.heap.size + 1, 1, none⟩) (by simp) (.int .i64 0)).setCell (p := ⟨w.heap.size + 1, 2, none⟩) (by simp) (.slice none 0 0)
      obtain ⟨W4, hW4⟩ : ∃ W4, (((w2.setCell ⟨w.heap.size + 1, 0, none⟩ (.int .i64 0)).setCell ⟨w.heap.size + 1, 1, none⟩ (.int .i64 0)).setCell ⟨w.heap.size + 1, 2, none⟩ (.slice none 0 0)) = W4 := ⟨_, rfl⟩
      rw [hW4] at P2 B4 ⊢
      obtain ⟨z0, z1, z2, _, _, _, _⟩ := P2
      refine bodyPost_ret (v := matV 0 0 (.slice none 0 0)) (by simp [results, Try.results36, go_sem, z0, z1, z2]) rfl ?_
      exact ⟨rfl, B4⟩
  · have HM := Lib.hid hm
    clear h hm
    go_enter Try.func36, Try.ntmps36
    go_wp2_with fail
    refine (implMV_no r c A cap _ B zs W HS.out (by omega) rfl (by omega) HM.out).mono ?_
    rintro e w2 ⟨rfl, hb2⟩
    have P1 := Q1.out.below hb2 (by omega)
    have HP1 := Lib.hid P1
    obtain ⟨b0, b1, b2, g0, g1, g2, blt⟩ := P1
    have HB := Lib.hid (hb.trans (hb2.mono (by omega)))
    clear hb hb2
    go_wp2
    have P2 := ((HP1.out.set0 (.int .i64 0)).set1 (.int .i64 0)).set2 (.slice none 0 0)
    have B4 := ((HB.out.setCell (p := ⟨w.heap.size + 1, 0, none⟩) (by simp) (.int .i64 0)).setCell (p := ⟨w.heap.size + 1, 1, none⟩) (by simp) (.int .i64 0)).setCell (p := ⟨w.heap.size + 1, 2, none⟩) (by simp) (.slice none 0 0)
    obtain ⟨W4, hW4⟩ : ∃ W4, (((w2.setCell ⟨w.heap.size + 1, 0, none⟩ (.int .i64 0)).setCell ⟨w.heap.size + 1, 1, none⟩ (.int .i64 0)).setCell ⟨w.heap.size + 1, 2, none⟩ (.slice none 0 0)) = W4 := ⟨_, rfl⟩
    rw [hW4] at P2 B4 ⊢
    obtain ⟨z0, z1, z2, _, _, _, _⟩ := P2
    refine bodyPost_ret (v := matV 0 0 (.slice none 0 0)) (by simp [results, Try.results36, go_sem, z0, z1, z2]) rfl ?_
    exact ⟨rfl, B4⟩
set_option maxHeartbeats 800000 in
theorem implPrune_yes (h : OkP r c zs l) : Calls Try.prog 36 #[matV r c (.slice A n cap), .int .i64 l] w fun e w' => ∃ s, e = .returned (matV r c s) ∧ Row w' w.heap.size w'.heap.size s (zs.map (pruneF l)) ∧ Below w.heap.size w w' := by
  subst e
  obtain ⟨hm, l0, l1⟩ := h
  obtain ⟨W, hW⟩ : ∃ W, (w.alloc (.cells #[.int .i64 r, .int .i64 c, .slice A zs.length cap] 28)).alloc (.cells #[.int .i64 0, .int .i64 0, .slice none 0 0] 28) = W := ⟨_, rfl⟩
  obtain ⟨q0, q1, hb, hws⟩ := nest2 w r c (.slice A zs.length cap) W hW.symm
  have HS := Lib.hid (hs.below hb hB)
  have Q0 := Lib.hid q0
  have Q1 := Lib.hid q1
  have HM := Lib.hid hm
  obtain ⟨a0, a1, a2, f0, f1, f2, alt⟩ := q0
  clear hs q1 hm
  go_enter Try.func36, Try.ntmps36
  go_wp2_with fail
  refine (implMV_yes r c A cap _ B zs W HS.out (by omega) rfl (by omega) HM.out).mono ?_
  rintro e w2 ⟨rfl, hb2⟩
  obtain ⟨c0, c1, c2, _, _, _, clt⟩ := Q0.out.below hb2 (by omega)
  have hs2 := hb2.size
  have HS2 := Lib.hid (HS.out.below hb2 (by omega))
  have HQ1 := Lib.hid (Q1.out.below hb2 (by omega))
  have HB := Lib.hid (hb.trans (hb2.mono (by omega)))
  clear hb hb2 Q0 Q1 a0 a1 a2 f0 f1 f2 alt
  go_wp2_with fail
  refine (copyM_any r c A cap _ B zs w2 HS2.out (by omega) rfl hn).mono ?_
  rintro e w3 ⟨s3, rfl, hr3, hb3⟩
  obtain ⟨A3, c3, rfl, _, _, _⟩ := hr3.form
  have hs3 := hb3.size
  have k5 := Cell3.new w3 (.int .i64 r) (.int .i64 c) (.slice A3 zs.length c3) 28
  obtain ⟨V, hV⟩ : ∃ V, w3.alloc (.cells #[.int .i64 r, .int .i64 c, .slice A3 zs.length c3] 28) = V := ⟨_, rfl⟩
  rw [hV] at k5
  have hsv : V.heap.size = w3.heap.size + 1 := by rw [← hV]; simp
  have hbv : Below w3.heap.size w3 V := hV ▸ (Below.refl _ _).alloc (Nat.le_refl _) _
  have HQ := Lib.hid ((HQ1.out.below hb3 (by omega)).below hbv (by omega))
  have HBV := Lib.hid ((HB.out.trans (hb3.mono (by omega))).trans (hbv.mono (by omega)))
  have HRV := Lib.hid (hr3.below hbv (Nat.le_refl _))
  have K5 := Lib.hid k5
  clear hr3 hb3 hbv HQ1 HB c0 c1 c2 clt
  obtain ⟨v0, v1, v2, p0, p1, p2, vlt⟩ := k5
  go_wp2
  clear v0 v1 v2 p0 p1 p2
  have hws' : w.heap.size + 2 ≤ w2.heap.size := by omega
  go_loopw [26] (fun i wr => ∃ k : Nat, k ≤ zs.length ∧ i = .int .i64 k ∧ Row wr w2.heap.size w3.heap.size (.slice A3 zs.length c3) (mapTo (pruneF l) zs k) ∧ Below w.heap.size w wr ∧ Cell3 wr w3.heap.size (.int .i64 r) (.int .i64 c) (.slice A3 zs.length c3) ∧ Cell3 wr (w.heap.size + 1) (.int .i64 0) (.int .i64 0) (.slice none 0 0) ∧ V.heap.size ≤ wr.heap.size) (fun i _ => zs.length - (intOf i).toNat)
  case atStart => exact ⟨0, Nat.zero_le _, rfl, by rw [mapTo_zero]; exact HRV.out, HBV.out, K5.out, HQ.out, Nat.le_refl _⟩
  case round =>
    obtain ⟨k, hk, rfl, hrow, hbel, hc5, hc1, hsz⟩ := hrel
    by_cases hlt : k < zs.length
    · have hz2 := HM.out.2.2.2 k hlt
      obtain ⟨g, rfl, hg1, hg2, hc, hfz⟩ := hrow.cell_ (j := k) (by rw [mapTo_length _ _ _ hk]; exact hlt)
      rw [mapTo_at _ _ _ hlt] at hc
      have HSU := Lib.hid (mapTo_succ (pruneF l) zs k hlt)
      have HSA := Lib.hid (mapTo_same (pruneF l) zs k hlt)
      have S := Lib.hid (hrow.stored k 0)
      obtain ⟨z, hz⟩ : ∃ z, zs.getD k 0 = z := ⟨_, rfl⟩
      rw [hz] at hz2 hc HSU HSA
      clear hz
      have hsb := sgn_bound hz2.1 hz2.2
      have hP : pruneF l z = if sgn z < l ∧ -sgn z < l then 0 else z := rfl
      have hcall := implSgn z wr hz2.1 hz2.2
      obtain ⟨s, hse⟩ : ∃ s, sgn z = s := ⟨_, rfl⟩
      rw [hse] at hsb hP hcall
      clear hse
      have HR := Lib.hid hrow
      have HB5 := Lib.hid hbel
      have HC5 := Lib.hid hc5
      have HC1 := Lib.hid hc1
      obtain ⟨v0, v1, v2, p0, p1, p2, vlt⟩ := hc5
      clear hrow hbel hc1
      by_cases ht : s < l ∧ -s < l
      · rw [if_pos ht] at hP
        rw [hP] at HSU
        have HP := Lib.hid hP
        have hd : decide ((if s < -s then -s else s) < l) = true := by simp; split <;> omega
        obtain ⟨t1, t2⟩ := ht
        clear hP HSA
        go_wp2_with fail
        refine hcall.mono ?_
        rintro e w' ⟨rfl, rfl⟩
        clear hcall
        go_wp2
        go_roundw
        case rel => exact ⟨k + 1, by omega, by go_num, by rw [HSU.out]; exact S.out.1, HB5.out.setCell (p := ⟨g, k, none⟩) (show w.heap.size ≤ g by omega) _, HC5.out.far (a := ⟨g, k, none⟩) (show w3.heap.size ≠ g by omega) _, HC1.out.far (a := ⟨g, k, none⟩) (show w.heap.size + 1 ≠ g by omega) _, by simpa using hsz⟩
        case measure => simp [intOf]; omega
      · rw [if_neg ht] at hP
        have HE := Lib.hid (HSA.out hP)
        have hd : decide ((if s < -s then -s else s) < l) = false := by simp; split <;> omega
        have ht' : l ≤ s ∨ l ≤ -s := by omega
        clear hP HSU HSA ht
        go_wp2_with fail
        refine hcall.mono ?_
        rintro e w' ⟨rfl, rfl⟩
        clear hcall
        go_wp2
        go_roundw
        case rel => exact ⟨k + 1, by omega, by go_num, by rw [HE.out]; exact HR.out, HB5.out, HC5.out, HC1.out, hsz⟩
        case measure => simp [intOf]; omega
    · have e : k = zs.length := by omega
      subst e
      rw [mapTo_full] at hrow
      have HR := Lib.hid hrow
      have HB5 := Lib.hid hbel
      have HC1 := Lib.hid hc1
      obtain ⟨v0, v1, v2, p0, p1, p2, vlt⟩ := hc5
      obtain ⟨b0, b1, b2, g0, g1, g2, blt⟩ := hc1
      clear hrow hbel
      go_wp2
      have P2 := ((HC1.out.set0 (.int .i64 r)).set1 (.int .i64 c)).set2 (.slice A3 zs.length c3)
      have R2 := HR.out.grown (set_grown _ (w.heap.size + 1) 0 (.int .i64 r)) (fun g e => by cases e; left; omega)
      have R3 := R2.grown (set_grown _ (w.heap.size + 1) 1 (.int .i64 c)) (fun g e => by cases e; left; omega)
      have R4 := R3.grown (set_grown _ (w.heap.size + 1) 2 (.slice A3 zs.length c3)) (fun g e => by cases e; left; omega)
      have B4 := ((HB5.out.setCell (p := ⟨w.heap.size + 1, 0, none⟩) (by simp) (.int .i64 r)).setCell (p := ⟨w.heap.size + 1, 1, none⟩) (by simp) (.int .i64 c)).setCell (p := ⟨w.heap.size + 1, 2, none⟩) (by simp) (.slice A3 zs.length c3)
      have S4 : ((((wr.setCell ⟨w.heap.size + 1, 0, none⟩ (.int .i64 r)).setCell ⟨w.heap.size + 1, 1, none⟩ (.int .i64 c)).setCell ⟨w.heap.size + 1, 2, none⟩ (.slice A3 zs.length c3)).heap.size) = wr.heap.size := by simp
      obtain ⟨W4, hW4⟩ : ∃ W4, (((wr.setCell ⟨w.heap.size + 1, 0, none⟩ (.int .i64 r)).setCell ⟨w.heap.size + 1, 1, none⟩ (.int .i64 c)).setCell ⟨w.heap.size + 1, 2, none⟩ (.slice A3 zs.length c3)) = W4 := ⟨_, rfl⟩
      rw [hW4] at P2 R4 B4 S4 ⊢
      obtain ⟨z0, z1, z2, _, _, _, _⟩ := P2
      refine bodyPost_ret (v := matV r c (.slice A3 zs.length c3)) (by simp [results, Try.results36, go_sem, z0, z1, z2]) rfl ?_
      exact ⟨_, rfl, R4.wider (by omega) (by omega), B4⟩
end
end Go.Proofs.Ytdebnbgjnmoleaa
