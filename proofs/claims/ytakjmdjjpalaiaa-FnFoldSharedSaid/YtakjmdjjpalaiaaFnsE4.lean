/- Contracts: matrices with edges, the reference's. (Printed by gen_E4.py.) -/
import Derived.Test.YtakjmdjjpalaiaaFnsE3
namespace Go.Proofs.Ytakjmdjjpalaiaa
open Go.RowKit

def tabTo (C : Nat) (f : Nat → Nat → Int) (k : Nat) : List Int := (List.range k).map fun p => f (p / C) (p % C)
theorem tabTo_len (C : Nat) (f : Nat → Nat → Int) (k : Nat) : (tabTo C f k).length = k := by simp [tabTo]
theorem tabTo_succ (C : Nat) (f : Nat → Nat → Int) (k : Nat) : tabTo C f (k + 1) = tabTo C f k ++ [f (k / C) (k % C)] := by simp [tabTo, List.range_succ]
theorem tabTo_full (R C : Nat) (f : Nat → Nat → Int) : tabTo C f (R * C) = tab R C f := rfl
theorem tdiv_nat (k C : Nat) : Int.tdiv (k : Int) (C : Int) = ((k / C : Nat) : Int) := by simp
theorem tmod_nat (k C : Nat) : Int.tmod (k : Int) (C : Int) = ((k % C : Nat) : Int) := by rw [Int.tmod_eq_emod_of_nonneg (by omega)]; simp

section
variable (r c l : Int) (A : Option Addr) (cap n B : Nat) (zs : List Int) (w : World) (hs : Sl w B A zs) (hB : B ≤ w.heap.size) (e : n = zs.length) (hn : n ≤ 1100000)
include hs hB e hn
set_option maxHeartbeats 800000 in
theorem specEdge_no (h : ¬ OkE r c zs l) : Calls Try.prog 49 #[matV r c (.slice A n cap), .int .i64 l] w fun e w' => e = .returned (matV 0 0 (.slice none 0 0)) ∧ Below w.heap.size w w' := by
  subst e
  obtain ⟨W, hW⟩ : ∃ W, (w.alloc (.cells #[.int .i64 r, .int .i64 c, .slice A zs.length cap] 26)).alloc (.cells #[.int .i64 0, .int .i64 0, .slice none 0 0] 26) = W := ⟨_, rfl⟩
  obtain ⟨q0, q1, hb, hws⟩ := nest2 w r c (.slice A zs.length cap) W hW.symm
  have HS := Lib.hid (hs.below hb hB)
  have Q0 := Lib.hid q0
  have Q1 := Lib.hid q1
  obtain ⟨a0, a1, a2, f0, f1, f2, alt⟩ := q0
  clear hs q1
  go_enter Try.func49, Try.ntmps49
  go_wp2_with fail
  refine (ownM_any r c A cap _ B zs W HS.out (by omega) rfl hn).mono ?_
  rintro e w2 ⟨s2, rfl, hr2, hb2⟩
  obtain ⟨A2, c2, rfl, hnc2, hcm2, hs2⟩ := hr2.form
  have k0 := Q0.out.below hb2 (by omega)
  have k1 := Q1.out.below hb2 (by omega)
  have K0 := Lib.hid (((k0.set0 (.int .i64 r)).set1 (.int .i64 c)).set2 (.slice A2 zs.length c2))
  have K1 := Lib.hid (((k1.far (a := ⟨w.heap.size, 0, none⟩) (by simp) (.int .i64 r)).far (a := ⟨w.heap.size, 1, none⟩) (by simp) (.int .i64 c)).far (a := ⟨w.heap.size, 2, none⟩) (by simp) (.slice A2 zs.length c2))
  have hz2 := hb2.size
  obtain ⟨c0, c1, c2', d0, d1, d2, clt⟩ := k0
  clear a0 a1 a2 f0 f1 f2 alt Q0 Q1 k1
  go_wp2_with fail
  have R1 := hr2.grown (set_grown _ w.heap.size 0 (.int .i64 r)) (fun g e => by cases e; left; omega)
  have R2 := R1.grown (set_grown _ w.heap.size 1 (.int .i64 c)) (fun g e => by cases e; left; omega)
  have R3 := R2.grown (set_grown _ w.heap.size 2 (.slice A2 zs.length c2)) (fun g e => by cases e; left; omega)
  have B3 := (((hb.trans (hb2.mono (show w.heap.size ≤ W.heap.size by omega))).setCell (p := ⟨w.heap.size, 0, none⟩) (Nat.le_refl _) (.int .i64 r)).setCell (p := ⟨w.heap.size, 1, none⟩) (Nat.le_refl _) (.int .i64 c)).setCell (p := ⟨w.heap.size, 2, none⟩) (Nat.le_refl _) (.slice A2 zs.length c2)
  have S3 : ((((w2.setCell ⟨w.heap.size, 0, none⟩ (.int .i64 r)).setCell ⟨w.heap.size, 1, none⟩ (.int .i64 c)).setCell ⟨w.heap.size, 2, none⟩ (.slice A2 zs.length c2)).heap.size) = w2.heap.size := by simp
  obtain ⟨U, hU⟩ : ∃ U, (((w2.setCell ⟨w.heap.size, 0, none⟩ (.int .i64 r)).setCell ⟨w.heap.size, 1, none⟩ (.int .i64 c)).setCell ⟨w.heap.size, 2, none⟩ (.slice A2 zs.length c2)) = U := ⟨_, rfl⟩
  rw [hU] at K0 K1 R3 B3 S3 ⊢
  have HSU := Lib.hid (R3.sl_now.more (Nat.le_of_eq S3.symm))
  have HBU := Lib.hid B3
  clear R1 R2 R3 B3 hb2 hr2 hs2 c0 c1 c2' d0 d1 d2 clt hb
  by_cases hm : OkM r c zs
  · obtain ⟨hr1, hc1, _, _⟩ := id hm
    have hl : (l < 0 ∨ 5 < l) ∨ (0 ≤ l ∧ l ≤ 5 ∧ 5 < r + 2 * l) ∨ (0 ≤ l ∧ l ≤ 5 ∧ r + 2 * l ≤ 5 ∧ 5 < c + 2 * l) := by
      apply Classical.byContradiction
      intro hh
      exact h ⟨hm, by omega, by omega, by omega⟩
    have HM := Lib.hid hm
    clear h hm
    refine (specMV_yes r c A2 c2 _ _ zs U HSU.out (Nat.le_refl _) rfl (by omega) HM.out).mono ?_
    rintro e w3 ⟨rfl, hb3⟩
    have P1 := K1.out.below hb3 (by omega)
    have HP1 := Lib.hid P1
    obtain ⟨b0, b1, b2, g0, g1, g2, blt⟩ := P1
    obtain ⟨c0, c1, c2', _, _, _, clt⟩ := K0.out.below hb3 (by omega)
    have HB := Lib.hid (HBU.out.trans (hb3.mono (by omega)))
    clear hb3
    go_wp2_with fail
    rcases hl with hl | ⟨hl, hl2, hl3⟩ | ⟨hl, hl2, hl3, hl4⟩
    · refine (l1In_no _ _ _ _ hl).mono ?_
      rintro e w' ⟨rfl, rfl⟩
      go_wp2
      have P2 := ((HP1.out.set0 (.int .i64 0)).set1 (.int .i64 0)).set2 (.slice none 0 0)
      have B4 := ((HB.out.setCell (p := ⟨w.heap.size + 1, 0, none⟩) (by simp) (.int .i64 0)).setCell (p := ⟨w.heap.size + 1, 1, none⟩) (by simp) (.int .i64 0)).setCell (p := ⟨w.heap.size + 1, 2, none⟩) (by simp) (.slice none 0 0)
      obtain ⟨W4, hW4⟩ : ∃ W4, (((w3.setCell ⟨w.heap.size + 1, 0, none⟩ (.int .i64 0)).setCell ⟨w.heap.size + 1, 1, none⟩ (.int .i64 0)).setCell ⟨w.heap.size + 1, 2, none⟩ (.slice none 0 0)) = W4 := ⟨_, rfl⟩
      rw [hW4] at P2 B4 ⊢
      obtain ⟨z0, z1, z2, _, _, _, _⟩ := P2
      refine bodyPost_ret (v := matV 0 0 (.slice none 0 0)) (by simp [results, Try.results49, go_sem, z0, z1, z2]) rfl ?_
      exact ⟨rfl, B4⟩
    · refine (l1In_yes _ _ _ _ hl hl2).mono ?_
      rintro e w' ⟨rfl, rfl⟩
      go_wp2
      have P2 := ((HP1.out.set0 (.int .i64 0)).set1 (.int .i64 0)).set2 (.slice none 0 0)
      have B4 := ((HB.out.setCell (p := ⟨w.heap.size + 1, 0, none⟩) (by simp) (.int .i64 0)).setCell (p := ⟨w.heap.size + 1, 1, none⟩) (by simp) (.int .i64 0)).setCell (p := ⟨w.heap.size + 1, 2, none⟩) (by simp) (.slice none 0 0)
      obtain ⟨W4, hW4⟩ : ∃ W4, (((w3.setCell ⟨w.heap.size + 1, 0, none⟩ (.int .i64 0)).setCell ⟨w.heap.size + 1, 1, none⟩ (.int .i64 0)).setCell ⟨w.heap.size + 1, 2, none⟩ (.slice none 0 0)) = W4 := ⟨_, rfl⟩
      rw [hW4] at P2 B4 ⊢
      obtain ⟨z0, z1, z2, _, _, _, _⟩ := P2
      refine bodyPost_ret (v := matV 0 0 (.slice none 0 0)) (by simp [results, Try.results49, go_sem, z0, z1, z2]) rfl ?_
      exact ⟨rfl, B4⟩
    · refine (l1In_yes _ _ _ _ hl hl2).mono ?_
      rintro e w' ⟨rfl, rfl⟩
      go_wp2
      have P2 := ((HP1.out.set0 (.int .i64 0)).set1 (.int .i64 0)).set2 (.slice none 0 0)
      have B4 := ((HB.out.setCell (p := ⟨w.heap.size + 1, 0, none⟩) (by simp) (.int .i64 0)).setCell (p := ⟨w.heap.size + 1, 1, none⟩) (by simp) (.int .i64 0)).setCell (p := ⟨w.heap.size + 1, 2, none⟩) (by simp) (.slice none 0 0)
      obtain ⟨W4, hW4⟩ : ∃ W4, (((w3.setCell ⟨w.heap.size + 1, 0, none⟩ (.int .i64 0)).setCell ⟨w.heap.size + 1, 1, none⟩ (.int .i64 0)).setCell ⟨w.heap.size + 1, 2, none⟩ (.slice none 0 0)) = W4 := ⟨_, rfl⟩
      rw [hW4] at P2 B4 ⊢
      obtain ⟨z0, z1, z2, _, _, _, _⟩ := P2
      refine bodyPost_ret (v := matV 0 0 (.slice none 0 0)) (by simp [results, Try.results49, go_sem, z0, z1, z2]) rfl ?_
      exact ⟨rfl, B4⟩
  · have HM := Lib.hid hm
    clear h hm
    refine (specMV_no r c A2 c2 _ _ zs U HSU.out (Nat.le_refl _) rfl (by omega) HM.out).mono ?_
    rintro e w3 ⟨rfl, hb3⟩
    have P1 := K1.out.below hb3 (by omega)
    have HP1 := Lib.hid P1
    obtain ⟨b0, b1, b2, g0, g1, g2, blt⟩ := P1
    have HB := Lib.hid (HBU.out.trans (hb3.mono (by omega)))
    clear hb3
    go_wp2
    have P2 := ((HP1.out.set0 (.int .i64 0)).set1 (.int .i64 0)).set2 (.slice none 0 0)
    have B4 := ((HB.out.setCell (p := ⟨w.heap.size + 1, 0, none⟩) (by simp) (.int .i64 0)).setCell (p := ⟨w.heap.size + 1, 1, none⟩) (by simp) (.int .i64 0)).setCell (p := ⟨w.heap.size + 1, 2, none⟩) (by simp) (.slice none 0 0)
    obtain ⟨W4, hW4⟩ : ∃ W4, (((w3.setCell ⟨w.heap.size + 1, 0, none⟩ (.int .i64 0)).setCell ⟨w.heap.size + 1, 1, none⟩ (.int .i64 0)).setCell ⟨w.heap.size + 1, 2, none⟩ (.slice none 0 0)) = W4 := ⟨_, rfl⟩
    rw [hW4] at P2 B4 ⊢
    obtain ⟨z0, z1, z2, _, _, _, _⟩ := P2
    refine bodyPost_ret (v := matV 0 0 (.slice none 0 0)) (by simp [results, Try.results49, go_sem, z0, z1, z2]) rfl ?_
    exact ⟨rfl, B4⟩
end
set_option maxHeartbeats 4000000 in
theorem specEdge_yes (r c d : Nat) (A : Option Addr) (cap n B : Nat) (zs : List Int) (w : World) (hs : Sl w B A zs) (hB : B ≤ w.heap.size) (e : n = zs.length) (hn : n ≤ 1100000) (h : OkE r c zs d) :
    Calls Try.prog 49 #[matV r c (.slice A n cap), .int .i64 d] w fun e w' => ∃ s, e = .returned (matV ((r + 2 * d : Nat) : Int) ((c + 2 * d : Nat) : Int) s) ∧ Row w' w.heap.size w'.heap.size s (edgeZ d r c zs) ∧ Below w.heap.size w w' := by
  obtain ⟨hm, hd, hr5, hc5⟩ := h
  have hlen : zs.length = r * c := by have := hm.2.2.1; exact_mod_cast this
  have hr1 := hm.1
  have hc1 := hm.2.1
  obtain ⟨R, hR⟩ : ∃ R : Nat, r + 2 * d = R := ⟨_, rfl⟩
  obtain ⟨C, hC⟩ : ∃ C : Nat, c + 2 * d = C := ⟨_, rfl⟩
  have hRi : (r : Int) + 2 * (d : Int) = (R : Int) := by omega
  have hCi : (c : Int) + 2 * (d : Int) = (C : Int) := by omega
  have hRC := side_mul (r := R) (c := C) (by omega) (by omega)
  have hri : (R : Int) * (C : Int) = ((R * C : Nat) : Int) := by simp
  obtain ⟨N, hN⟩ : ∃ N, R * C = N := ⟨_, rfl⟩
  rw [hN] at hri
  have hN1 : N ≤ 25 ∧ 1 ≤ N := by omega
  rw [hR, hC]
  have HM := Lib.hid hm
  have HLEN := Lib.hid hlen
  have HRC := Lib.hid (And.intro hR (And.intro hC hN))
  clear hm hlen hRC hR hC hN
  have hd' := hd.2
  have hr5' : (R : Int) ≤ 5 := by omega
  have hc5' : (C : Int) ≤ 5 := by omega
  subst e
  obtain ⟨W, hW⟩ : ∃ W, (w.alloc (.cells #[.int .i64 r, .int .i64 c, .slice A zs.length cap] 26)).alloc (.cells #[.int .i64 0, .int .i64 0, .slice none 0 0] 26) = W := ⟨_, rfl⟩
  obtain ⟨q0, q1, hb, hws⟩ := nest2 w r c (.slice A zs.length cap) W hW.symm
  have HS := Lib.hid (hs.below hb hB)
  have Q0 := Lib.hid q0
  have Q1 := Lib.hid q1
  obtain ⟨a0, a1, a2, f0, f1, f2, alt⟩ := q0
  clear hs q1
  go_enter Try.func49, Try.ntmps49
  go_wp2_with fail
  refine (ownM_any r c A cap _ B zs W HS.out (by omega) rfl hn).mono ?_
  rintro e w2 ⟨s2, rfl, hr2, hb2⟩
  obtain ⟨A2, c2, rfl, hnc2, hcm2, hs2⟩ := hr2.form
  have k0 := Q0.out.below hb2 (by omega)
  have k1 := Q1.out.below hb2 (by omega)
  have K0 := Lib.hid (((k0.set0 (.int .i64 r)).set1 (.int .i64 c)).set2 (.slice A2 zs.length c2))
  have K1 := Lib.hid (((k1.far (a := ⟨w.heap.size, 0, none⟩) (by simp) (.int .i64 r)).far (a := ⟨w.heap.size, 1, none⟩) (by simp) (.int .i64 c)).far (a := ⟨w.heap.size, 2, none⟩) (by simp) (.slice A2 zs.length c2))
  have hz2 := hb2.size
  obtain ⟨c0, c1, c2', d0, d1, d2, clt⟩ := k0
  clear a0 a1 a2 f0 f1 f2 alt Q0 Q1 k1
  go_wp2_with fail
  have R1 := hr2.grown (set_grown _ w.heap.size 0 (.int .i64 r)) (fun g e => by cases e; left; omega)
  have R2 := R1.grown (set_grown _ w.heap.size 1 (.int .i64 c)) (fun g e => by cases e; left; omega)
  have R3 := R2.grown (set_grown _ w.heap.size 2 (.slice A2 zs.length c2)) (fun g e => by cases e; left; omega)
  have B3 := (((hb.trans (hb2.mono (show w.heap.size ≤ W.heap.size by omega))).setCell (p := ⟨w.heap.size, 0, none⟩) (Nat.le_refl _) (.int .i64 r)).setCell (p := ⟨w.heap.size, 1, none⟩) (Nat.le_refl _) (.int .i64 c)).setCell (p := ⟨w.heap.size, 2, none⟩) (Nat.le_refl _) (.slice A2 zs.length c2)
  have S3 : ((((w2.setCell ⟨w.heap.size, 0, none⟩ (.int .i64 r)).setCell ⟨w.heap.size, 1, none⟩ (.int .i64 c)).setCell ⟨w.heap.size, 2, none⟩ (.slice A2 zs.length c2)).heap.size) = w2.heap.size := by simp
  obtain ⟨U, hU⟩ : ∃ U, (((w2.setCell ⟨w.heap.size, 0, none⟩ (.int .i64 r)).setCell ⟨w.heap.size, 1, none⟩ (.int .i64 c)).setCell ⟨w.heap.size, 2, none⟩ (.slice A2 zs.length c2)) = U := ⟨_, rfl⟩
  rw [hU] at K0 K1 R3 B3 S3 ⊢
  have HSU := Lib.hid (R3.sl_now.more (Nat.le_of_eq S3.symm))
  have HBU := Lib.hid B3
  clear R1 R2 R3 B3 hb2 hr2 hs2 c0 c1 c2' d0 d1 d2 clt hb
  refine (specMV_yes r c A2 c2 _ _ zs U HSU.out (Nat.le_refl _) rfl (by omega) HM.out).mono ?_
  rintro e w3 ⟨rfl, hb3⟩
  have hs3 := hb3.size
  have k0 := K0.out.below hb3 (by omega)
  have k1 := K1.out.below hb3 (by omega)
  have HSV := Lib.hid (HSU.out.below hb3 (Nat.le_refl _))
  have HBV := Lib.hid (HBU.out.trans (hb3.mono (by omega)))
  clear hb3
  have k5 := Cell3.new w3 (.int .i64 R) (.int .i64 C) (.slice none 0 0) 26
  have hbx := World.grownBy_alloc w3 (.cells #[.int .i64 R, .int .i64 C, .slice none 0 0] 26) none
  obtain ⟨V, hV⟩ : ∃ V, w3.alloc (.cells #[.int .i64 R, .int .i64 C, .slice none 0 0] 26) = V := ⟨_, rfl⟩
  rw [hV] at k5 hbx
  have hsv : V.heap.size = w3.heap.size + 1 := by rw [← hV]; simp
  have hbv : Below w3.heap.size w3 V := hV ▸ (Below.refl _ _).alloc (Nat.le_refl _) _
  have HSV2 := Lib.hid (HSV.out.below hbv hs3)
  have HBV2 := Lib.hid (HBV.out.trans (hbv.mono (by omega)))
  have K0' := Lib.hid (k0.grown hbx (by simp))
  have K1' := Lib.hid (k1.grown hbx (by simp))
  have K5' := Lib.hid k5
  obtain ⟨c0, c1, c2', d0, d1, d2, clt⟩ := k0
  obtain ⟨v0, v1, v2, p0, p1, p2, vlt⟩ := k5
  clear hbv hbx k1 HSV HBV
  go_wp2_with fail
  refine (l1In_yes _ _ _ _ hd.1 hd.2).mono ?_
  rintro e w' ⟨rfl, rfl⟩
  go_wp2
  clear v0 v1 v2 p0 p1 p2 c0 c1 c2' d0 d1 d2 clt vlt
  have hord : w.heap.size + 2 ≤ U.heap.size := by omega
  go_loopw [6] (fun i wr => ∃ (k : Nat) (sv : Value), k ≤ N ∧ i = .int .i64 k ∧ Cell3 wr w3.heap.size (.int .i64 R) (.int .i64 C) sv ∧ Row wr V.heap.size wr.heap.size sv (tabTo C (edgeAt d r c zs) k) ∧ Cell3 wr w.heap.size (.int .i64 r) (.int .i64 c) (.slice A2 zs.length c2) ∧ Cell3 wr (w.heap.size + 1) (.int .i64 0) (.int .i64 0) (.slice none 0 0) ∧ Sl wr U.heap.size A2 zs ∧ Below w.heap.size w wr ∧ V.heap.size ≤ wr.heap.size) (fun i _ => N - (intOf i).toNat)
  case atStart => exact ⟨0, _, Nat.zero_le _, rfl, K5'.out.set2 _, Row.nil_ _ _ _, K0'.out.far (a := ⟨w3.heap.size, 2, none⟩) (show w.heap.size ≠ w3.heap.size by omega) _, K1'.out.far (a := ⟨w3.heap.size, 2, none⟩) (show w.heap.size + 1 ≠ w3.heap.size by omega) _, HSV2.out.keep (fun p hp => World.cell?_setCell_other _ _ _ _ (fun e => by rw [← e] at hp; exact absurd (show w3.heap.size < U.heap.size from hp) (by omega))), HBV2.out.setCell (p := ⟨w3.heap.size, 2, none⟩) (show w.heap.size ≤ w3.heap.size by omega) _, by simp⟩
  case round =>
    obtain ⟨k, sv, hk, rfl, h5, hrow, h0, h1, hsl, hbel, hsz⟩ := hrel
    obtain ⟨As, cs, hsve, _, _, _⟩ := hrow.form
    have hylen : (tabTo C (edgeAt d r c zs) k).length = k := by exact tabTo_len _ _ _
    rw [hylen] at hsve
    subst hsve
    by_cases hlt : k < N
    · have HT := Lib.hid (tabTo_succ C (edgeAt d r c zs) k)
      have hC0 : 0 < C := by omega
      have hqR : k / C < R := (Nat.div_lt_iff_lt_mul hC0).2 (by have := HRC.out.2.2; omega)
      have hmC : k % C < C := Nat.mod_lt _ hC0
      have hdv := tdiv_nat k C
      have hmd := tmod_nat k C
      obtain ⟨q, hq⟩ : ∃ q, k / C = q := ⟨_, rfl⟩
      obtain ⟨m, hmq⟩ : ∃ m, k % C = m := ⟨_, rfl⟩
      rw [hq] at hdv hqR HT
      rw [hmq] at hmd hmC HT
      clear hq hmq
      have hE : edgeAt d r c zs q m = if d ≤ q ∧ q < d + r then (if d ≤ m ∧ m < d + c then zs.getD ((q - d) * c + (m - d)) 0 else 0) else 0 := rfl
      obtain ⟨z, hz⟩ : ∃ z, edgeAt d r c zs q m = z := ⟨_, rfl⟩
      rw [hz] at HT hE
      clear hz
      obtain ⟨ys, hys⟩ : ∃ ys, tabTo C (edgeAt d r c zs) k = ys := ⟨_, rfl⟩
      rw [hys] at HT hrow hylen
      clear hys
      have hkN : (k : Int) < (N : Int) := by omega
      by_cases h1r : d ≤ q ∧ q < d + r
      · rw [if_pos h1r] at hE
        by_cases h1c : d ≤ m ∧ m < d + c
        · rw [if_pos h1c] at hE
          have hlen := HLEN.out
          have hix : (q - d) * c + (m - d) < zs.length := by rw [hlen]; exact ix_lt (by omega) (by omega)
          obtain ⟨b, off, hA2, hbU, hc⟩ := hsl.at_ hix
          rw [← hE] at hc
          subst hA2
          have hixi : ((q : Int) - (d : Int)) * (c : Int) + ((m : Int) - (d : Int)) = (((q - d) * c + (m - d) : Nat) : Int) := by
            have e1 : ((q - d : Nat) : Int) = (q : Int) - d := by omega
            have e2 : ((m - d : Nat) : Int) = (m : Int) - d := by omega
            rw [Int.natCast_add, Int.natCast_mul, e1, e2]
          obtain ⟨ix, hixe⟩ : ∃ ix, (q - d) * c + (m - d) = ix := ⟨_, rfl⟩
          rw [hixe] at hix hc hixi
          have hmul : ((q : Int) - (d : Int)) * (c : Int) = (((q - d) * c : Nat) : Int) := by
            have e1 : ((q - d : Nat) : Int) = (q : Int) - d := by omega
            rw [Int.natCast_mul, e1]
          obtain ⟨iy, hiy⟩ : ∃ iy, (q - d) * c = iy := ⟨_, rfl⟩
          rw [hiy] at hmul hixe
          have hixj : (iy : Int) + ((m : Int) - (d : Int)) = (ix : Int) := by omega
          have hiyl : iy ≤ 25 := by have := HM.out.len; omega
          have hixl : (ix : Int) < (zs.length : Int) := by omega
          have hw1 : IntKind.i64.wrap (iy : Int) = (iy : Int) := wrap_in (by omega) (by omega)
          have hw3 : IntKind.i64.wrap (ix : Int) = (ix : Int) := wrap_in (by omega) (by omega)
          have hw2 : IntKind.i64.wrap ((iy : Int) + ((m : Int) - (d : Int))) = (ix : Int) := by rw [wrap_in (by omega) (by omega)]; exact hixj
          have HX := Lib.hid (And.intro hE hixi)
          clear hE hixi hlen hixe hiy
          have HROW := Lib.hid hrow
          have HSL := Lib.hid hsl
          have HBEL := Lib.hid hbel
          have H5 := Lib.hid h5
          have H0 := Lib.hid h0
          have H1 := Lib.hid h1
          have HYL := Lib.hid hylen
          have hbl := Lib.hid hrow.block_lt
          obtain ⟨v0, v1, v2, p0, p1, p2, vlt⟩ := h5
          obtain ⟨c0, c1, c2', _, _, _, clt⟩ := h0
          clear hrow hsl hbel h1 hylen
          go_wp2_with fail
          refine (l1In_yes _ _ _ _ (by omega) (by omega)).mono ?_
          rintro e w' ⟨rfl, rfl⟩
          go_wp2_with fail
          refine (l1In_yes _ _ _ _ (by omega) (by omega)).mono ?_
          rintro e w' ⟨rfl, rfl⟩
          have hal := World.grownBy_alloc wr (.cells #[.int .i64 z] 3) none
          have hownA := (HROW.out.grown hal (fun g e => by cases e)).wider (Nat.le_refl _) (hi' := wr.heap.size + 1) (by omega)
          have hD : Drew (wr.alloc (.cells #[.int .i64 z] 3)) (wr.alloc (.cells #[.int .i64 z] 3)).drew := ⟨1, rfl⟩
          have hownD := hD.row hownA
          have H5A := Lib.hid ((H5.out.grown hal (by simp)).grown (hD.grown none) (by simp))
          have H0A := Lib.hid ((H0.out.grown hal (by simp)).grown (hD.grown none) (by simp))
          have H1A := Lib.hid ((H1.out.grown hal (by simp)).grown (hD.grown none) (by simp))
          have HSA := Lib.hid (hD.sl (HSL.out.below (B' := wr.heap.size) ((Below.refl _ wr).alloc (Nat.le_refl _) (.cells #[.int .i64 z] 3)) (by omega)))
          have HBA := Lib.hid ((HBEL.out.alloc (by omega) (.cells #[.int .i64 z] 3)).trans (hD.below _))
          have hcz : (wr.alloc (.cells #[.int .i64 z] 3)).drew.cell? ⟨wr.heap.size, 0, none⟩ = some (.int .i64 z) := World.cell?_alloc_at _ _ _ _ rfl
          have hne : ∀ b, b < V.heap.size → some b ≠ (Value.slice As k cs).ownBlock := fun b hb e => by have := (hbl.out b e.symm).1; omega
          have HNE := Lib.hid hne
          obtain ⟨hx50, hx51, hx52, _, _, _, _⟩ := H5A.out
          obtain ⟨hx00, hx01, hx02, _, _, _, _⟩ := H0A.out
          have hxc : (wr.alloc (.cells #[.int .i64 z] 3)).drew.cell? ⟨b, off + ix, none⟩ = some (.int .i64 z) := hal.cell hc (by simp)
          clear hal hD hne
          go_wp2
          go_region_law (first | (refine step_app1 (by rfl) (.tmp 81) (.tmp 92) (by rfl) V.heap.size (wr.heap.size + 1) (.slice As k cs) ys k (by rfl) hownD wr.heap.size z (by rfl) hcz HYL.out (by omega) (by simp; omega) ?_; intro g5 c5 w5 hr5 hg5 hat5 hlt5; obtain ⟨y3, y4, y5, g3, g4, g5', ylt⟩ := H5A.out.grown hg5 (HNE.out w3.heap.size (by omega)); obtain ⟨y0, y1, y2, _, _, _, _⟩ := H0A.out.grown hg5 (HNE.out w.heap.size (by omega)); have yc := hg5.cell hxc (HNE.out b (by omega))))
          all_goals (
            have J5 := Lib.hid ((H5A.out.grown hg5 (HNE.out w3.heap.size (by omega))).set2 (.slice (some ⟨g5, 0, none⟩) (k + 1) c5))
            have J0 := Lib.hid ((H0A.out.grown hg5 (HNE.out _ (by omega))).far (a := ⟨w3.heap.size, 2, none⟩) (show w.heap.size ≠ w3.heap.size by omega) (.slice (some ⟨g5, 0, none⟩) (k + 1) c5))
            have J1 := Lib.hid ((H1A.out.grown hg5 (HNE.out _ (by omega))).far (a := ⟨w3.heap.size, 2, none⟩) (show w.heap.size + 1 ≠ w3.heap.size by omega) (.slice (some ⟨g5, 0, none⟩) (k + 1) c5))
            have JS := Lib.hid ((HSA.out.keep (w' := w5) (fun p hp => World.cell?_of_block (hg5.block _ (by simp; omega) (HNE.out _ (by omega))))).keep (w' := w5.setCell ⟨w3.heap.size, 2, none⟩ (.slice (some ⟨g5, 0, none⟩) (k + 1) c5)) (fun p hp => World.cell?_setCell_other _ _ _ _ (fun e => by rw [← e] at hp; exact absurd (show w3.heap.size < U.heap.size from hp) (by omega))))
            have JB := Lib.hid ((HBA.out.grown hg5 (by simp; omega) (fun g e => by have := (hbl.out g e).1; omega)).setCell (p := ⟨w3.heap.size, 2, none⟩) (show w.heap.size ≤ w3.heap.size by omega) (.slice (some ⟨g5, 0, none⟩) (k + 1) c5))
            have JR := Lib.hid (hr5.grown (set_grown w5 w3.heap.size 2 (.slice (some ⟨g5, 0, none⟩) (k + 1) c5)) (fun g e => by cases e; left; omega))
            have hsz5 := hg5.size
            clear hr5 hg5 hat5 y0 y1 y2 y3 y4 y5
            go_wp2
            go_roundw
            case rel => exact ⟨k + 1, _, by omega, by go_num, J5.out, by rw [HT.out]; simpa using JR.out, J0.out, J1.out, JS.out, JB.out, by simp at hsz5 ⊢; omega⟩
            case measure => simp [intOf]; omega)
        · rw [if_neg h1c] at hE
          subst hE
          have h1c' : (m : Int) - (d : Int) < 0 ∨ (c : Int) - 1 < (m : Int) - (d : Int) := by omega
          have HROW := Lib.hid hrow
          have HSL := Lib.hid hsl
          have HBEL := Lib.hid hbel
          have H5 := Lib.hid h5
          have H0 := Lib.hid h0
          have H1 := Lib.hid h1
          have HYL := Lib.hid hylen
          have hbl := Lib.hid hrow.block_lt
          obtain ⟨v0, v1, v2, p0, p1, p2, vlt⟩ := h5
          obtain ⟨c0, c1, c2', _, _, _, clt⟩ := h0
          clear hrow hsl hbel h1 hylen
          have hal := World.grownBy_alloc wr (.cells #[.int .i64 0] 3) none
          have hownA := (HROW.out.grown hal (fun g e => by cases e)).wider (Nat.le_refl _) (hi' := wr.heap.size + 1) (by omega)
          have H5A := Lib.hid (H5.out.grown hal (by simp))
          have H0A := Lib.hid (H0.out.grown hal (by simp))
          have H1A := Lib.hid (H1.out.grown hal (by simp))
          have HSA := Lib.hid (HSL.out.below (B' := wr.heap.size) ((Below.refl _ wr).alloc (Nat.le_refl _) (.cells #[.int .i64 0] 3)) (by omega))
          have HBA := Lib.hid (HBEL.out.alloc (by omega) (.cells #[.int .i64 0] 3))
          clear hal
          go_wp2_with fail
          refine (l1In_yes _ _ _ _ (by omega) (by omega)).mono ?_
          rintro e w' ⟨rfl, rfl⟩
          go_wp2_with fail
          refine (l1In_no _ _ _ _ h1c').mono ?_
          rintro e w' ⟨rfl, rfl⟩
          go_wp2_with (
            at_builtin
            go_loud (refine wpList_app1 rfl (.tmp 96) (.tmp 97) rfl V.heap.size (wr.heap.size + 1) (.slice As k cs) ys rfl hownA wr.heap.size 0 rfl (World.cell?_alloc_at _ _ _ _ rfl) (by have := HYL.out; omega) (by simp; omega) ?_)
            intro v' w5 hr5 hg5
            go_loud (
             obtain ⟨A5, c5, hv5, _, _, _⟩ := hr5.form
             rw [show (ys ++ [(0 : Int)]).length = k + 1 by have := HYL.out; simp; omega] at hv5
             subst hv5
             have hne : ∀ b, b < V.heap.size → some b ≠ (Value.slice As k cs).ownBlock := fun b hb e => by have := (hbl.out b e.symm).1; omega
             have J5 := H5A.out.grown hg5 (hne _ (by omega))
             have J0 := Lib.hid ((H0A.out.grown hg5 (hne _ (by omega))).far (a := ⟨w3.heap.size, 2, none⟩) (show w.heap.size ≠ w3.heap.size by omega) (.slice A5 (k + 1) c5))
             have J1 := Lib.hid ((H1A.out.grown hg5 (hne _ (by omega))).far (a := ⟨w3.heap.size, 2, none⟩) (show w.heap.size + 1 ≠ w3.heap.size by omega) (.slice A5 (k + 1) c5))
             have JS := Lib.hid ((HSA.out.keep (w' := w5) (fun p hp => World.cell?_of_block (hg5.block _ (by simp; omega) (hne _ (by omega))))).keep (w' := w5.setCell ⟨w3.heap.size, 2, none⟩ (.slice A5 (k + 1) c5)) (fun p hp => World.cell?_setCell_other _ _ _ _ (fun e => by rw [← e] at hp; exact absurd (show w3.heap.size < U.heap.size from hp) (by omega))))
             have JB := Lib.hid ((HBA.out.grown hg5 (by simp; omega) (fun g e => by have := (hbl.out g e).1; omega)).setCell (p := ⟨w3.heap.size, 2, none⟩) (show w.heap.size ≤ w3.heap.size by omega) (.slice A5 (k + 1) c5))
             have JR := Lib.hid (hr5.grown (set_grown w5 w3.heap.size 2 (.slice A5 (k + 1) c5)) (fun g e => by cases e; left; omega))
             have J5' := Lib.hid (J5.set2 (.slice A5 (k + 1) c5))
             have hsz5 := hg5.size
             obtain ⟨v0, v1, v2, p0, p1, p2, vlt5⟩ := J5
             clear hr5 hg5 hne))
          go_roundw
          case rel => exact ⟨k + 1, _, by omega, by go_num, J5'.out, by rw [HT.out]; simpa using JR.out, J0.out, J1.out, JS.out, JB.out, by simp at hsz5 ⊢; omega⟩
          case measure => simp [intOf]; omega
      · rw [if_neg h1r] at hE
        subst hE
        have h1r' : (q : Int) - (d : Int) < 0 ∨ (r : Int) - 1 < (q : Int) - (d : Int) := by omega
        have HROW := Lib.hid hrow
        have HSL := Lib.hid hsl
        have HBEL := Lib.hid hbel
        have H5 := Lib.hid h5
        have H0 := Lib.hid h0
        have H1 := Lib.hid h1
        have HYL := Lib.hid hylen
        have hbl := Lib.hid hrow.block_lt
        obtain ⟨v0, v1, v2, p0, p1, p2, vlt⟩ := h5
        obtain ⟨c0, c1, c2', _, _, _, clt⟩ := h0
        clear hrow hsl hbel h1 hylen
        have hal := World.grownBy_alloc wr (.cells #[.int .i64 0] 3) none
        have hownA := (HROW.out.grown hal (fun g e => by cases e)).wider (Nat.le_refl _) (hi' := wr.heap.size + 1) (by omega)
        have H5A := Lib.hid (H5.out.grown hal (by simp))
        have H0A := Lib.hid (H0.out.grown hal (by simp))
        have H1A := Lib.hid (H1.out.grown hal (by simp))
        have HSA := Lib.hid (HSL.out.below (B' := wr.heap.size) ((Below.refl _ wr).alloc (Nat.le_refl _) (.cells #[.int .i64 0] 3)) (by omega))
        have HBA := Lib.hid (HBEL.out.alloc (by omega) (.cells #[.int .i64 0] 3))
        clear hal
        go_wp2_with fail
        refine (l1In_no _ _ _ _ h1r').mono ?_
        rintro e w' ⟨rfl, rfl⟩
        go_wp2_with (
          at_builtin
          go_loud (refine wpList_app1 rfl (.tmp 96) (.tmp 97) rfl V.heap.size (wr.heap.size + 1) (.slice As k cs) ys rfl hownA wr.heap.size 0 rfl (World.cell?_alloc_at _ _ _ _ rfl) (by have := HYL.out; omega) (by simp; omega) ?_)
          intro v' w5 hr5 hg5
          go_loud (
           obtain ⟨A5, c5, hv5, _, _, _⟩ := hr5.form
           rw [show (ys ++ [(0 : Int)]).length = k + 1 by have := HYL.out; simp; omega] at hv5
           subst hv5
           have hne : ∀ b, b < V.heap.size → some b ≠ (Value.slice As k cs).ownBlock := fun b hb e => by have := (hbl.out b e.symm).1; omega
           have J5 := H5A.out.grown hg5 (hne _ (by omega))
           have J0 := Lib.hid ((H0A.out.grown hg5 (hne _ (by omega))).far (a := ⟨w3.heap.size, 2, none⟩) (show w.heap.size ≠ w3.heap.size by omega) (.slice A5 (k + 1) c5))
           have J1 := Lib.hid ((H1A.out.grown hg5 (hne _ (by omega))).far (a := ⟨w3.heap.size, 2, none⟩) (show w.heap.size + 1 ≠ w3.heap.size by omega) (.slice A5 (k + 1) c5))
           have JS := Lib.hid ((HSA.out.keep (w' := w5) (fun p hp => World.cell?_of_block (hg5.block _ (by simp; omega) (hne _ (by omega))))).keep (w' := w5.setCell ⟨w3.heap.size, 2, none⟩ (.slice A5 (k + 1) c5)) (fun p hp => World.cell?_setCell_other _ _ _ _ (fun e => by rw [← e] at hp; exact absurd (show w3.heap.size < U.heap.size from hp) (by omega))))
           have JB := Lib.hid ((HBA.out.grown hg5 (by simp; omega) (fun g e => by have := (hbl.out g e).1; omega)).setCell (p := ⟨w3.heap.size, 2, none⟩) (show w.heap.size ≤ w3.heap.size by omega) (.slice A5 (k + 1) c5))
           have JR := Lib.hid (hr5.grown (set_grown w5 w3.heap.size 2 (.slice A5 (k + 1) c5)) (fun g e => by cases e; left; omega))
           have J5' := Lib.hid (J5.set2 (.slice A5 (k + 1) c5))
           have hsz5 := hg5.size
           obtain ⟨v0, v1, v2, p0, p1, p2, vlt5⟩ := J5
           clear hr5 hg5 hne))
        go_roundw
        case rel => exact ⟨k + 1, _, by omega, by go_num, J5'.out, by rw [HT.out]; simpa using JR.out, J0.out, J1.out, JS.out, JB.out, by simp at hsz5 ⊢; omega⟩
        case measure => simp [intOf]; omega
    · have e : k = N := by omega
      have HE := Lib.hid e
      have HROW := Lib.hid hrow
      have HBEL := Lib.hid hbel
      have H1 := Lib.hid h1
      obtain ⟨v0, v1, v2, p0, p1, p2, vlt⟩ := h5
      obtain ⟨c0, c1, c2', _, _, _, clt⟩ := h0
      obtain ⟨b0, b1, b2, g0, g1, g2, blt⟩ := h1
      clear hrow hsl hbel e hylen
      go_wp2
      have P2 := ((H1.out.set0 (.int .i64 R)).set1 (.int .i64 C)).set2 (.slice As k cs)
      have R2 := HROW.out.grown (set_grown _ (w.heap.size + 1) 0 (.int .i64 R)) (fun g e => by cases e; left; omega)
      have R3 := R2.grown (set_grown _ (w.heap.size + 1) 1 (.int .i64 C)) (fun g e => by cases e; left; omega)
      have R4 := R3.grown (set_grown _ (w.heap.size + 1) 2 (.slice As k cs)) (fun g e => by cases e; left; omega)
      have B4 := ((HBEL.out.setCell (p := ⟨w.heap.size + 1, 0, none⟩) (by simp) (.int .i64 R)).setCell (p := ⟨w.heap.size + 1, 1, none⟩) (by simp) (.int .i64 C)).setCell (p := ⟨w.heap.size + 1, 2, none⟩) (by simp) (.slice As k cs)
      have S4 : ((((wr.setCell ⟨w.heap.size + 1, 0, none⟩ (.int .i64 R)).setCell ⟨w.heap.size + 1, 1, none⟩ (.int .i64 C)).setCell ⟨w.heap.size + 1, 2, none⟩ (.slice As k cs)).heap.size) = wr.heap.size := by simp
      obtain ⟨W4, hW4⟩ : ∃ W4, (((wr.setCell ⟨w.heap.size + 1, 0, none⟩ (.int .i64 R)).setCell ⟨w.heap.size + 1, 1, none⟩ (.int .i64 C)).setCell ⟨w.heap.size + 1, 2, none⟩ (.slice As k cs)) = W4 := ⟨_, rfl⟩
      rw [hW4] at P2 R4 B4 S4 ⊢
      obtain ⟨z0, z1, z2, _, _, _, _⟩ := P2
      have hfin := HRC.out
      have hfull : tabTo C (edgeAt d r c zs) N = edgeZ d r c zs := by rw [← hfin.2.2, tabTo_full, ← hfin.1, ← hfin.2.1]; rfl
      rw [HE.out, hfull] at R4
      rw [HE.out] at z2
      refine bodyPost_ret (v := matV R C (.slice As N cs)) (by simp [results, Try.results49, go_sem, z0, z1, z2]) rfl ?_
      exact ⟨_, rfl, R4.wider (by omega) (by omega), B4⟩
end Go.Proofs.Ytakjmdjjpalaiaa
