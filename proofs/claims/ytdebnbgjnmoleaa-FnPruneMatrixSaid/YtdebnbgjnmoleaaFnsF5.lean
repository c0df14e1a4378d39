/- Contracts: pruned matrices, the reference's: valid ones. -/
import Derived.Test.YtdebnbgjnmoleaaFnsF4
import Derived.Deep.AppendLies
import Derived.Deep.RegionLaw
namespace Go.Proofs.Ytdebnbgjnmoleaa
open Go.RowKit

/-- append of one number, at a step of a region that draws its order. -/
theorem step_app1 {w : World} {ops : Array Oper} {o : Oper} {a : Act} {K : Act → World → Prop} {Q : Exit → Act → World → Prop} {E : Prop} (hgd : o.guard = none) (s x : Operand)
    (ho : o.op = .call { callee := .builtin .append, args := #[s, x], argTypes := #[22, 22] })
    (lo hi : Nat) (v : Value) (ys : List Int) (m : Nat) (hsv : a.eval s = v) (hrow : Row w lo hi v ys) (g : Nat) (z : Int) (hx : a.eval x = .slice (some ⟨g, 0, none⟩) 1 1) (hz : w.cell? ⟨g, 0, none⟩ = some (.int .i64 z))
    (hm : ys.length = m) (hn : m ≤ 2000000) (hlo : lo ≤ w.heap.size)
    (h : ∀ g' cap w', Row w' lo w'.heap.size (.slice (some ⟨g', 0, none⟩) (m + 1) cap) (ys ++ [z]) → w.grownBy w' v.ownBlock → (v.ownBlock = some g' ∨ g' = w.heap.size) → g' < w'.heap.size → K (a.put o.dst (.slice (some ⟨g', 0, none⟩) (m + 1) cap)) w') :
    if Region.wanted o (yielded ops a.tmps) = true then Oper.wp Try.prog o a w K Q else E := by
  subst hm
  obtain ⟨i0, hi0, hz0, hz1, hz2⟩ := info_parts info_int
  refine step_append_lies w hgd s x 22 ho lo 3 i0 (.int .i64 0) 1 8 Try.underlying22 hi0 hz0 hz1 hz2 rfl (by decide) v ys.length _ hsv hrow.1 ⟨g, 0, none⟩ 1 1 [.int .i64 z] hx rfl ?_ (by intro u hu; simp at hu; subst hu; rfl) (by omega) (by simp only [maxLen]; omega) (by omega) hlo w.heap.size rfl ?_
  · intro j u hj
    match j, hj with
    | 0, hj => simp at hj; subst hj; simpa [Addr.add] using hz
  · intro g' cap w' h1 h2 h3 h4
    refine h g' cap w' ⟨by simpa using h1, fun g hg => (h1.lt g hg).2⟩ h2 h3 h4
theorem mapTake_succ (f : Int → Int) (zs : List Int) (k : Nat) (hk : k < zs.length) : (zs.take (k + 1)).map f = (zs.take k).map f ++ [f (zs.getD k 0)] := by
  have e3 : zs.take (k + 1) = zs.take k ++ [zs.getD k 0] := by rw [List.take_add_one, List.getElem?_eq_getElem hk]; simp [hk]
  rw [e3, List.map_append]
  rfl
section
variable (r c l : Int) (A : Option Addr) (cap n B : Nat) (zs : List Int) (w : World) (hs : Sl w B A zs) (hB : B ≤ w.heap.size) (e : n = zs.length) (hn : n ≤ 1100000)
include hs hB e hn
set_option maxHeartbeats 1600000 in
theorem specPrune_yes (h : OkP r c zs l) : Calls Try.prog 35 #[matV r c (.slice A n cap), .int .i64 l] w fun e w' => ∃ s, e = .returned (matV r c s) ∧ Row w' w.heap.size w'.heap.size s (zs.map (pruneF l)) ∧ Below w.heap.size w w' := by
  subst e
  obtain ⟨hm, l0, l1⟩ := h
  obtain ⟨W, hW⟩ : ∃ W, (w.alloc (.cells #[.int .i64 r, .int .i64 c, .slice A zs.length cap] 28)).alloc (.cells #[.int .i64 0, .int .i64 0, .slice none 0 0] 28) = W := ⟨_, rfl⟩
  obtain ⟨q0, q1, hb, hws⟩ := nest2 w r c (.slice A zs.length cap) W hW.symm
  have HS := Lib.hid (hs.below hb hB)
  have Q0 := Lib.hid q0
  have Q1 := Lib.hid q1
  have HM := Lib.hid hm
  have hz25 := hm.len
  obtain ⟨a0, a1, a2, f0, f1, f2, alt⟩ := q0
  clear hs q1 hm
  go_enter Try.func35, Try.ntmps35
  go_wp2_with fail
  refine (ownM_any r c A cap _ B zs W HS.out (by omega) rfl hn).mono ?_
  rintro e w2 ⟨s2, rfl, hr2, hb2⟩
  obtain ⟨A2, c2, rfl, _, _, hs2⟩ := hr2.form
  have k0 := Q0.out.below hb2 (by omega)
  have k1 := Q1.out.below hb2 (by omega)
  have K0 := Lib.hid (((k0.set0 (.int .i64 r)).set1 (.int .i64 c)).set2 (.slice A2 zs.length c2))
  have K1 := Lib.hid (((k1.far (a := ⟨w.heap.size, 0, none⟩) (by simp) (.int .i64 r)).far (a := ⟨w.heap.size, 1, none⟩) (by simp) (.int .i64 c)).far (a := ⟨w.heap.size, 2, none⟩) (by simp) (.slice A2 zs.length c2))
  have hz2 := hb2.size
  obtain ⟨c0, c1, c2', d0, d1, d2, clt⟩ := k0
  clear a0 a1 a2 f0 f1 f2 alt Q0 Q1 k1
  go_wp2_with fail
  have R1 := hr2.grown (set_grown _ w.heap.size 0 (.int .i64 r)) (fun g e => by cases e; left; omega)
  have R2 := R1.grown (set_grown _ w.heap.size 1 (.int .i64 c)) (fun g e => by cases e; left; omega)
  have R3 := R2.grown (set_grown _ w.heap.size 2 (.slice A2 zs.length c2)) (fun g e => by cases e; left; omega)
  have B3 := (((hb.trans (hb2.mono (show w.heap.size ≤ W.heap.size by omega))).setCell (p := ⟨w.heap.size, 0, none⟩) (Nat.le_refl _) (.int .i64 r)).setCell (p := ⟨w.heap.size, 1, none⟩) (Nat.le_refl _) (.int .i64 c)).setCell (p := ⟨w.heap.size, 2, none⟩) (Nat.le_refl _) (.slice A2 zs.length c2)
  have S3 : ((((w2.setCell ⟨w.heap.size, 0, none⟩ (.int .i64 r)).setCell ⟨w.heap.size, 1, none⟩ (.int .i64 c)).setCell ⟨w.heap.size, 2, none⟩ (.slice A2 zs.length c2)).heap.size) = w2.heap.size := by simp
  obtain ⟨U, hU⟩ : ∃ U, (((w2.setCell ⟨w.heap.size, 0, none⟩ (.int .i64 r)).setCell ⟨w.heap.size, 1, none⟩ (.int .i64 c)).setCell ⟨w.heap.size, 2, none⟩ (.slice A2 zs.length c2)) = U := ⟨_, rfl⟩
  rw [hU] at K0 K1 R3 B3 S3 ⊢
  have HSU := Lib.hid (R3.sl_now.more (Nat.le_of_eq S3.symm))
  have HBU := Lib.hid B3
  clear R1 R2 R3 B3 hb2 hr2 hs2 c0 c1 c2' d0 d1 d2 clt hb
  refine (specMV_yes r c A2 c2 _ _ zs U HSU.out (Nat.le_refl _) rfl (by omega) HM.out).mono ?_
  rintro e w3 ⟨rfl, hb3⟩
  have hs3 := hb3.size
  have k0 := K0.out.below hb3 (by omega)
  have k1 := K1.out.below hb3 (by omega)
  have HSV := Lib.hid (HSU.out.below hb3 (Nat.le_refl _))
  have HBV := Lib.hid (HBU.out.trans (hb3.mono (by omega)))
  clear hb3
  have k5 := Cell3.new w3 (.int .i64 r) (.int .i64 c) (.slice none 0 0) 28
  have hbx := World.grownBy_alloc w3 (.cells #[.int .i64 r, .int .i64 c, .slice none 0 0] 28) none
  obtain ⟨V, hV⟩ : ∃ V, w3.alloc (.cells #[.int .i64 r, .int .i64 c, .slice none 0 0] 28) = V := ⟨_, rfl⟩
  rw [hV] at k5 hbx
  have hsv : V.heap.size = w3.heap.size + 1 := by rw [← hV]; simp
  have hbv : Below w3.heap.size w3 V := hV ▸ (Below.refl _ _).alloc (Nat.le_refl _) _
  have HSV2 := Lib.hid (HSV.out.below hbv hs3)
  have HBV2 := Lib.hid (HBV.out.trans (hbv.mono (by omega)))
  have K0' := Lib.hid (k0.grown hbx (by simp))
  have K1' := Lib.hid (k1.grown hbx (by simp))
  have K5' := Lib.hid k5
  obtain ⟨c0, c1, c2', d0, d1, d2, clt⟩ := k0
  obtain ⟨v0, v1, v2, p0, p1, p2, vlt⟩ := k5
  clear hbv hbx k1 HSV HBV
  go_wp2_with fail
  refine (l1In_yes _ _ _ _ l0 l1).mono ?_
  rintro e w' ⟨rfl, rfl⟩
  go_wp2
  clear v0 v1 v2 p0 p1 p2 c0 c1 c2' d0 d1 d2 clt vlt
  have hord : w.heap.size + 2 ≤ U.heap.size := by omega
  go_loopw [6] (fun i wr => ∃ (k : Nat) (sv : Value), k ≤ zs.length ∧ i = .int .i64 k ∧ Cell3 wr w3.heap.size (.int .i64 r) (.int .i64 c) sv ∧ Row wr V.heap.size wr.heap.size sv ((zs.take k).map (pruneF l)) ∧ Cell3 wr w.heap.size (.int .i64 r) (.int .i64 c) (.slice A2 zs.length c2) ∧ Cell3 wr (w.heap.size + 1) (.int .i64 0) (.int .i64 0) (.slice none 0 0) ∧ Sl wr U.heap.size A2 zs ∧ Below w.heap.size w wr ∧ V.heap.size ≤ wr.heap.size) (fun i _ => zs.length - (intOf i).toNat)
  case atStart => exact ⟨0, _, Nat.zero_le _, rfl, K5'.out.set2 _, Row.nil_ _ _ _, K0'.out.far (a := ⟨w3.heap.size, 2, none⟩) (show w.heap.size ≠ w3.heap.size by omega) _, K1'.out.far (a := ⟨w3.heap.size, 2, none⟩) (show w.heap.size + 1 ≠ w3.heap.size by omega) _, HSV2.out.keep (fun p hp => World.cell?_setCell_other _ _ _ _ (fun e => by rw [← e] at hp; exact absurd (show w3.heap.size < U.heap.size from hp) (by omega))), HBV2.out.setCell (p := ⟨w3.heap.size, 2, none⟩) (show w.heap.size ≤ w3.heap.size by omega) _, by simp⟩
  case round =>
    obtain ⟨k, sv, hk, rfl, h5, hrow, h0, h1, hsl, hbel, hsz⟩ := hrel
    obtain ⟨As, cs, hsve, _, _, _⟩ := hrow.form
    have hylen : ((zs.take k).map (pruneF l)).length = k := by simp; omega
    rw [hylen] at hsve
    subst hsve
    by_cases hlt : k < zs.length
    · obtain ⟨b, off, rfl, hbU, hc⟩ := hsl.at_ hlt
      have hzr := HM.out.2.2.2 k hlt
      have HT := Lib.hid (mapTake_succ (pruneF l) zs k hlt)
      obtain ⟨z, hz⟩ : ∃ z, zs.getD k 0 = z := ⟨_, rfl⟩
      rw [hz] at hzr hc HT
      clear hz
      obtain ⟨ys, hys⟩ : ∃ ys, (zs.take k).map (pruneF l) = ys := ⟨_, rfl⟩
      rw [hys] at HT hrow hylen
      clear hys
      have hsb := sgn_bound hzr.1 hzr.2
      have hP : pruneF l z = if sgn z < l ∧ -sgn z < l then 0 else z := rfl
      have hcall := specSgn z wr hzr.1 hzr.2
      obtain ⟨s, hse⟩ : ∃ s, sgn z = s := ⟨_, rfl⟩
      rw [hse] at hsb hP hcall
      clear hse
      have HROW := Lib.hid hrow
      have HSL := Lib.hid hsl
      have HBEL := Lib.hid hbel
      have H5 := Lib.hid h5
      have H0 := Lib.hid h0
      have H1 := Lib.hid h1
      have HYL := Lib.hid hylen
      have hbl := Lib.hid hrow.block_lt
      obtain ⟨v0, v1, v2, p0, p1, p2, vlt⟩ := h5
      obtain ⟨c0, c1, c2', _, _, _, clt⟩ := h0
      clear hrow hsl hbel h1 hylen
      by_cases t1 : s < l
      · by_cases t2 : -s < l
        · rw [if_pos ⟨t1, t2⟩] at hP
          rw [hP] at HT
          have hal := World.grownBy_alloc wr (.cells #[.int .i64 0] 3) none
          have hownA := (HROW.out.grown hal (fun g e => by cases e)).wider (Nat.le_refl _) (hi' := wr.heap.size + 1) (by omega)
          have H5A := Lib.hid (H5.out.grown hal (by simp))
          have H0A := Lib.hid (H0.out.grown hal (by simp))
          have H1A := Lib.hid (H1.out.grown hal (by simp))
          have HSA := Lib.hid (HSL.out.below (B' := wr.heap.size) ((Below.refl _ wr).alloc (Nat.le_refl _) (.cells #[.int .i64 0] 3)) (by omega))
          have HBA := Lib.hid (HBEL.out.alloc (by omega) (.cells #[.int .i64 0] 3))
          clear hal hP
          go_wp2_with fail
          refine hcall.mono ?_
          rintro e w' ⟨rfl, rfl⟩
          clear hcall
          go_wp2_with (
            at_builtin
            go_loud (refine wpList_app1 rfl (.tmp 47) (.tmp 48) rfl V.heap.size (wr.heap.size + 1) (.slice As k cs) ys rfl hownA wr.heap.size 0 rfl (World.cell?_alloc_at _ _ _ _ rfl) (by have := HYL.out; omega) (by simp; omega) ?_)
            intro v' w5 hr5 hg5
            go_loud (
             obtain ⟨A5, c5, hv5, _, _, _⟩ := hr5.form
             rw [show (ys ++ [(0 : Int)]).length = k + 1 by have := HYL.out; simp; omega] at hv5
             subst hv5
             have hne : ∀ b, b < V.heap.size → some b ≠ (Value.slice As k cs).ownBlock := fun b hb e => by have := (hbl.out b e.symm).1; omega
             have J5 := H5A.out.grown hg5 (hne _ (by omega))
             have J0 := Lib.hid ((H0A.out.grown hg5 (hne _ (by omega))).far (a := ⟨w3.heap.size, 2, none⟩) (show w.heap.size ≠ w3.heap.size by omega) (.slice A5 (k + 1) c5))
             have J1 := Lib.hid ((H1A.out.grown hg5 (hne _ (by omega))).far (a := ⟨w3.heap.size, 2, none⟩) (show w.heap.size + 1 ≠ w3.heap.size by omega) (.slice A5 (k + 1) c5))
             have JS := Lib.hid ((HSA.out.keep (w' := w5) (fun p hp => World.cell?_of_block (hg5.block _ (by simp; omega) (hne _ (by omega))))).keep (w' := w5.setCell ⟨w3.heap.size, 2, none⟩ (.slice A5 (k + 1) c5)) (fun p hp => World.cell?_setCell_other _ _ _ _ (fun e => by rw [← e] at hp; exact absurd (show w3.heap.size < U.heap.size from hp) (by omega))))
             have JB := Lib.hid ((HBA.out.grown hg5 (by simp; omega) (fun g e => by have := (hbl.out g e).1; omega)).setCell (p := ⟨w3.heap.size, 2, none⟩) (show w.heap.size ≤ w3.heap.size by omega) (.slice A5 (k + 1) c5))
             have JR := Lib.hid (hr5.grown (set_grown w5 w3.heap.size 2 (.slice A5 (k + 1) c5)) (fun g e => by cases e; left; omega))
             have J5' := Lib.hid (J5.set2 (.slice A5 (k + 1) c5))
             have hsz5 := hg5.size
             obtain ⟨v0, v1, v2, p0, p1, p2, vlt5⟩ := J5
             clear hr5 hg5 hne))
          go_roundw
          case rel => exact ⟨k + 1, _, by omega, by go_num, J5'.out, by rw [HT.out]; simpa using JR.out, J0.out, J1.out, JS.out, JB.out, by simp at hsz5 ⊢; omega⟩
          case measure => simp [intOf]; omega
        · skip
          have hPz : pruneF l z = z := by rw [hP]; exact if_neg (by omega)
          rw [hPz] at HT
          have hal := World.grownBy_alloc wr (.cells #[.int .i64 z] 3) none
          have hownA := (HROW.out.grown hal (fun g e => by cases e)).wider (Nat.le_refl _) (hi' := wr.heap.size + 1) (by omega)
          have hD : Drew (wr.alloc (.cells #[.int .i64 z] 3)) (wr.alloc (.cells #[.int .i64 z] 3)).drew := ⟨1, rfl⟩
          have hownD := hD.row hownA
          have H5A := Lib.hid ((H5.out.grown hal (by simp)).grown (hD.grown none) (by simp))
          have H0A := Lib.hid ((H0.out.grown hal (by simp)).grown (hD.grown none) (by simp))
          have H1A := Lib.hid ((H1.out.grown hal (by simp)).grown (hD.grown none) (by simp))
          have HSA := Lib.hid (hD.sl (HSL.out.below (B' := wr.heap.size) ((Below.refl _ wr).alloc (Nat.le_refl _) (.cells #[.int .i64 z] 3)) (by omega)))
          have HBA := Lib.hid ((HBEL.out.alloc (by omega) (.cells #[.int .i64 z] 3)).trans (hD.below _))
          have hcz : (wr.alloc (.cells #[.int .i64 z] 3)).drew.cell? ⟨wr.heap.size, 0, none⟩ = some (.int .i64 z) := World.cell?_alloc_at _ _ _ _ rfl
          have hne : ∀ b, b < V.heap.size → some b ≠ (Value.slice As k cs).ownBlock := fun b hb e => by have := (hbl.out b e.symm).1; omega
          have HNE := Lib.hid hne
          have hx5 := H5A.out.c2
          have hx0 := H0A.out.c2
          have hxc : (wr.alloc (.cells #[.int .i64 z] 3)).drew.cell? ⟨b, off + k, none⟩ = some (.int .i64 z) := hal.cell hc (by simp)
          have hkz : (k : Int) < (zs.length : Int) := by omega
          clear hal hP hD hne
          have hd2 : decide (-s < l) = false := by simp; omega
          go_wp2_with fail
          refine hcall.mono ?_
          rintro e w' ⟨rfl, rfl⟩
          clear hcall
          go_wp2
          go_region_law (first | (refine step_app1 (by rfl) (.tmp 52) (.tmp 58) (by rfl) V.heap.size (wr.heap.size + 1) (.slice As k cs) ys k (by rfl) hownD wr.heap.size z (by rfl) hcz HYL.out (by omega) (by simp; omega) ?_; intro g5 c5 w5 hr5 hg5 hat5 hlt5; obtain ⟨y3, y4, y5, g3, g4, g5', ylt⟩ := H5A.out.grown hg5 (HNE.out w3.heap.size (by omega)); have y0 := hg5.cell hx0 (HNE.out w.heap.size (by omega)); have yc := hg5.cell hxc (HNE.out b (by omega))))
          all_goals (
            have J5 := Lib.hid ((H5A.out.grown hg5 (HNE.out w3.heap.size (by omega))).set2 (.slice (some ⟨g5, 0, none⟩) (k + 1) c5))
            have J0 := Lib.hid ((H0A.out.grown hg5 (HNE.out _ (by omega))).far (a := ⟨w3.heap.size, 2, none⟩) (show w.heap.size ≠ w3.heap.size by omega) (.slice (some ⟨g5, 0, none⟩) (k + 1) c5))
            have J1 := Lib.hid ((H1A.out.grown hg5 (HNE.out _ (by omega))).far (a := ⟨w3.heap.size, 2, none⟩) (show w.heap.size + 1 ≠ w3.heap.size by omega) (.slice (some ⟨g5, 0, none⟩) (k + 1) c5))
            have JS := Lib.hid ((HSA.out.keep (w' := w5) (fun p hp => World.cell?_of_block (hg5.block _ (by simp; omega) (HNE.out _ (by omega))))).keep (w' := w5.setCell ⟨w3.heap.size, 2, none⟩ (.slice (some ⟨g5, 0, none⟩) (k + 1) c5)) (fun p hp => World.cell?_setCell_other _ _ _ _ (fun e => by rw [← e] at hp; exact absurd (show w3.heap.size < U.heap.size from hp) (by omega))))
            have JB := Lib.hid ((HBA.out.grown hg5 (by simp; omega) (fun g e => by have := (hbl.out g e).1; omega)).setCell (p := ⟨w3.heap.size, 2, none⟩) (show w.heap.size ≤ w3.heap.size by omega) (.slice (some ⟨g5, 0, none⟩) (k + 1) c5))
            have JR := Lib.hid (hr5.grown (set_grown w5 w3.heap.size 2 (.slice (some ⟨g5, 0, none⟩) (k + 1) c5)) (fun g e => by cases e; left; omega))
            have hsz5 := hg5.size
            clear hr5 hg5 hat5 y3 y4 y5 y0 yc
            go_wp2
            go_roundw
            case rel => exact ⟨k + 1, _, by omega, by go_num, J5.out, by rw [HT.out]; simpa using JR.out, J0.out, J1.out, JS.out, JB.out, by simp at hsz5 ⊢; omega⟩
            case measure => simp [intOf]; omega)
      · skip
        have hPz : pruneF l z = z := by rw [hP]; exact if_neg (by omega)
        rw [hPz] at HT
        have hal := World.grownBy_alloc wr (.cells #[.int .i64 z] 3) none
        have hownA := (HROW.out.grown hal (fun g e => by cases e)).wider (Nat.le_refl _) (hi' := wr.heap.size + 1) (by omega)
        have hD : Drew (wr.alloc (.cells #[.int .i64 z] 3)) (wr.alloc (.cells #[.int .i64 z] 3)).drew := ⟨1, rfl⟩
        have hownD := hD.row hownA
        have H5A := Lib.hid ((H5.out.grown hal (by simp)).grown (hD.grown none) (by simp))
        have H0A := Lib.hid ((H0.out.grown hal (by simp)).grown (hD.grown none) (by simp))
        have H1A := Lib.hid ((H1.out.grown hal (by simp)).grown (hD.grown none) (by simp))
        have HSA := Lib.hid (hD.sl (HSL.out.below (B' := wr.heap.size) ((Below.refl _ wr).alloc (Nat.le_refl _) (.cells #[.int .i64 z] 3)) (by omega)))
        have HBA := Lib.hid ((HBEL.out.alloc (by omega) (.cells #[.int .i64 z] 3)).trans (hD.below _))
        have hcz : (wr.alloc (.cells #[.int .i64 z] 3)).drew.cell? ⟨wr.heap.size, 0, none⟩ = some (.int .i64 z) := World.cell?_alloc_at _ _ _ _ rfl
        have hne : ∀ b, b < V.heap.size → some b ≠ (Value.slice As k cs).ownBlock := fun b hb e => by have := (hbl.out b e.symm).1; omega
        have HNE := Lib.hid hne
        have hx5 := H5A.out.c2
        have hx0 := H0A.out.c2
        have hxc : (wr.alloc (.cells #[.int .i64 z] 3)).drew.cell? ⟨b, off + k, none⟩ = some (.int .i64 z) := hal.cell hc (by simp)
        have hkz : (k : Int) < (zs.length : Int) := by omega
        clear hal hP hD hne
        have hd2 : decide (s < l) = false := by simp; omega
        go_wp2_with fail
        refine hcall.mono ?_
        rintro e w' ⟨rfl, rfl⟩
        clear hcall
        go_wp2
        go_region_law (first | (refine step_app1 (by rfl) (.tmp 52) (.tmp 58) (by rfl) V.heap.size (wr.heap.size + 1) (.slice As k cs) ys k (by rfl) hownD wr.heap.size z (by rfl) hcz HYL.out (by omega) (by simp; omega) ?_; intro g5 c5 w5 hr5 hg5 hat5 hlt5; obtain ⟨y3, y4, y5, g3, g4, g5', ylt⟩ := H5A.out.grown hg5 (HNE.out w3.heap.size (by omega)); have y0 := hg5.cell hx0 (HNE.out w.heap.size (by omega)); have yc := hg5.cell hxc (HNE.out b (by omega))))
        all_goals (
          have J5 := Lib.hid ((H5A.out.grown hg5 (HNE.out w3.heap.size (by omega))).set2 (.slice (some ⟨g5, 0, none⟩) (k + 1) c5))
          have J0 := Lib.hid ((H0A.out.grown hg5 (HNE.out _ (by omega))).far (a := ⟨w3.heap.size, 2, none⟩) (show w.heap.size ≠ w3.heap.size by omega) (.slice (some ⟨g5, 0, none⟩) (k + 1) c5))
          have J1 := Lib.hid ((H1A.out.grown hg5 (HNE.out _ (by omega))).far (a := ⟨w3.heap.size, 2, none⟩) (show w.heap.size + 1 ≠ w3.heap.size by omega) (.slice (some ⟨g5, 0, none⟩) (k + 1) c5))
          have JS := Lib.hid ((HSA.out.keep (w' := w5) (fun p hp => World.cell?_of_block (hg5.block _ (by simp; omega) (HNE.out _ (by omega))))).keep (w' := w5.setCell ⟨w3.heap.size, 2, none⟩ (.slice (some ⟨g5, 0, none⟩) (k + 1) c5)) (fun p hp => World.cell?_setCell_other _ _ _ _ (fun e => by rw [← e] at hp; exact absurd (show w3.heap.size < U.heap.size from hp) (by omega))))
          have JB := Lib.hid ((HBA.out.grown hg5 (by simp; omega) (fun g e => by have := (hbl.out g e).1; omega)).setCell (p := ⟨w3.heap.size, 2, none⟩) (show w.heap.size ≤ w3.heap.size by omega) (.slice (some ⟨g5, 0, none⟩) (k + 1) c5))
          have JR := Lib.hid (hr5.grown (set_grown w5 w3.heap.size 2 (.slice (some ⟨g5, 0, none⟩) (k + 1) c5)) (fun g e => by cases e; left; omega))
          have hsz5 := hg5.size
          clear hr5 hg5 hat5 y3 y4 y5 y0 yc
          go_wp2
          go_roundw
          case rel => exact ⟨k + 1, _, by omega, by go_num, J5.out, by rw [HT.out]; simpa using JR.out, J0.out, J1.out, JS.out, JB.out, by simp at hsz5 ⊢; omega⟩
          case measure => simp [intOf]; omega)
    · have e : k = zs.length := by omega
      have HE := Lib.hid e
      have HROW := Lib.hid hrow
      have HBEL := Lib.hid hbel
      have H1 := Lib.hid h1
      obtain ⟨v0, v1, v2, p0, p1, p2, vlt⟩ := h5
      obtain ⟨c0, c1, c2', _, _, _, clt⟩ := h0
      obtain ⟨b0, b1, b2, g0, g1, g2, blt⟩ := h1
      clear hrow hsl hbel e hylen
      go_wp2
      have P2 := ((H1.out.set0 (.int .i64 r)).set1 (.int .i64 c)).set2 (.slice As k cs)
      have R2 := HROW.out.grown (set_grown _ (w.heap.size + 1) 0 (.int .i64 r)) (fun g e => by cases e; left; omega)
      have R3 := R2.grown (set_grown _ (w.heap.size + 1) 1 (.int .i64 c)) (fun g e => by cases e; left; omega)
      have R4 := R3.grown (set_grown _ (w.heap.size + 1) 2 (.slice As k cs)) (fun g e => by cases e; left; omega)
      have B4 := ((HBEL.out.setCell (p := ⟨w.heap.size + 1, 0, none⟩) (by simp) (.int .i64 r)).setCell (p := ⟨w.heap.size + 1, 1, none⟩) (by simp) (.int .i64 c)).setCell (p := ⟨w.heap.size + 1, 2, none⟩) (by simp) (.slice As k cs)
      have S4 : ((((wr.setCell ⟨w.heap.size + 1, 0, none⟩ (.int .i64 r)).setCell ⟨w.heap.size + 1, 1, none⟩ (.int .i64 c)).setCell ⟨w.heap.size + 1, 2, none⟩ (.slice As k cs)).heap.size) = wr.heap.size := by simp
      obtain ⟨W4, hW4⟩ : ∃ W4, (((wr.setCell ⟨w.heap.size + 1, 0, none⟩ (.int .i64 r)).setCell ⟨w.heap.size + 1, 1, none⟩ (.int .i64 c)).setCell ⟨w.heap.size + 1, 2, none⟩ (.slice As k cs)) = W4 := ⟨_, rfl⟩
      rw [hW4] at P2 R4 B4 S4 ⊢
      obtain ⟨z0, z1, z2, _, _, _, _⟩ := P2
      rw [HE.out, List.take_of_length_le (Nat.le_refl _)] at R4
      rw [HE.out] at z2
      refine bodyPost_ret (v := matV r c (.slice As zs.length cs)) (by simp [results, Try.results35, go_sem, z0, z1, z2]) rfl ?_
      exact ⟨_, rfl, R4.wider (by omega) (by omega), B4⟩
end
end Go.Proofs.Ytdebnbgjnmoleaa
