/- Contracts: ordered rows, the reference's. (Printed by gen_D4.py.) -/
import Derived.Test.YtilmglockldddaaFnsD3
namespace Go.Proofs.Ytilmglockldddaa
open Go.RowKit

theorem step_appR {w : World} {ops : Array Oper} {o : Oper} {a : Act} {K : Act → World → Prop} {Q : Exit → Act → World → Prop} {E : Prop} (hgd : o.guard = none) (s x : Operand)
    (ho : o.op = .call { callee := .builtin .append, args := #[s, x], argTypes := #[22, 22] })
    (lo hi : Nat) (v : Value) (ys : List Int) (n : Nat) (hsv : a.eval s = v) (hrow : Row w lo hi v ys) (B : Nat) (A : Option Addr) (m c : Nat) (xs : List Int) (hx : a.eval x = .slice A m c) (hxl : xs.length = m) (hs : Sl w B A xs)
    (hyl : ys.length = n) (hm : 0 < m) (hn : n + m ≤ 2000000) (hlo : lo ≤ w.heap.size)
    (h : ∀ g' cap w', Row w' lo w'.heap.size (.slice (some ⟨g', 0, none⟩) (n + m) cap) (ys ++ xs) → w.grownBy w' v.ownBlock → (v.ownBlock = some g' ∨ g' = w.heap.size) → g' < w'.heap.size → K (a.put o.dst (.slice (some ⟨g', 0, none⟩) (n + m) cap)) w') :
    if Region.wanted o (yielded ops a.tmps) = true then Oper.wp Try.prog o a w K Q else E := by
  have hw : Region.wanted o (yielded ops a.tmps) = true := by simp [Region.wanted, hgd]
  rw [if_pos hw]
  subst hxl hyl
  refine wp_append_sl w s x 22 ho Try.underlying22 lo v ys.length _ hsv hrow.1 B A c xs hx hs (by simp only [maxLen]; omega) (by omega) hlo fun v' w' h2 h3 h4 => ?_
  rw [← List.map_append] at h2
  rcases h2.2 with ⟨rfl, he⟩ | ⟨g, cap, cur, rfl, hg, hh, _⟩
  · omega
  · refine h g cap w' ⟨by simpa using h2, fun g' hg' => (h2.lt g' hg').2⟩ h3 ?_ ?_
    · rcases h4 with h4 | h4
      · exact .inl h4.symm
      · right; injection h4
    · exact (h2.lt g rfl).2
set_option maxHeartbeats 800000 in
theorem specOrd_no (r c : Int) (A : Option Addr) (cap n B : Nat) (zs : List Int) (Ao : Option Addr) (co no Bo : Nat) (os : List Int) (w : World) (hs : Sl w B A zs) (hB : B ≤ w.heap.size) (e : n = zs.length) (hn : n ≤ 1100000) (hso : Sl w Bo Ao os) (hBo : Bo ≤ w.heap.size) (eo : no = os.length) (hno : no ≤ 1100000) (h : ¬ OkR r c zs os) : Calls Try.prog 16 #[matV r c (.slice A n cap), .slice Ao no co] w fun e w' => e = .returned (matV 0 0 (.slice none 0 0)) ∧ Below w.heap.size w w' := by
  subst e
  subst eo
  obtain ⟨W, hW⟩ : ∃ W, (w.alloc (.cells #[.int .i64 r, .int .i64 c, .slice A zs.length cap] 33)).alloc (.cells #[.int .i64 0, .int .i64 0, .slice none 0 0] 33) = W := ⟨_, rfl⟩
  obtain ⟨q0, q1, hb, hws⟩ := nest2 w r c (.slice A zs.length cap) W hW.symm
  have HS := Lib.hid (hs.below hb hB)
  have HO := Lib.hid (hso.below hb hBo)
  have Q0 := Lib.hid q0
  have Q1 := Lib.hid q1
  obtain ⟨a0, a1, a2, f0, f1, f2, alt⟩ := q0
  clear hs hso q1
  go_enter Try.func16, Try.ntmps16
  go_wp2_with fail
  refine (ownM_any r c A cap _ B zs W HS.out (by omega) rfl hn).mono ?_
  rintro e w2 ⟨s2, rfl, hr2, hb2⟩
  obtain ⟨A2, c2, rfl, hnc2, hcm2, hs2⟩ := hr2.form
  have HO2 := Lib.hid (HO.out.below hb2 (by omega))
  have k0 := Q0.out.below hb2 (by omega)
  have k1 := Q1.out.below hb2 (by omega)
  have K0 := Lib.hid (((k0.set0 (.int .i64 r)).set1 (.int .i64 c)).set2 (.slice A2 zs.length c2))
  have K1 := Lib.hid (((k1.far (a := ⟨w.heap.size, 0, none⟩) (by simp) (.int .i64 r)).far (a := ⟨w.heap.size, 1, none⟩) (by simp) (.int .i64 c)).far (a := ⟨w.heap.size, 2, none⟩) (by simp) (.slice A2 zs.length c2))
  have hz2 := hb2.size
  obtain ⟨c0, c1, c2', d0, d1, d2, clt⟩ := k0
  clear a0 a1 a2 f0 f1 f2 alt Q0 Q1 k1
  go_wp2_with fail
  have R1 := hr2.grown (set_grown _ w.heap.size 0 (.int .i64 r)) (fun g e => by cases e; left; omega)
  have R2 := R1.grown (set_grown _ w.heap.size 1 (.int .i64 c)) (fun g e => by cases e; left; omega)
  have R3 := R2.grown (set_grown _ w.heap.size 2 (.slice A2 zs.length c2)) (fun g e => by cases e; left; omega)
  have B3 := (((hb.trans (hb2.mono (show w.heap.size ≤ W.heap.size by omega))).setCell (p := ⟨w.heap.size, 0, none⟩) (Nat.le_refl _) (.int .i64 r)).setCell (p := ⟨w.heap.size, 1, none⟩) (Nat.le_refl _) (.int .i64 c)).setCell (p := ⟨w.heap.size, 2, none⟩) (Nat.le_refl _) (.slice A2 zs.length c2)
  have S3 : ((((w2.setCell ⟨w.heap.size, 0, none⟩ (.int .i64 r)).setCell ⟨w.heap.size, 1, none⟩ (.int .i64 c)).setCell ⟨w.heap.size, 2, none⟩ (.slice A2 zs.length c2)).heap.size) = w2.heap.size := by simp
  obtain ⟨U, hU⟩ : ∃ U, (((w2.setCell ⟨w.heap.size, 0, none⟩ (.int .i64 r)).setCell ⟨w.heap.size, 1, none⟩ (.int .i64 c)).setCell ⟨w.heap.size, 2, none⟩ (.slice A2 zs.length c2)) = U := ⟨_, rfl⟩
  rw [hU] at K0 K1 R3 B3 S3 ⊢
  have HSU := Lib.hid (R3.sl_now.more (Nat.le_of_eq S3.symm))
  have HBU := Lib.hid B3
  have HOU : Hid (Sl U Bo Ao os) := Lib.hid (hU ▸ (((HO2.out.keep (w' := w2.setCell ⟨w.heap.size, 0, none⟩ (.int .i64 r)) (fun p hp => World.cell?_setCell_other _ _ _ _ (fun e => by rw [← e] at hp; exact absurd (show w.heap.size < Bo from hp) (by omega)))).keep (w' := (w2.setCell ⟨w.heap.size, 0, none⟩ (.int .i64 r)).setCell ⟨w.heap.size, 1, none⟩ (.int .i64 c)) (fun p hp => World.cell?_setCell_other _ _ _ _ (fun e => by rw [← e] at hp; exact absurd (show w.heap.size < Bo from hp) (by omega)))).keep (fun p hp => World.cell?_setCell_other _ _ _ _ (fun e => by rw [← e] at hp; exact absurd (show w.heap.size < Bo from hp) (by omega)))))
  clear R1 R2 R3 B3 hb2 hr2 hs2 c0 c1 c2' d0 d1 d2 clt hb
  by_cases hm : OkM r c zs
  · have HM := Lib.hid hm
    by_cases ho : OkO os
    · have hl : ¬ (os.length : Int) = r := fun hh => h ⟨hm, ho, hh⟩
      have HO1 := Lib.hid ho
      have hbq : ((os.length : Int) == r) = false := by simpa using hl
      clear h hm ho hl
      refine (specMV_yes r c A2 c2 _ _ zs U HSU.out (Nat.le_refl _) rfl (by omega) HM.out).mono ?_
      rintro e w3 ⟨rfl, hb3⟩
      have hs3 := hb3.size
      have P1 := K1.out.below hb3 (by omega)
      have HP1 := Lib.hid P1
      obtain ⟨b0, b1, b2, g0, g1, g2, blt⟩ := P1
      have HK0 := Lib.hid (K0.out.below hb3 (by omega))
      obtain ⟨c0, c1, c2', _, _, _, clt⟩ := HK0.out
      have HB := Lib.hid (HBU.out.trans (hb3.mono (by omega)))
      have HO3 := Lib.hid (HOU.out.below hb3 (by omega))
      clear hb3
      go_wp2_with fail
      refine (specOV_any Ao co os w3 (HO3.out.more (by omega)) (by omega) true ⟨fun _ => HO1.out, fun _ => rfl⟩).mono ?_
      rintro e w4 ⟨rfl, hb4⟩
      have HP2 := Lib.hid (HP1.out.below hb4 (by omega))
      obtain ⟨b0, b1, b2, g0, g1, g2, blt⟩ := HP2.out
      obtain ⟨c0, c1, c2', _, _, _, clt⟩ := HK0.out.below hb4 (by omega)
      have HB2 := Lib.hid (HB.out.trans (hb4.mono (by omega)))
      clear hb4
      go_wp2
      have P2 := ((HP2.out.set0 (.int .i64 0)).set1 (.int .i64 0)).set2 (.slice none 0 0)
      have B4 := ((HB2.out.setCell (p := ⟨w.heap.size + 1, 0, none⟩) (by simp) (.int .i64 0)).setCell (p := ⟨w.heap.size + 1, 1, none⟩) (by simp) (.int .i64 0)).setCell (p := ⟨w.heap.size + 1, 2, none⟩) (by simp) (.slice none 0 0)
      obtain ⟨W4, hW4⟩ : ∃ W4, (((w4.setCell ⟨w.heap.size + 1, 0, none⟩ (.int .i64 0)).setCell ⟨w.heap.size + 1, 1, none⟩ (.int .i64 0)).setCell ⟨w.heap.size + 1, 2, none⟩ (.slice none 0 0)) = W4 := ⟨_, rfl⟩
      rw [hW4] at P2 B4 ⊢
      obtain ⟨z0, z1, z2, _, _, _, _⟩ := P2
      refine bodyPost_ret (v := matV 0 0 (.slice none 0 0)) (by simp [results, Try.results16, go_sem, z0, z1, z2]) rfl ?_
      exact ⟨rfl, B4⟩
    · have HO1 := Lib.hid ho
      clear h hm ho
      refine (specMV_yes r c A2 c2 _ _ zs U HSU.out (Nat.le_refl _) rfl (by omega) HM.out).mono ?_
      rintro e w3 ⟨rfl, hb3⟩
      have hs3 := hb3.size
      have P1 := K1.out.below hb3 (by omega)
      have HP1 := Lib.hid P1
      obtain ⟨b0, b1, b2, g0, g1, g2, blt⟩ := P1
      have HK0 := Lib.hid (K0.out.below hb3 (by omega))
      obtain ⟨c0, c1, c2', _, _, _, clt⟩ := HK0.out
      have HB := Lib.hid (HBU.out.trans (hb3.mono (by omega)))
      have HO3 := Lib.hid (HOU.out.below hb3 (by omega))
      clear hb3
      go_wp2_with fail
      refine (specOV_any Ao co os w3 (HO3.out.more (by omega)) (by omega) false ⟨fun e => by simp at e, fun e => absurd e HO1.out⟩).mono ?_
      rintro e w4 ⟨rfl, hb4⟩
      have HP2 := Lib.hid (HP1.out.below hb4 (by omega))
      obtain ⟨b0, b1, b2, g0, g1, g2, blt⟩ := HP2.out
      obtain ⟨c0, c1, c2', _, _, _, clt⟩ := HK0.out.below hb4 (by omega)
      have HB2 := Lib.hid (HB.out.trans (hb4.mono (by omega)))
      clear hb4
      go_wp2
      have P2 := ((HP2.out.set0 (.int .i64 0)).set1 (.int .i64 0)).set2 (.slice none 0 0)
      have B4 := ((HB2.out.setCell (p := ⟨w.heap.size + 1, 0, none⟩) (by simp) (.int .i64 0)).setCell (p := ⟨w.heap.size + 1, 1, none⟩) (by simp) (.int .i64 0)).setCell (p := ⟨w.heap.size + 1, 2, none⟩) (by simp) (.slice none 0 0)
      obtain ⟨W4, hW4⟩ : ∃ W4, (((w4.setCell ⟨w.heap.size + 1, 0, none⟩ (.int .i64 0)).setCell ⟨w.heap.size + 1, 1, none⟩ (.int .i64 0)).setCell ⟨w.heap.size + 1, 2, none⟩ (.slice none 0 0)) = W4 := ⟨_, rfl⟩
      rw [hW4] at P2 B4 ⊢
      obtain ⟨z0, z1, z2, _, _, _, _⟩ := P2
      refine bodyPost_ret (v := matV 0 0 (.slice none 0 0)) (by simp [results, Try.results16, go_sem, z0, z1, z2]) rfl ?_
      exact ⟨rfl, B4⟩
  · have HM := Lib.hid hm
    clear h hm
    refine (specMV_no r c A2 c2 _ _ zs U HSU.out (Nat.le_refl _) rfl (by omega) HM.out).mono ?_
    rintro e w3 ⟨rfl, hb3⟩
    have P1 := K1.out.below hb3 (by omega)
    have HP1 := Lib.hid P1
    obtain ⟨b0, b1, b2, g0, g1, g2, blt⟩ := P1
    have HB := Lib.hid (HBU.out.trans (hb3.mono (by omega)))
    clear hb3
    go_wp2
    have P2 := ((HP1.out.set0 (.int .i64 0)).set1 (.int .i64 0)).set2 (.slice none 0 0)
    have B4 := ((HB.out.setCell (p := ⟨w.heap.size + 1, 0, none⟩) (by simp) (.int .i64 0)).setCell (p := ⟨w.heap.size + 1, 1, none⟩) (by simp) (.int .i64 0)).setCell (p := ⟨w.heap.size + 1, 2, none⟩) (by simp) (.slice none 0 0)
    obtain ⟨W4, hW4⟩ : ∃ W4, (((w3.setCell ⟨w.heap.size + 1, 0, none⟩ (.int .i64 0)).setCell ⟨w.heap.size + 1, 1, none⟩ (.int .i64 0)).setCell ⟨w.heap.size + 1, 2, none⟩ (.slice none 0 0)) = W4 := ⟨_, rfl⟩
    rw [hW4] at P2 B4 ⊢
    obtain ⟨z0, z1, z2, _, _, _, _⟩ := P2
    refine bodyPost_ret (v := matV 0 0 (.slice none 0 0)) (by simp [results, Try.results16, go_sem, z0, z1, z2]) rfl ?_
    exact ⟨rfl, B4⟩
set_option maxHeartbeats 4000000 in
theorem specOrd_yes (r c : Nat) (A : Option Addr) (cap n B : Nat) (zs : List Int) (Ao : Option Addr) (co no Bo : Nat) (os : List Int) (w : World) (hs : Sl w B A zs) (hB : B ≤ w.heap.size) (e : n = zs.length) (hn : n ≤ 1100000) (hso : Sl w Bo Ao os) (hBo : Bo ≤ w.heap.size) (eo : no = os.length) (hno : no ≤ 1100000) (h : OkR r c zs os) : Calls Try.prog 16 #[matV r c (.slice A n cap), .slice Ao no co] w fun e w' => ∃ s, e = .returned (matV r c s) ∧ Row w' w.heap.size w'.heap.size s (orderZ r c zs os) ∧ Below w.heap.size w w' := by
  obtain ⟨hm, ho, hol⟩ := h
  have hlen : zs.length = r * c := by have := hm.2.2.1; exact_mod_cast this
  have hr1 := hm.1
  have hc1 := hm.2.1
  have hol' : os.length = r := by omega
  have hRC := side_mul (r := r) (c := c) (by omega) (by omega)
  have hRC' : r * c ≤ 25 ∧ 1 ≤ r * c := by
    have : ((r * c : Nat) : Int) = (r : Int) * (c : Int) := by simp
    omega
  have HM := Lib.hid hm
  have HO1 := Lib.hid ho
  have HLEN := Lib.hid hlen
  have HOL := Lib.hid hol'
  have hRC2 := Lib.hid hRC'
  have hbq : ((os.length : Int) == (r : Int)) = true := by simpa using hol
  have hbq2 : ((os.length : Int) != (r : Int)) = false := by simpa using hol
  clear hm ho hlen hol' hRC hRC' hol
  subst e
  subst eo
  obtain ⟨W, hW⟩ : ∃ W, (w.alloc (.cells #[.int .i64 r, .int .i64 c, .slice A zs.length cap] 33)).alloc (.cells #[.int .i64 0, .int .i64 0, .slice none 0 0] 33) = W := ⟨_, rfl⟩
  obtain ⟨q0, q1, hb, hws⟩ := nest2 w r c (.slice A zs.length cap) W hW.symm
  have HS := Lib.hid (hs.below hb hB)
  have HO := Lib.hid (hso.below hb hBo)
  have Q0 := Lib.hid q0
  have Q1 := Lib.hid q1
  obtain ⟨a0, a1, a2, f0, f1, f2, alt⟩ := q0
  clear hs hso q1
  go_enter Try.func16, Try.ntmps16
  go_wp2_with fail
  refine (ownM_any r c A cap _ B zs W HS.out (by omega) rfl hn).mono ?_
  rintro e w2 ⟨s2, rfl, hr2, hb2⟩
  obtain ⟨A2, c2, rfl, hnc2, hcm2, hs2⟩ := hr2.form
  have HO2 := Lib.hid (HO.out.below hb2 (by omega))
  have k0 := Q0.out.below hb2 (by omega)
  have k1 := Q1.out.below hb2 (by omega)
  have K0 := Lib.hid (((k0.set0 (.int .i64 r)).set1 (.int .i64 c)).set2 (.slice A2 zs.length c2))
  have K1 := Lib.hid (((k1.far (a := ⟨w.heap.size, 0, none⟩) (by simp) (.int .i64 r)).far (a := ⟨w.heap.size, 1, none⟩) (by simp) (.int .i64 c)).far (a := ⟨w.heap.size, 2, none⟩) (by simp) (.slice A2 zs.length c2))
  have hz2 := hb2.size
  obtain ⟨c0, c1, c2', d0, d1, d2, clt⟩ := k0
  clear a0 a1 a2 f0 f1 f2 alt Q0 Q1 k1
  go_wp2_with fail
  have R1 := hr2.grown (set_grown _ w.heap.size 0 (.int .i64 r)) (fun g e => by cases e; left; omega)
  have R2 := R1.grown (set_grown _ w.heap.size 1 (.int .i64 c)) (fun g e => by cases e; left; omega)
  have R3 := R2.grown (set_grown _ w.heap.size 2 (.slice A2 zs.length c2)) (fun g e => by cases e; left; omega)
  have B3 := (((hb.trans (hb2.mono (show w.heap.size ≤ W.heap.size by omega))).setCell (p := ⟨w.heap.size, 0, none⟩) (Nat.le_refl _) (.int .i64 r)).setCell (p := ⟨w.heap.size, 1, none⟩) (Nat.le_refl _) (.int .i64 c)).setCell (p := ⟨w.heap.size, 2, none⟩) (Nat.le_refl _) (.slice A2 zs.length c2)
  have S3 : ((((w2.setCell ⟨w.heap.size, 0, none⟩ (.int .i64 r)).setCell ⟨w.heap.size, 1, none⟩ (.int .i64 c)).setCell ⟨w.heap.size, 2, none⟩ (.slice A2 zs.length c2)).heap.size) = w2.heap.size := by simp
  obtain ⟨U, hU⟩ : ∃ U, (((w2.setCell ⟨w.heap.size, 0, none⟩ (.int .i64 r)).setCell ⟨w.heap.size, 1, none⟩ (.int .i64 c)).setCell ⟨w.heap.size, 2, none⟩ (.slice A2 zs.length c2)) = U := ⟨_, rfl⟩
  rw [hU] at K0 K1 R3 B3 S3 ⊢
  have HSU := Lib.hid (R3.sl_now.more (Nat.le_of_eq S3.symm))
  have HBU := Lib.hid B3
  have HOU : Hid (Sl U Bo Ao os) := Lib.hid (hU ▸ (((HO2.out.keep (w' := w2.setCell ⟨w.heap.size, 0, none⟩ (.int .i64 r)) (fun p hp => World.cell?_setCell_other _ _ _ _ (fun e => by rw [← e] at hp; exact absurd (show w.heap.size < Bo from hp) (by omega)))).keep (w' := (w2.setCell ⟨w.heap.size, 0, none⟩ (.int .i64 r)).setCell ⟨w.heap.size, 1, none⟩ (.int .i64 c)) (fun p hp => World.cell?_setCell_other _ _ _ _ (fun e => by rw [← e] at hp; exact absurd (show w.heap.size < Bo from hp) (by omega)))).keep (fun p hp => World.cell?_setCell_other _ _ _ _ (fun e => by rw [← e] at hp; exact absurd (show w.heap.size < Bo from hp) (by omega)))))
  clear R1 R2 R3 B3 hb2 hr2 hs2 c0 c1 c2' d0 d1 d2 clt hb
  refine (specMV_yes r c A2 c2 _ _ zs U HSU.out (Nat.le_refl _) rfl (by omega) HM.out).mono ?_
  rintro e w3' ⟨rfl, hb3'⟩
  have hs3' := hb3'.size
  have hOB := HOU.out.below hb3' (by omega)
  obtain ⟨c0, c1, c2', _, _, _, clt⟩ := K0.out.below hb3' (by omega)
  go_wp2_with fail
  refine (specOV_any Ao co os w3' (hOB.more (by omega)) (by omega) true ⟨fun _ => HO1.out, fun _ => rfl⟩).mono ?_
  rintro e w3 ⟨rfl, hb3''⟩
  have hb3 : Below U.heap.size U w3 := hb3'.trans (hb3''.mono (by omega))
  have HO3 := Lib.hid (hOB.below hb3'' (by omega))
  clear hb3' hb3'' hOB c0 c1 c2' clt
  have hs3 := hb3.size
  have k0 := K0.out.below hb3 (by omega)
  have k1 := K1.out.below hb3 (by omega)
  have HSV := Lib.hid (HSU.out.below hb3 (Nat.le_refl _))
  have HBV := Lib.hid (HBU.out.trans (hb3.mono (by omega)))
  clear hb3
  have k5 := Cell3.new w3 (.int .i64 r) (.int .i64 c) (.slice none 0 0) 33
  have hbx := World.grownBy_alloc w3 (.cells #[.int .i64 r, .int .i64 c, .slice none 0 0] 33) none
  obtain ⟨V, hV⟩ : ∃ V, w3.alloc (.cells #[.int .i64 r, .int .i64 c, .slice none 0 0] 33) = V := ⟨_, rfl⟩
  rw [hV] at k5 hbx
  have hsv : V.heap.size = w3.heap.size + 1 := by rw [← hV]; simp
  have hbv : Below w3.heap.size w3 V := hV ▸ (Below.refl _ _).alloc (Nat.le_refl _) _
  have HSV2 := Lib.hid (HSV.out.below hbv hs3)
  have HBV2 := Lib.hid (HBV.out.trans (hbv.mono (by omega)))
  have K0' := Lib.hid (k0.grown hbx (by simp))
  have K1' := Lib.hid (k1.grown hbx (by simp))
  have K5' := Lib.hid k5
  obtain ⟨c0, c1, c2', d0, d1, d2, clt⟩ := k0
  obtain ⟨v0, v1, v2, p0, p1, p2, vlt⟩ := k5
  have HOV := Lib.hid (HO3.out.below hbv (by omega))
  clear hbv hbx k1 HSV HBV
  go_wp2
  clear v0 v1 v2 p0 p1 p2 c0 c1 c2' d0 d1 d2 clt vlt
  have hord : w.heap.size + 2 ≤ U.heap.size := by omega
  go_loopw [6] (fun i wr => ∃ (k : Nat) (sv : Value), k ≤ os.length ∧ i = .int .i64 k ∧ Cell3 wr w3.heap.size (.int .i64 r) (.int .i64 c) sv ∧ Row wr V.heap.size wr.heap.size sv (orderApp c zs os (k * c)) ∧ Cell3 wr w.heap.size (.int .i64 r) (.int .i64 c) (.slice A2 zs.length c2) ∧ Cell3 wr (w.heap.size + 1) (.int .i64 0) (.int .i64 0) (.slice none 0 0) ∧ Sl wr U.heap.size A2 zs ∧ Sl wr Bo Ao os ∧ Below w.heap.size w wr ∧ V.heap.size ≤ wr.heap.size) (fun i _ => os.length - (intOf i).toNat)
  case atStart => exact ⟨0, _, Nat.zero_le _, rfl, K5'.out.set2 _, by rw [Nat.zero_mul]; exact Row.nil_ _ _ _, K0'.out.far (a := ⟨w3.heap.size, 2, none⟩) (show w.heap.size ≠ w3.heap.size by omega) _, K1'.out.far (a := ⟨w3.heap.size, 2, none⟩) (show w.heap.size + 1 ≠ w3.heap.size by omega) _, HSV2.out.keep (fun p hp => World.cell?_setCell_other _ _ _ _ (fun e => by rw [← e] at hp; exact absurd (show w3.heap.size < U.heap.size from hp) (by omega))), HOV.out.keep (fun p hp => World.cell?_setCell_other _ _ _ _ (fun e => by rw [← e] at hp; exact absurd (show w3.heap.size < Bo from hp) (by omega))), HBV2.out.setCell (p := ⟨w3.heap.size, 2, none⟩) (show w.heap.size ≤ w3.heap.size by omega) _, by simp⟩
  case round =>
    obtain ⟨k, sv, hk, rfl, h5, hrow, h0, h1, hsl, hol, hbel, hsz⟩ := hrel
    obtain ⟨As, cs, hsve, _, _, _⟩ := hrow.form
    rw [orderApp_len] at hsve
    subst hsve
    by_cases hlt : k < os.length
    · have hlen := HLEN.out
      have hrr := HOL.out
      obtain ⟨hoe, hor⟩ := HO1.out.ix hlt
      obtain ⟨bo, offo, rfl, hboB, hco⟩ := hol.at_ hlt
      rw [hoe] at hco
      have HT := Lib.hid (orderApp_succ r c zs os k (by omega) hlen (by omega))
      obtain ⟨kd, hkd⟩ : ∃ kd, oix os k = kd := ⟨_, rfl⟩
      rw [hkd] at HT hco hor
      have hkc : kd * c + c ≤ zs.length := by rw [hlen]; have : (kd + 1) * c ≤ r * c := Nat.mul_le_mul_right _ (by omega); rw [Nat.add_mul] at this; omega
      have hkci : (kd : Int) * (c : Int) = ((kd * c : Nat) : Int) := by simp
      have hn1 : k * c + c ≤ 25 := by
        have := hRC2.out.1
        have : (k + 1) * c ≤ r * c := Nat.mul_le_mul_right _ (by omega)
        rw [Nat.add_mul k 1] at this; omega
      have hN1 : (k + 1) * c = k * c + c := by rw [Nat.add_mul, Nat.one_mul]
      obtain ⟨L2, hL2⟩ : ∃ L2, kd * c = L2 := ⟨_, rfl⟩
      obtain ⟨N1, hN1e⟩ : ∃ N1, k * c = N1 := ⟨_, rfl⟩
      rw [hL2] at HT hkc hkci
      rw [hN1e] at HT hn1 hN1 hrow h5
      obtain ⟨ys, hys⟩ : ∃ ys, orderApp c zs os N1 = ys := ⟨_, rfl⟩
      have hyl : ys.length = N1 := by rw [← hys, orderApp_len]
      rw [hys] at HT hrow
      clear hys
      obtain ⟨K1n, hK1⟩ : ∃ K1n, kd + 1 = K1n := ⟨_, rfl⟩
      obtain ⟨L3, hL3⟩ : ∃ L3, L2 + c = L3 := ⟨_, rfl⟩
      have hw0 : IntKind.i64.wrap (L2 : Int) = (L2 : Int) := wrap_in (by omega) (by omega)
      have hw1 : IntKind.i64.wrap ((kd : Int) + 1) = (K1n : Int) := by rw [wrap_in (by omega) (by omega)]; omega
      have hw2 : (K1n : Int) * (c : Int) = (L3 : Int) := by rw [← hK1, ← hL3, Int.natCast_add, Int.natCast_add, Int.add_mul, hkci]; simp
      have hw3 : IntKind.i64.wrap (L3 : Int) = (L3 : Int) := wrap_in (by omega) (by omega)
      have hL32 : L3 - L2 = c := by omega
      have hL23 : (L2 : Int) ≤ (L3 : Int) := by omega
      obtain ⟨b, off, hA, hbB, _⟩ := hsl.at_ (k := 0) (by have := HM.out.len; omega)
      subst hA
      have hL3c : (L3 : Int) ≤ (c2 : Int) := by omega
      have hcne : ¬ c2 = L2 := by omega
      have hxl : ((zs.drop L2).take c).length = c := by simp; omega
      have hxs : ∀ w' : World, Sl w' U.heap.size (some ⟨b, off, none⟩) zs → Sl w' U.heap.size (some ⟨b, off + L2, none⟩) ((zs.drop L2).take c) := by
        intro w' hsw
        refine ⟨b, off + L2, fun _ => ⟨rfl, hbB⟩, fun j hj => ?_⟩
        rw [hxl] at hj
        obtain ⟨b', off', h1, _, h2⟩ := hsw.at_ (k := L2 + j) (by omega)
        injection h1 with h1
        injection h1 with h3 h4
        subst h3 h4
        rw [show off + L2 + j = off + (L2 + j) by omega, h2, row_getD _ _ _ _ hj]
      have hD : Drew wr wr.drew := ⟨1, rfl⟩
      have hbl := Lib.hid hrow.block_lt
      have HROW := Lib.hid (hD.row hrow)
      have HSL := Lib.hid (hD.sl hsl)
      have HOL2 := Lib.hid (hD.sl hol)
      have HBEL := Lib.hid (hbel.trans (hD.below _))
      have H5 := Lib.hid (h5.grown (hD.grown none) (by simp))
      have H1 := Lib.hid (h1.grown (hD.grown none) (by simp))
      have H0 := Lib.hid (h0.grown (hD.grown none) (by simp))
      have hcoD : wr.drew.cell? ⟨bo, offo + k, none⟩ = some (.int .i64 (kd : Int)) := hco
      obtain ⟨v0, v1, v2, p0, p1, p2, vlt⟩ := H5.out
      obtain ⟨x0, x1, x2, _, _, _, clt⟩ := H0.out
      have hne : ∀ b, b < V.heap.size → some b ≠ (Value.slice As N1 cs).ownBlock := fun b hb e => by have := (hbl.out b e.symm).1; omega
      have HNE := Lib.hid hne
      have HXS := Lib.hid hxs
      have HYL := Lib.hid hyl
      have HXL := Lib.hid hxl
      have HHL := Lib.hid (And.intro hlen (And.intro hrr (And.intro hoe (And.intro hkd (And.intro hL2 (And.intro hN1 (And.intro hN1e (And.intro hK1 hL3))))))))
      have hkr : (k : Int) < (os.length : Int) := by omega
      clear hrow hsl hol hbel h1 h5 h0 hlen hrr hoe hkd hL2 hN1 hN1e hK1 hL3 hxs hxl hyl hne hD hkci
      have hkci : (kd : Int) * (c : Int) = (L2 : Int) := by have := HHL.out.2.2.2.2.1; rw [← this]; simp
      go_wp2
      refine wp_region_held_drew (S := (fun w' => w'.cell? ⟨bo, offo + k, none⟩ = some (.int .i64 (kd : Int)) ∧ w'.cell? ⟨w.heap.size, 0, none⟩ = some (.int .i64 r) ∧ w'.cell? ⟨w.heap.size, 1, none⟩ = some (.int .i64 c) ∧ w'.cell? ⟨w.heap.size, 2, none⟩ = some (.slice (some ⟨b, off, none⟩) zs.length c2))) (by kernel_rfl) ⟨hcoD, x0, x1, x2⟩ (fun hHeld => ?_)
      refine wpAnyH_take (i := 0) (oi := { dst := some 36, op := Op.fieldAddr 33 (Operand.tmp 5) 2, type := 0, pos := "l36_mixed_rows.go:25", after := #[], guard := none }) (v := ?_) rfl (by kernel_rfl) (by kernel_rfl) (by kernel_rfl) (fun _ _ _ h => h) (Or.inl ⟨by rfl, ?_⟩) (by assumption) ?_
      rotate_left
      · intro w hSw
        (try dsimp only at hSw)
        go_simp
        (try (with_reducible rfl))
      (try simp only [Act.put, List.setIfInBounds_toArray, List.set_cons_zero, List.set_cons_succ])
      refine wpAnyH_take (i := 2) (oi := { dst := some 38, op := Op.fieldAddr 33 (Operand.tmp 2) 2, type := 0, pos := "l36_mixed_rows.go:25", after := #[], guard := none }) (v := ?_) rfl (by kernel_rfl) (by kernel_rfl) (by kernel_rfl) (fun _ _ _ h => h) (Or.inl ⟨by rfl, ?_⟩) (by assumption) ?_
      rotate_left
      · intro w hSw
        (try dsimp only at hSw)
        go_simp
        (try (with_reducible rfl))
      (try simp only [Act.put, List.setIfInBounds_toArray, List.set_cons_zero, List.set_cons_succ])
      refine wpAnyH_take (i := 3) (oi := { dst := some 39, op := Op.load 22 (Operand.tmp 38), type := 22, pos := "l36_mixed_rows.go:25", after := #[{ on := 2, ground := Ground.data }], guard := none }) (v := ?_) rfl (by kernel_rfl) (by kernel_rfl) (by kernel_rfl) (fun _ _ _ h => h) (Or.inl ⟨by rfl, ?_⟩) (by assumption) ?_
      rotate_left
      · intro w hSw
        (try dsimp only at hSw)
        go_simp
        (try (with_reducible rfl))
      (try simp only [Act.put, List.setIfInBounds_toArray, List.set_cons_zero, List.set_cons_succ])
      refine wpAnyH_take (i := 4) (oi := { dst := some 40, op := Op.move (Operand.tmp 1), type := 22, pos := "l36_mixed_rows.go:25", after := #[], guard := none }) (v := ?_) rfl (by kernel_rfl) (by kernel_rfl) (by kernel_rfl) (fun _ _ _ h => h) (Or.inl ⟨by rfl, ?_⟩) (by assumption) ?_
      rotate_left
      · intro w hSw
        (try dsimp only at hSw)
        go_simp
        (try (with_reducible rfl))
      (try simp only [Act.put, List.setIfInBounds_toArray, List.set_cons_zero, List.set_cons_succ])
      refine wpAnyH_take (i := 5) (oi := { dst := some 41, op := Op.move (Operand.tmp 6), type := 3, pos := "l36_mixed_rows.go:25", after := #[], guard := none }) (v := ?_) rfl (by kernel_rfl) (by kernel_rfl) (by kernel_rfl) (fun _ _ _ h => h) (Or.inl ⟨by rfl, ?_⟩) (by assumption) ?_
      rotate_left
      · intro w hSw
        (try dsimp only at hSw)
        go_simp
        (try (with_reducible rfl))
      (try simp only [Act.put, List.setIfInBounds_toArray, List.set_cons_zero, List.set_cons_succ])
      refine wpAnyH_take (i := 6) (oi := { dst := some 42, op := Op.indexAddr 22 (Operand.tmp 40) (Operand.tmp 41), type := 0, pos := "l36_mixed_rows.go:25", after := #[{ on := 4, ground := Ground.data }, { on := 5, ground := Ground.data }], guard := none }) (v := ?_) rfl (by kernel_rfl) (by kernel_rfl) (by kernel_rfl) (fun _ _ _ h => h) (Or.inl ⟨by rfl, ?_⟩) (by assumption) ?_
      rotate_left
      · intro w hSw
        (try dsimp only at hSw)
        go_simp
        (try (with_reducible rfl))
      (try simp only [Act.put, List.setIfInBounds_toArray, List.set_cons_zero, List.set_cons_succ])
      refine wpAnyH_take (i := 7) (oi := { dst := some 43, op := Op.load 3 (Operand.tmp 42), type := 3, pos := "l36_mixed_rows.go:25", after := #[{ on := 6, ground := Ground.data }], guard := none }) (v := ?_) rfl (by kernel_rfl) (by kernel_rfl) (by kernel_rfl) (fun _ _ _ h => h) (Or.inl ⟨by rfl, ?_⟩) (by assumption) ?_
      rotate_left
      · intro w hSw
        (try dsimp only at hSw)
        go_simp
        (try (with_reducible rfl))
      (try simp only [Act.put, List.setIfInBounds_toArray, List.set_cons_zero, List.set_cons_succ])
      refine wpAnyH_take (i := 8) (oi := { dst := some 44, op := Op.fieldAddr 33 (Operand.tmp 2) 1, type := 0, pos := "l36_mixed_rows.go:25", after := #[], guard := none }) (v := ?_) rfl (by kernel_rfl) (by kernel_rfl) (by kernel_rfl) (fun _ _ _ h => h) (Or.inl ⟨by rfl, ?_⟩) (by assumption) ?_
      rotate_left
      · intro w hSw
        (try dsimp only at hSw)
        go_simp
        (try (with_reducible rfl))
      (try simp only [Act.put, List.setIfInBounds_toArray, List.set_cons_zero, List.set_cons_succ])
      refine wpAnyH_take (i := 9) (oi := { dst := some 45, op := Op.load 3 (Operand.tmp 44), type := 3, pos := "l36_mixed_rows.go:25", after := #[{ on := 8, ground := Ground.data }], guard := none }) (v := ?_) rfl (by kernel_rfl) (by kernel_rfl) (by kernel_rfl) (fun _ _ _ h => h) (Or.inl ⟨by rfl, ?_⟩) (by assumption) ?_
      rotate_left
      · intro w hSw
        (try dsimp only at hSw)
        go_simp
        (try (with_reducible rfl))
      (try simp only [Act.put, List.setIfInBounds_toArray, List.set_cons_zero, List.set_cons_succ])
      refine wpAnyH_take (i := 10) (oi := { dst := some 46, op := Op.binOp BinOp.mul 3 (Operand.tmp 43) (Operand.tmp 45) 3, type := 3, pos := "l36_mixed_rows.go:25", after := #[{ on := 7, ground := Ground.data }, { on := 9, ground := Ground.data }], guard := none }) (v := ?_) rfl (by kernel_rfl) (by kernel_rfl) (by kernel_rfl) (fun _ _ _ h => h) (Or.inl ⟨by rfl, ?_⟩) (by assumption) ?_
      rotate_left
      · intro w hSw
        (try dsimp only at hSw)
        go_simp
        (try (with_reducible rfl))
      (try simp only [Act.put, List.setIfInBounds_toArray, List.set_cons_zero, List.set_cons_succ])
      refine wpAnyH_take (i := 11) (oi := { dst := some 47, op := Op.move (Operand.tmp 1), type := 22, pos := "l36_mixed_rows.go:25", after := #[], guard := none }) (v := ?_) rfl (by kernel_rfl) (by kernel_rfl) (by kernel_rfl) (fun _ _ _ h => h) (Or.inl ⟨by rfl, ?_⟩) (by assumption) ?_
      rotate_left
      · intro w hSw
        (try dsimp only at hSw)
        go_simp
        (try (with_reducible rfl))
      (try simp only [Act.put, List.setIfInBounds_toArray, List.set_cons_zero, List.set_cons_succ])
      refine wpAnyH_take (i := 12) (oi := { dst := some 48, op := Op.move (Operand.tmp 6), type := 3, pos := "l36_mixed_rows.go:25", after := #[], guard := none }) (v := ?_) rfl (by kernel_rfl) (by kernel_rfl) (by kernel_rfl) (fun _ _ _ h => h) (Or.inl ⟨by rfl, ?_⟩) (by assumption) ?_
      rotate_left
      · intro w hSw
        (try dsimp only at hSw)
        go_simp
        (try (with_reducible rfl))
      (try simp only [Act.put, List.setIfInBounds_toArray, List.set_cons_zero, List.set_cons_succ])
      refine wpAnyH_take (i := 13) (oi := { dst := some 49, op := Op.indexAddr 22 (Operand.tmp 47) (Operand.tmp 48), type := 0, pos := "l36_mixed_rows.go:25", after := #[{ on := 11, ground := Ground.data }, { on := 12, ground := Ground.data }], guard := none }) (v := ?_) rfl (by kernel_rfl) (by kernel_rfl) (by kernel_rfl) (fun _ _ _ h => h) (Or.inl ⟨by rfl, ?_⟩) (by assumption) ?_
      rotate_left
      · intro w hSw
        (try dsimp only at hSw)
        go_simp
        (try (with_reducible rfl))
      (try simp only [Act.put, List.setIfInBounds_toArray, List.set_cons_zero, List.set_cons_succ])
      refine wpAnyH_take (i := 14) (oi := { dst := some 50, op := Op.load 3 (Operand.tmp 49), type := 3, pos := "l36_mixed_rows.go:25", after := #[{ on := 13, ground := Ground.data }], guard := none }) (v := ?_) rfl (by kernel_rfl) (by kernel_rfl) (by kernel_rfl) (fun _ _ _ h => h) (Or.inl ⟨by rfl, ?_⟩) (by assumption) ?_
      rotate_left
      · intro w hSw
        (try dsimp only at hSw)
        go_simp
        (try (with_reducible rfl))
      (try simp only [Act.put, List.setIfInBounds_toArray, List.set_cons_zero, List.set_cons_succ])
      refine wpAnyH_take (i := 15) (oi := { dst := some 51, op := Op.binOp BinOp.add 3 (Operand.tmp 50) (Operand.const (Value.int IntKind.i64 1)) 3, type := 3, pos := "l36_mixed_rows.go:25", after := #[{ on := 14, ground := Ground.data }], guard := none }) (v := ?_) rfl (by kernel_rfl) (by kernel_rfl) (by kernel_rfl) (fun _ _ _ h => h) (Or.inl ⟨by rfl, ?_⟩) (by assumption) ?_
      rotate_left
      · intro w hSw
        (try dsimp only at hSw)
        go_simp
        (try (with_reducible rfl))
      (try simp only [Act.put, List.setIfInBounds_toArray, List.set_cons_zero, List.set_cons_succ])
      refine wpAnyH_take (i := 16) (oi := { dst := some 52, op := Op.fieldAddr 33 (Operand.tmp 2) 1, type := 0, pos := "l36_mixed_rows.go:25", after := #[], guard := none }) (v := ?_) rfl (by kernel_rfl) (by kernel_rfl) (by kernel_rfl) (fun _ _ _ h => h) (Or.inl ⟨by rfl, ?_⟩) (by assumption) ?_
      rotate_left
      · intro w hSw
        (try dsimp only at hSw)
        go_simp
        (try (with_reducible rfl))
      (try simp only [Act.put, List.setIfInBounds_toArray, List.set_cons_zero, List.set_cons_succ])
      refine wpAnyH_take (i := 17) (oi := { dst := some 53, op := Op.load 3 (Operand.tmp 52), type := 3, pos := "l36_mixed_rows.go:25", after := #[{ on := 16, ground := Ground.data }], guard := none }) (v := ?_) rfl (by kernel_rfl) (by kernel_rfl) (by kernel_rfl) (fun _ _ _ h => h) (Or.inl ⟨by rfl, ?_⟩) (by assumption) ?_
      rotate_left
      · intro w hSw
        (try dsimp only at hSw)
        go_simp
        (try (with_reducible rfl))
      (try simp only [Act.put, List.setIfInBounds_toArray, List.set_cons_zero, List.set_cons_succ])
      refine wpAnyH_take (i := 18) (oi := { dst := some 54, op := Op.binOp BinOp.mul 3 (Operand.tmp 51) (Operand.tmp 53) 3, type := 3, pos := "l36_mixed_rows.go:25", after := #[{ on := 15, ground := Ground.data }, { on := 17, ground := Ground.data }], guard := none }) (v := ?_) rfl (by kernel_rfl) (by kernel_rfl) (by kernel_rfl) (fun _ _ _ h => h) (Or.inl ⟨by rfl, ?_⟩) (by assumption) ?_
      rotate_left
      · intro w hSw
        (try dsimp only at hSw)
        go_simp
        (try (with_reducible rfl))
      (try simp only [Act.put, List.setIfInBounds_toArray, List.set_cons_zero, List.set_cons_succ])
      refine wpAnyH_take (i := 19) (oi := { dst := some 55, op := Op.slice 22 (Operand.tmp 39) (some (Operand.tmp 46)) (some (Operand.tmp 54)) none, type := 22, pos := "l36_mixed_rows.go:25", after := #[{ on := 3, ground := Ground.data }, { on := 10, ground := Ground.data }, { on := 18, ground := Ground.data }], guard := none }) (v := ?_) rfl (by kernel_rfl) (by kernel_rfl) (by kernel_rfl) (fun _ _ _ h => h) (Or.inl ⟨by rfl, ?_⟩) (by assumption) ?_
      rotate_left
      · intro w hSw
        (try dsimp only at hSw)
        go_simp
        (try (with_reducible rfl))
      (try simp only [Act.put, List.setIfInBounds_toArray, List.set_cons_zero, List.set_cons_succ])
      refine wpAnyH_ready (rs := [1]) (by kernel_rfl) (by simp) ?_
      refine AllReadyH.cons (o := { dst := some 37, op := Op.load 22 (Operand.tmp 36), type := 22, pos := "l36_mixed_rows.go:25", after := #[{ on := 0, ground := Ground.data }], guard := none }) rfl (fun K hK => ?_) AllReadyH.nil
      go_simp
      refine hK.out _ _ ⟨hcoD, x0, x1, x2⟩ (fun hHeld => ?_)
      clear hK K
      (try simp only [Act.put, List.setIfInBounds_toArray, List.set_cons_zero, List.set_cons_succ])
      refine wpAnyH_ready (rs := [20]) (by kernel_rfl) (by simp) ?_
      refine AllReadyH.cons (o := { dst := some 56, op := Op.call { callee := Callee.builtin Builtin.append, args := #[Operand.tmp 37, Operand.tmp 55], argTypes := #[22, 22] }, type := 22, pos := "l36_mixed_rows.go:25", after := #[{ on := 1, ground := Ground.data }, { on := 19, ground := Ground.data }], guard := none }) rfl (fun K hK => ?_) AllReadyH.nil
      (refine step_appR (by rfl) (.tmp 37) (.tmp 55) (by rfl) V.heap.size wr.heap.size (.slice As N1 cs) ys N1 (by rfl) HROW.out U.heap.size (some ⟨b, off + L2, none⟩) c _ ((zs.drop L2).take c) (by rfl) HXL.out (HXS.out _ HSL.out) HYL.out (by omega) (by omega) (show V.heap.size ≤ wr.heap.size from hsz) ?_; intro g5 c5 w5 hr5 hg5 hat5 hlt5; have HC5 := H5.out.grown hg5 (HNE.out w3.heap.size (by omega)); obtain ⟨y3, y4, y5, g3, g4, g5', ylt⟩ := id HC5; have HC0 := H0.out.grown hg5 (HNE.out w.heap.size (by omega)); obtain ⟨y0, y1, y2, _, _, _, _⟩ := id HC0; have y6 := hg5.cell hcoD (HNE.out bo (by omega)); have HD0 := HC0.far (a := ⟨w3.heap.size, 2, none⟩) (show w.heap.size ≠ w3.heap.size by omega) (.slice (some ⟨g5, 0, none⟩) (N1 + c) c5); obtain ⟨q0, q1, q2, _, _, _, _⟩ := id HD0; have q6 : (w5.setCell ⟨w3.heap.size, 2, none⟩ (.slice (some ⟨g5, 0, none⟩) (N1 + c) c5)).cell? ⟨bo, offo + k, none⟩ = some (.int .i64 (kd : Int)) := (World.cell?_setCell_other _ _ _ _ (fun e => by have := congrArg Addr.block e; simp at this; omega)).trans y6)
      refine hK.out _ _ ⟨y6, y0, y1, y2⟩ (fun hHeld => ?_)
      clear hK K
      (try simp only [Act.put, List.setIfInBounds_toArray, List.set_cons_zero, List.set_cons_succ])
      refine wpAnyH_take (i := 21) (oi := { dst := some 57, op := Op.fieldAddr 33 (Operand.tmp 5) 2, type := 0, pos := "l36_mixed_rows.go:25", after := #[{ on := 0, ground := Ground.phase }, { on := 1, ground := Ground.phase }, { on := 2, ground := Ground.phase }, { on := 3, ground := Ground.phase }, { on := 4, ground := Ground.phase }, { on := 5, ground := Ground.phase }, { on := 6, ground := Ground.phase }, { on := 7, ground := Ground.phase }, { on := 8, ground := Ground.phase }, { on := 9, ground := Ground.phase }, { on := 10, ground := Ground.phase }, { on := 11, ground := Ground.phase }, { on := 12, ground := Ground.phase }, { on := 13, ground := Ground.phase }, { on := 14, ground := Ground.phase }, { on := 15, ground := Ground.phase }, { on := 16, ground := Ground.phase }, { on := 17, ground := Ground.phase }, { on := 18, ground := Ground.phase }, { on := 19, ground := Ground.phase }, { on := 20, ground := Ground.phase }], guard := none }) (v := ?_) rfl (by kernel_rfl) (by kernel_rfl) (by kernel_rfl) (fun _ _ _ h => h) (Or.inl ⟨by rfl, ?_⟩) (by assumption) ?_
      rotate_left
      · intro w hSw
        (try dsimp only at hSw)
        go_simp
        (try (with_reducible rfl))
      (try simp only [Act.put, List.setIfInBounds_toArray, List.set_cons_zero, List.set_cons_succ])
      refine wpAnyH_ready (rs := [22]) (by kernel_rfl) (by simp) ?_
      refine AllReadyH.cons (o := { dst := none, op := Op.store 22 (Operand.tmp 57) (Operand.tmp 56), type := 0, pos := "l36_mixed_rows.go:25", after := #[{ on := 21, ground := Ground.data }, { on := 20, ground := Ground.data }, { on := 20, ground := Ground.chain }, { on := 0, ground := Ground.phase }, { on := 1, ground := Ground.phase }, { on := 2, ground := Ground.phase }, { on := 3, ground := Ground.phase }, { on := 4, ground := Ground.phase }, { on := 5, ground := Ground.phase }, { on := 6, ground := Ground.phase }, { on := 7, ground := Ground.phase }, { on := 8, ground := Ground.phase }, { on := 9, ground := Ground.phase }, { on := 10, ground := Ground.phase }, { on := 11, ground := Ground.phase }, { on := 12, ground := Ground.phase }, { on := 13, ground := Ground.phase }, { on := 14, ground := Ground.phase }, { on := 15, ground := Ground.phase }, { on := 16, ground := Ground.phase }, { on := 17, ground := Ground.phase }, { on := 18, ground := Ground.phase }, { on := 19, ground := Ground.phase }, { on := 20, ground := Ground.phase }], guard := none }) rfl (fun K hK => ?_) AllReadyH.nil
      go_simp
      refine hK.out _ _ ⟨q6, q0, q1, q2⟩ (fun hHeld => ?_)
      clear hK K
      (try simp only [Act.put, List.setIfInBounds_toArray, List.set_cons_zero, List.set_cons_succ])
      refine wpAnyH_done (by kernel_rfl) ?_ _
      have J5 := Lib.hid (HC5.set2 (.slice (some ⟨g5, 0, none⟩) (N1 + c) c5))
      have J1 := Lib.hid ((H1.out.grown hg5 (HNE.out _ (by omega))).far (a := ⟨w3.heap.size, 2, none⟩) (show w.heap.size + 1 ≠ w3.heap.size by omega) (.slice (some ⟨g5, 0, none⟩) (N1 + c) c5))
      have J0 := Lib.hid HD0
      have JS := Lib.hid ((HSL.out.keep (w' := w5) (fun p hp => World.cell?_of_block (hg5.block _ (show _ < wr.heap.size by omega) (HNE.out _ (by omega))))).keep (w' := w5.setCell ⟨w3.heap.size, 2, none⟩ (.slice (some ⟨g5, 0, none⟩) (N1 + c) c5)) (fun p hp => World.cell?_setCell_other _ _ _ _ (fun e => by rw [← e] at hp; exact absurd (show w3.heap.size < U.heap.size from hp) (by omega))))
      have JO := Lib.hid ((HOL2.out.keep (w' := w5) (fun p hp => World.cell?_of_block (hg5.block _ (show _ < wr.heap.size by omega) (HNE.out _ (by omega))))).keep (w' := w5.setCell ⟨w3.heap.size, 2, none⟩ (.slice (some ⟨g5, 0, none⟩) (N1 + c) c5)) (fun p hp => World.cell?_setCell_other _ _ _ _ (fun e => by rw [← e] at hp; exact absurd (show w3.heap.size < Bo from hp) (by omega))))
      have JB := Lib.hid ((HBEL.out.grown hg5 (show _ ≤ wr.heap.size by omega) (fun g e => by have := (hbl.out g e).1; omega)).setCell (p := ⟨w3.heap.size, 2, none⟩) (show w.heap.size ≤ w3.heap.size by omega) (.slice (some ⟨g5, 0, none⟩) (N1 + c) c5))
      have JR := Lib.hid (hr5.grown (set_grown w5 w3.heap.size 2 (.slice (some ⟨g5, 0, none⟩) (N1 + c) c5)) (fun g e => by cases e; left; omega))
      have hsz5 := (show wr.heap.size ≤ w5.heap.size from hg5.size)
      clear hr5 hg5 hat5 HC5 HC0 HD0 y0 y1 y2 y3 y4 y5 y6 q0 q1 q2 q6 x0 x1 x2 v0 v1 v2 p0 p1 p2
      go_wp2
      go_roundw
      case rel => exact ⟨k + 1, _, by omega, by go_num, J5.out, by rw [HHL.out.2.2.2.2.2.1, ← HT.out]; simpa using JR.out, J0.out, J1.out, JS.out, JO.out, JB.out, by simp; omega⟩
      case measure => simp [intOf]; omega
    · have e : k = os.length := by omega
      have hyl : (orderApp c zs os (k * c)).length = k * c := orderApp_len _ _ _ _
      obtain ⟨N1, hN1e⟩ : ∃ N1, k * c = N1 := ⟨_, rfl⟩
      rw [hN1e] at hrow h5 hyl
      have HN1 := Lib.hid hN1e
      clear hN1e
      have HE := Lib.hid e
      have HROW := Lib.hid hrow
      have HBEL := Lib.hid hbel
      have H1 := Lib.hid h1
      obtain ⟨v0, v1, v2, p0, p1, p2, vlt⟩ := h5
      obtain ⟨c0, c1, c2', _, _, _, clt⟩ := h0
      obtain ⟨b0, b1, b2, g0, g1, g2, blt⟩ := h1
      clear hrow hsl hbel e hyl
      go_wp2
      have P2 := ((H1.out.set0 (.int .i64 r)).set1 (.int .i64 c)).set2 (.slice As N1 cs)
      have R2 := HROW.out.grown (set_grown _ (w.heap.size + 1) 0 (.int .i64 r)) (fun g e => by cases e; left; omega)
      have R3 := R2.grown (set_grown _ (w.heap.size + 1) 1 (.int .i64 c)) (fun g e => by cases e; left; omega)
      have R4 := R3.grown (set_grown _ (w.heap.size + 1) 2 (.slice As N1 cs)) (fun g e => by cases e; left; omega)
      have B4 := ((HBEL.out.setCell (p := ⟨w.heap.size + 1, 0, none⟩) (by simp) (.int .i64 r)).setCell (p := ⟨w.heap.size + 1, 1, none⟩) (by simp) (.int .i64 c)).setCell (p := ⟨w.heap.size + 1, 2, none⟩) (by simp) (.slice As N1 cs)
      have S4 : ((((wr.setCell ⟨w.heap.size + 1, 0, none⟩ (.int .i64 r)).setCell ⟨w.heap.size + 1, 1, none⟩ (.int .i64 c)).setCell ⟨w.heap.size + 1, 2, none⟩ (.slice As N1 cs)).heap.size) = wr.heap.size := by simp
      obtain ⟨W4, hW4⟩ : ∃ W4, (((wr.setCell ⟨w.heap.size + 1, 0, none⟩ (.int .i64 r)).setCell ⟨w.heap.size + 1, 1, none⟩ (.int .i64 c)).setCell ⟨w.heap.size + 1, 2, none⟩ (.slice As N1 cs)) = W4 := ⟨_, rfl⟩
      rw [hW4] at P2 R4 B4 S4 ⊢
      obtain ⟨z0, z1, z2, _, _, _, _⟩ := P2
      rw [← HN1.out, HE.out, HOL.out, orderApp_full] at R4
      rw [← HN1.out, HE.out, HOL.out] at z2
      refine bodyPost_ret (v := matV r c (.slice As (r * c) cs)) (by simp [results, Try.results16, go_sem, z0, z1, z2]) rfl ?_
      exact ⟨_, rfl, R4.wider (by omega) (by omega), B4⟩
end Go.Proofs.Ytilmglockldddaa
