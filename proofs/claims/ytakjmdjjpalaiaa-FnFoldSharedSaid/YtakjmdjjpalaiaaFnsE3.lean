/- Contracts: matrices with edges, the program's: valid ones. -/
import Derived.Test.YtakjmdjjpalaiaaFnsE2
namespace Go.Proofs.Ytakjmdjjpalaiaa
open Go.RowKit

set_option maxHeartbeats 4000000 in
theorem implEdge_yes (r c d : Nat) (A : Option Addr) (cap n B : Nat) (zs : List Int) (w : World) (hs : Sl w B A zs) (hB : B ≤ w.heap.size) (e : n = zs.length) (hn : n ≤ 1100000) (hnc : n ≤ cap) (hcm : cap ≤ maxLen) (h : OkE r c zs d) :
    Calls Try.prog 50 #[matV r c (.slice A n cap), .int .i64 d] w fun e w' => ∃ s, e = .returned (matV ((r + 2 * d : Nat) : Int) ((c + 2 * d : Nat) : Int) s) ∧ Row w' w.heap.size w'.heap.size s (edgeZ d r c zs) ∧ Below w.heap.size w w' := by
  subst e
  obtain ⟨hm, hd, hr5, hc5⟩ := h
  have hlen : zs.length = r * c := by have := hm.2.2.1; exact_mod_cast this
  obtain ⟨hr1, hc1, _, _⟩ := id hm
  obtain ⟨R, hR⟩ : ∃ R : Nat, r + 2 * d = R := ⟨_, rfl⟩
  obtain ⟨C, hC⟩ : ∃ C : Nat, c + 2 * d = C := ⟨_, rfl⟩
  have hRi : (r : Int) + 2 * (d : Int) = (R : Int) := by omega
  have hCi : (c : Int) + 2 * (d : Int) = (C : Int) := by omega
  have hRC := side_mul (r := R) (c := C) (by omega) (by omega)
  have hRC' : R * C ≤ 25 ∧ 1 ≤ R * C := by have : ((R * C : Nat) : Int) = (R : Int) * (C : Int) := by simp
                                           omega
  rw [hR, hC]
  have hrw : (edgeZ d r c zs).length = R * C := by rw [edgeZ, tab_len, hR, hC]
  obtain ⟨W, hW⟩ : ∃ W, (w.alloc (.cells #[.int .i64 r, .int .i64 c, .slice A zs.length cap] 26)).alloc (.cells #[.int .i64 0, .int .i64 0, .slice none 0 0] 26) = W := ⟨_, rfl⟩
  obtain ⟨q0, q1, hb, hws⟩ := nest2 w r c (.slice A zs.length cap) W hW.symm
  have HS := Lib.hid (hs.below hb hB)
  have Q0 := Lib.hid q0
  have Q1 := Lib.hid q1
  have HM := Lib.hid hm
  have HLEN := Lib.hid hlen
  obtain ⟨a0, a1, a2, f0, f1, f2, alt⟩ := q0
  clear hs q1 hm hlen hRC
  have HRC := Lib.hid (And.intro hR hC)
  have hRC2 := Lib.hid hRC'
  clear hR hC hRC'
  have hd' := hd.2
  have hr5' : (R : Int) ≤ 5 := by omega
  have hc5' : (C : Int) ≤ 5 := by omega
  have hl5 : decide ((5 : Int) < d) = false := by simp; omega
  go_enter Try.func50, Try.ntmps50
  go_wp2_with fail
  refine (implMV_yes r c A cap _ B zs W HS.out (by omega) rfl (by omega) HM.out).mono ?_
  rintro e w2 ⟨rfl, hb2⟩
  obtain ⟨c0, c1, c2, _, _, _, clt⟩ := Q0.out.below hb2 (by omega)
  have hs2 := hb2.size
  have HS2 := Lib.hid (HS.out.below hb2 (by omega))
  have HQ0 := Lib.hid (Q0.out.below hb2 (by omega))
  have HQ1 := Lib.hid (Q1.out.below hb2 (by omega))
  have HB := Lib.hid (hb.trans (hb2.mono (by omega)))
  clear hb hb2 Q0 Q1 a0 a1 a2 f0 f1 f2 alt
  go_wp2_with fail
  refine (emptyM_any R C (R * C) w2 (by simp) (by have := hRC2.out; omega)).mono ?_
  rintro e w3 ⟨s3, rfl, hr3, hb3⟩
  have HL3 := Lib.hid (show (List.replicate (R * C) (0 : Int)).length = R * C by simp)
  obtain ⟨A3, c3, hs3v, hnc3, hcm3, _⟩ := hr3.form
  rw [HL3.out] at hs3v hnc3
  subst hs3v
  obtain ⟨N, hN⟩ : ∃ N, R * C = N := ⟨_, rfl⟩
  have HN := Lib.hid hN
  rw [hN] at hr3 hRC2 hrw hnc3
  rw [hN]
  clear hN HL3
  have hs3 := hb3.size
  have k5 := Cell3.new w3 (.int .i64 R) (.int .i64 C) (.slice A3 N c3) 26
  obtain ⟨V, hV⟩ : ∃ V, w3.alloc (.cells #[.int .i64 R, .int .i64 C, .slice A3 N c3] 26) = V := ⟨_, rfl⟩
  rw [hV] at k5
  have hsv : V.heap.size = w3.heap.size + 1 := by rw [← hV]; simp
  have hbv : Below w3.heap.size w3 V := hV ▸ (Below.refl _ _).alloc (Nat.le_refl _) _
  have HV0 := Lib.hid ((HQ0.out.below hb3 (by omega)).below hbv (by omega))
  have HV1 := Lib.hid ((HQ1.out.below hb3 (by omega)).below hbv (by omega))
  have HBV := Lib.hid ((HB.out.trans (hb3.mono (by omega))).trans (hbv.mono (by omega)))
  have HRV := Lib.hid (hr3.below hbv (Nat.le_refl _))
  have HSV := Lib.hid ((HS2.out.below hb3 (by omega)).below hbv (by omega))
  have K5 := Lib.hid k5
  clear hr3 hb3 hbv HQ0 HQ1 HB HS2 c0 c1 c2 clt
  obtain ⟨v0, v1, v2, p0, p1, p2, vlt⟩ := k5
  obtain ⟨c0, c1, c2, _, _, _, clt⟩ := HV0.out
  go_wp2
  clear v0 v1 v2 p0 p1 p2 c0 c1 c2
  have hws' : w.heap.size + 2 ≤ w2.heap.size := by omega
  go_loopw [48] (fun i wr => ∃ k : Nat, k ≤ r ∧ i = .int .i64 k ∧ Row wr w2.heap.size w3.heap.size (.slice A3 N c3) (edgeTo d r c zs k) ∧ Below w.heap.size w wr ∧ Cell3 wr w3.heap.size (.int .i64 R) (.int .i64 C) (.slice A3 N c3) ∧ Cell3 wr (w.heap.size + 1) (.int .i64 0) (.int .i64 0) (.slice none 0 0) ∧ Cell3 wr w.heap.size (.int .i64 r) (.int .i64 c) (.slice A zs.length cap) ∧ Sl wr B A zs ∧ V.heap.size ≤ wr.heap.size) (fun i _ => r - (intOf i).toNat)
  case atStart => exact ⟨0, Nat.zero_le _, rfl, by rw [edgeTo_zero, HRC.out.1, HRC.out.2, HN.out]; exact HRV.out, HBV.out, K5.out, HV1.out, HV0.out, HSV.out, Nat.le_refl _⟩
  case round =>
    obtain ⟨k, hk, rfl, hrow, hbel, hc5c, hc1c, hc0c, hsl, hsz⟩ := hrel
    by_cases hlt : k < r
    · have hlen := HLEN.out
      have hkc : k * c + c ≤ zs.length := by rw [hlen]; have : (k + 1) * c ≤ r * c := Nat.mul_le_mul_right _ (by omega); rw [Nat.add_mul] at this; omega
      have hLR : (k + d) * C + C ≤ N := by
        rw [← HN.out]; have : (k + d + 1) * C ≤ R * C := Nat.mul_le_mul_right _ (by have := HRC.out.1; omega)
        rw [Nat.add_mul (k + d) 1] at this; omega
      have hel : (edgeTo d r c zs k).length = N := by rw [edgeTo_len, HRC.out.1, HRC.out.2, HN.out]
      have hcC : c + 2 * d = C := HRC.out.2
      have HSU := Lib.hid (edgeTo_succ d r c zs k hlt hlen)
      rw [hcC] at HSU
      have hkci : (k : Int) * (c : Int) = ((k * c : Nat) : Int) := by simp
      obtain ⟨kd, hkd⟩ : ∃ kd, k + d = kd := ⟨_, rfl⟩
      rw [hkd] at HSU hLR
      have hLi : (kd : Int) * (C : Int) = ((kd * C : Nat) : Int) := by simp
      obtain ⟨L1, hL1⟩ : ∃ L1, kd * C = L1 := ⟨_, rfl⟩
      obtain ⟨L2, hL2⟩ : ∃ L2, k * c = L2 := ⟨_, rfl⟩
      rw [hL1] at HSU hLR hLi
      rw [hL2] at HSU hkc hkci
      obtain ⟨g, hg, hg1, hg2, hcg, hfz⟩ := hrow.cell_ (j := 0) (by rw [hel]; have := hRC2.out; omega)
      subst hg
      obtain ⟨b, off, hA, hbB, _⟩ := hsl.at_ (k := 0) (by have := HM.out.len; omega)
      subst hA
      have hxl : ((zs.drop L2).take c).length = c := by simp; omega
      have hxs : ∀ w' : World, Sl w' B (some ⟨b, off, none⟩) zs → ∀ j, j < c → w'.cell? ((⟨b, off + L2, none⟩ : Addr).add j) = some (.int .i64 (((zs.drop L2).take c).getD j 0)) := by
        intro w' hsw j hj
        obtain ⟨b', off', h1, _, h2⟩ := hsw.at_ (k := L2 + j) (by omega)
        injection h1 with h1
        injection h1 with h3 h4
        subst h3 h4
        rw [add_at, show off + L2 + j = off + (L2 + j) by omega, h2]
        congr 2
        simp only [List.getD_eq_getElem?_getD]
        rw [List.getElem?_take_of_lt hj, List.getElem?_drop]
      have hD : Drew wr wr.drew := ⟨1, rfl⟩
      have hRow := hD.row hrow
      have hSl := hD.sl hsl
      have hBel := hbel.trans (hD.below _)
      have hC5 := hc5c.grown (hD.grown none) (by simp)
      have hC1 := hc1c.grown (hD.grown none) (by simp)
      have hC0 := hc0c.grown (hD.grown none) (by simp)
      have hSz : V.heap.size ≤ wr.drew.heap.size := hsz
      obtain ⟨y0, y1, y2, _, _, _, ylt⟩ := id hC5
      obtain ⟨x0, x1, x2, _, _, _, xlt⟩ := id hC0
      obtain ⟨y0', y1', y2', _, _, _, _⟩ := hc5c
      obtain ⟨x0', x1', x2', _, _, _, _⟩ := hc0c
      have hdl : (d : Int) ≤ (C : Int) := by omega
      have hEL := Lib.hid hel
      have hHX := Lib.hid hxs
      have hXL := Lib.hid hxl
      have hHL := Lib.hid (And.intro hkd (And.intro hL1 (And.intro hL2 (And.intro hlen hcC))))
      have hkr : (k : Int) < (r : Int) := by omega
      have hwr : IntKind.i64.wrap ((k : Int) + (d : Int)) = (kd : Int) := by rw [wrap_in (by omega) (by omega)]; omega
      have hcE := Lib.hid fun wx => rowOf_len R C kd g 0 N c3 L1 C wx hLi rfl (by omega) hLR hnc3 (by unfold maxLen at hcm3; omega) (by omega)
      have hcM := Lib.hid fun wx => rowOf_len r c k b off zs.length cap L2 c wx hkci rfl (by omega) hkc hnc (by unfold maxLen at hcm; omega) (by omega)
      clear hrow hbel hc1c hsl hel hxs hxl hkd hL1 hL2 hlen hcC HSV HBV HRV HV0 HV1 K5
      have hD2 := Lib.hid hD
      clear hD
      go_wp2
      go_region_law (first
        | (go_simp; go_at_call 86; first
            | (with_reducible refine (hcE.out _).mono ?_)
            | (with_reducible refine (hcM.out _).mono ?_)
           rintro e w5 ⟨cp, rfl, hcp, hcp', hb5⟩
           try have hcd : ¬ cp = d := by omega
           have hRow := hRow.below hb5 (by omega)
           have hSl := hSl.below hb5 (by omega)
           have hBel := hBel.trans (hb5.mono (by omega))
           have hC5 := hC5.below hb5 (by omega)
           have hC1 := hC1.below hb5 (by omega)
           have hC0 := hC0.below hb5 (by omega)
           have hSz := Nat.le_trans hSz hb5.size
           obtain ⟨y0, y1, y2, _, _, _, ylt⟩ := id hC5
           obtain ⟨x0, x1, x2, _, _, _, xlt⟩ := id hC0
           clear hb5)
        | (refine step_copyR (by rfl) (.tmp 57) (.tmp 60) (by rfl) w2.heap.size w3.heap.size g (L1 + d) N c3 _ _ c _ (edgeTo d r c zs k) ((zs.drop L2).take c) ⟨b, off + L2, none⟩ (by rfl) (by rfl) hRow hXL.out (hHX.out _ hSl) (by omega) (by rw [hEL.out]; omega) ?_; intro w5 hr5 hg5))
      all_goals (
        rw [HSU.out] at hr5
        have J5 := Lib.hid (hC5.grown hg5 (by simp; omega))
        have J1 := Lib.hid (hC1.grown hg5 (by simp; omega))
        have J0 := Lib.hid (hC0.grown hg5 (by simp; omega))
        have JS := Lib.hid (hSl.keep (fun p hp => World.cell?_of_block (hg5.block _ (by omega) (by simp; omega))))
        have JB := Lib.hid (hBel.grown hg5 (by omega) (fun g e => by cases e; omega))
        have JR := Lib.hid hr5
        have hz5 := Nat.le_trans hSz hg5.size
        clear hr5 hg5 hRow hSl hBel hC5 hC1 hC0 y0 y1 y2 x0 x1 x2 hcE hcM
        go_wp2
        go_roundw
        case rel => exact ⟨k + 1, by omega, by go_num, JR.out, JB.out, J5.out, J1.out, J0.out, JS.out, hz5⟩
        case measure => simp [intOf]; omega)
    · have e : k = r := by omega
      subst e
      rw [edgeTo_full] at hrow
      have HR := Lib.hid hrow
      have HB5 := Lib.hid hbel
      have HC1 := Lib.hid hc1c
      obtain ⟨v0, v1, v2, p0, p1, p2, vlt⟩ := hc5c
      obtain ⟨b0, b1, b2, g0, g1, g2, blt⟩ := hc1c
      obtain ⟨c0, c1, c2, _, _, _, clt⟩ := hc0c
      clear hrow hbel
      go_wp2
      have P2 := ((HC1.out.set0 (.int .i64 R)).set1 (.int .i64 C)).set2 (.slice A3 N c3)
      have R2 := HR.out.grown (set_grown _ (w.heap.size + 1) 0 (.int .i64 R)) (fun g e => by cases e; left; omega)
      have R3 := R2.grown (set_grown _ (w.heap.size + 1) 1 (.int .i64 C)) (fun g e => by cases e; left; omega)
      have R4 := R3.grown (set_grown _ (w.heap.size + 1) 2 (.slice A3 N c3)) (fun g e => by cases e; left; omega)
      have B4 := ((HB5.out.setCell (p := ⟨w.heap.size + 1, 0, none⟩) (by simp) (.int .i64 R)).setCell (p := ⟨w.heap.size + 1, 1, none⟩) (by simp) (.int .i64 C)).setCell (p := ⟨w.heap.size + 1, 2, none⟩) (by simp) (.slice A3 N c3)
      have S4 : ((((wr.setCell ⟨w.heap.size + 1, 0, none⟩ (.int .i64 R)).setCell ⟨w.heap.size + 1, 1, none⟩ (.int .i64 C)).setCell ⟨w.heap.size + 1, 2, none⟩ (.slice A3 N c3)).heap.size) = wr.heap.size := by simp
      obtain ⟨W4, hW4⟩ : ∃ W4, (((wr.setCell ⟨w.heap.size + 1, 0, none⟩ (.int .i64 R)).setCell ⟨w.heap.size + 1, 1, none⟩ (.int .i64 C)).setCell ⟨w.heap.size + 1, 2, none⟩ (.slice A3 N c3)) = W4 := ⟨_, rfl⟩
      rw [hW4] at P2 R4 B4 S4 ⊢
      obtain ⟨z0, z1, z2, _, _, _, _⟩ := P2
      refine bodyPost_ret (v := matV R C (.slice A3 N c3)) (by simp [results, Try.results50, go_sem, z0, z1, z2]) rfl ?_
      exact ⟨_, rfl, R4.wider (by omega) (by omega), B4⟩
end Go.Proofs.Ytakjmdjjpalaiaa
