/- Contracts: ordered rows, the program's. (Printed by gen_D3.py.) -/
import Derived.Test.YtilmglockldddaaFnsD2
import Derived.Test.YtilmglockldddaaApp1
import Derived.Test.YtilmglockldddaaFnsE1
import Derived.Test.YtilmglockldddaaPlainD2
namespace Go.Proofs.Ytilmglockldddaa
open Go.RowKit

theorem rowOf_len (r c k : Int) (b off n cap lo m : Nat) (w : World) (hlo : k * c = (lo : Int)) (hhi : c = (m : Int)) (h1 : 0 < m) (h2 : lo + m ≤ n) (h3 : n ≤ cap) (h4 : cap ≤ 9223372036854775807) (hk : 0 ≤ k ∧ k ≤ 1000) :
    Calls Try.prog 47 #[matV r c (.slice (some ⟨b, off, none⟩) n cap), .int .i64 k] w fun e w' => ∃ cp, e = .returned (.slice (some ⟨b, off + lo, none⟩) m cp) ∧ m ≤ cp ∧ cp ≤ 9223372036854775807 ∧ Below w.heap.size w w' := by
  refine (rowOf_any r c k b off n cap lo (lo + m) w hlo (by rw [Int.add_mul, hlo, hhi]; simp) (by omega) h2 h3 h4 hk).mono ?_
  rintro e w' ⟨h, hb⟩
  rw [Nat.add_sub_cancel_left] at h
  exact ⟨_, h, by omega, by omega, hb⟩
def OkR (r c : Int) (zs os : List Int) : Prop := OkM r c zs ∧ OkO os ∧ (os.length : Int) = r
set_option maxHeartbeats 800000 in
theorem implOrd_no (r c : Int) (A : Option Addr) (cap n B : Nat) (zs : List Int) (Ao : Option Addr) (co no Bo : Nat) (os : List Int) (w : World) (hs : Sl w B A zs) (hB : B ≤ w.heap.size) (e : n = zs.length) (hn : n ≤ 1100000) (hso : Sl w Bo Ao os) (hBo : Bo ≤ w.heap.size) (eo : no = os.length) (hno : no ≤ 1100000) (h : ¬ OkR r c zs os) : Calls Try.prog 18 #[matV r c (.slice A n cap), .slice Ao no co] w fun e w' => e = .returned (matV 0 0 (.slice none 0 0)) ∧ Below w.heap.size w w' := by
  subst e
  subst eo
  obtain ⟨W, hW⟩ : ∃ W, (w.alloc (.cells #[.int .i64 r, .int .i64 c, .slice A zs.length cap] 33)).alloc (.cells #[.int .i64 0, .int .i64 0, .slice none 0 0] 33) = W := ⟨_, rfl⟩
  obtain ⟨q0, q1, hb, hws⟩ := nest2 w r c (.slice A zs.length cap) W hW.symm
  have HS := Lib.hid (hs.below hb hB)
  have HO := Lib.hid (hso.below hb hBo)
  have Q0 := Lib.hid q0
  have Q1 := Lib.hid q1
  obtain ⟨a0, a1, a2, f0, f1, f2, alt⟩ := q0
  clear hs hso q1
  by_cases hm : OkM r c zs
  · have HM := Lib.hid hm
    by_cases ho : OkO os
    · have hl : ¬ (os.length : Int) = r := fun hh => h ⟨hm, ho, hh⟩
      have HO1 := Lib.hid ho
      have hbq : ((os.length : Int) == r) = false := by simpa using hl
      clear h hm ho hl
      go_enter Try.func18, Try.ntmps18
      go_wp2_with fail
      refine (implMV_yes r c A cap _ B zs W HS.out (by omega) rfl (by omega) HM.out).mono ?_
      rintro e w2 ⟨rfl, hb2⟩
      have HB3 := Lib.hid hb2
      have P1 := Q1.out.below hb2 (by omega)
      have HP1 := Lib.hid P1
      obtain ⟨b0, b1, b2, g0, g1, g2, blt⟩ := P1
      obtain ⟨c0, c1, c2, _, _, _, clt⟩ := Q0.out.below hb2 (by omega)
      have HB := Lib.hid (hb.trans (hb2.mono (by omega)))
      have hs2 := hb2.size
      have HO2 := Lib.hid (HO.out.below hb2 (by omega))
      clear hb hb2 a0 a1 a2 f0 f1 f2 alt
      go_wp2_with fail
      refine (implOV_any Ao co os w2 (HO2.out.more (by omega)) (by omega) true ⟨fun _ => HO1.out, fun _ => rfl⟩).mono ?_
      rintro e w3 ⟨rfl, hb3⟩
      have HB3 := Lib.hid (HB3.out.trans (hb3.mono (by omega)))
      have HP2 := Lib.hid (HP1.out.below hb3 (by omega))
      obtain ⟨b0, b1, b2, g0, g1, g2, blt⟩ := HP2.out
      obtain ⟨c0, c1, c2, _, _, _, clt⟩ := Q0.out.below (HB3.out) (by omega)
      have HB2 := Lib.hid (HB.out.trans (hb3.mono (by omega)))
      clear hb3
      go_wp2
      have P2 := ((HP2.out.set0 (.int .i64 0)).set1 (.int .i64 0)).set2 (.slice none 0 0)
      have B4 := ((HB2.out.setCell (p := ⟨w.heap.size + 1, 0, none⟩) (by simp) (.int .i64 0)).setCell (p := ⟨w.heap.size + 1, 1, none⟩) (by simp) (.int .i64 0)).setCell (p := ⟨w.heap.size + 1, 2, none⟩) (by simp) (.slice none 0 0)
      obtain ⟨W4, hW4⟩ : ∃ W4, (((w3.setCell ⟨w.heap.size + 1, 0, none⟩ (.int .i64 0)).setCell ⟨w.heap.size + 1, 1, none⟩ (.int .i64 0)).setCell ⟨w.heap.size + 1, 2, none⟩ (.slice none 0 0)) = W4 := ⟨_, rfl⟩
      rw [hW4] at P2 B4 ⊢
      obtain ⟨z0, z1, z2, _, _, _, _⟩ := P2
      refine bodyPost_ret (v := matV 0 0 (.slice none 0 0)) (by simp [results, Try.results18, go_sem, z0, z1, z2]) rfl ?_
      exact ⟨rfl, B4⟩
    · have HO1 := Lib.hid ho
      clear h hm ho
      go_enter Try.func18, Try.ntmps18
      go_wp2_with fail
      refine (implMV_yes r c A cap _ B zs W HS.out (by omega) rfl (by omega) HM.out).mono ?_
      rintro e w2 ⟨rfl, hb2⟩
      have HB3 := Lib.hid hb2
      have P1 := Q1.out.below hb2 (by omega)
      have HP1 := Lib.hid P1
      obtain ⟨b0, b1, b2, g0, g1, g2, blt⟩ := P1
      obtain ⟨c0, c1, c2, _, _, _, clt⟩ := Q0.out.below hb2 (by omega)
      have HB := Lib.hid (hb.trans (hb2.mono (by omega)))
      have hs2 := hb2.size
      have HO2 := Lib.hid (HO.out.below hb2 (by omega))
      clear hb hb2 a0 a1 a2 f0 f1 f2 alt
      go_wp2_with fail
      refine (implOV_any Ao co os w2 (HO2.out.more (by omega)) (by omega) false ⟨fun e => by simp at e, fun e => absurd e HO1.out⟩).mono ?_
      rintro e w3 ⟨rfl, hb3⟩
      have HB3 := Lib.hid (HB3.out.trans (hb3.mono (by omega)))
      have HP2 := Lib.hid (HP1.out.below hb3 (by omega))
      obtain ⟨b0, b1, b2, g0, g1, g2, blt⟩ := HP2.out
      obtain ⟨c0, c1, c2, _, _, _, clt⟩ := Q0.out.below (HB3.out) (by omega)
      have HB2 := Lib.hid (HB.out.trans (hb3.mono (by omega)))
      clear hb3
      go_wp2
      have P2 := ((HP2.out.set0 (.int .i64 0)).set1 (.int .i64 0)).set2 (.slice none 0 0)
      have B4 := ((HB2.out.setCell (p := ⟨w.heap.size + 1, 0, none⟩) (by simp) (.int .i64 0)).setCell (p := ⟨w.heap.size + 1, 1, none⟩) (by simp) (.int .i64 0)).setCell (p := ⟨w.heap.size + 1, 2, none⟩) (by simp) (.slice none 0 0)
      obtain ⟨W4, hW4⟩ : ∃ W4, (((w3.setCell ⟨w.heap.size + 1, 0, none⟩ (.int .i64 0)).setCell ⟨w.heap.size + 1, 1, none⟩ (.int .i64 0)).setCell ⟨w.heap.size + 1, 2, none⟩ (.slice none 0 0)) = W4 := ⟨_, rfl⟩
      rw [hW4] at P2 B4 ⊢
      obtain ⟨z0, z1, z2, _, _, _, _⟩ := P2
      refine bodyPost_ret (v := matV 0 0 (.slice none 0 0)) (by simp [results, Try.results18, go_sem, z0, z1, z2]) rfl ?_
      exact ⟨rfl, B4⟩
  · have HM := Lib.hid hm
    clear h hm
    go_enter Try.func18, Try.ntmps18
    go_wp2_with fail
    refine (implMV_no r c A cap _ B zs W HS.out (by omega) rfl (by omega) HM.out).mono ?_
    rintro e w2 ⟨rfl, hb2⟩
    have P1 := Q1.out.below hb2 (by omega)
    have HP1 := Lib.hid P1
    obtain ⟨b0, b1, b2, g0, g1, g2, blt⟩ := P1
    obtain ⟨c0, c1, c2, _, _, _, clt⟩ := Q0.out.below hb2 (by omega)
    have HB := Lib.hid (hb.trans (hb2.mono (by omega)))
    have hs2 := hb2.size
    have HO2 := Lib.hid (HO.out.below hb2 (by omega))
    clear hb hb2 a0 a1 a2 f0 f1 f2 alt
    go_wp2
    have P2 := ((HP1.out.set0 (.int .i64 0)).set1 (.int .i64 0)).set2 (.slice none 0 0)
    have B4 := ((HB.out.setCell (p := ⟨w.heap.size + 1, 0, none⟩) (by simp) (.int .i64 0)).setCell (p := ⟨w.heap.size + 1, 1, none⟩) (by simp) (.int .i64 0)).setCell (p := ⟨w.heap.size + 1, 2, none⟩) (by simp) (.slice none 0 0)
    obtain ⟨W4, hW4⟩ : ∃ W4, (((w2.setCell ⟨w.heap.size + 1, 0, none⟩ (.int .i64 0)).setCell ⟨w.heap.size + 1, 1, none⟩ (.int .i64 0)).setCell ⟨w.heap.size + 1, 2, none⟩ (.slice none 0 0)) = W4 := ⟨_, rfl⟩
    rw [hW4] at P2 B4 ⊢
    obtain ⟨z0, z1, z2, _, _, _, _⟩ := P2
    refine bodyPost_ret (v := matV 0 0 (.slice none 0 0)) (by simp [results, Try.results18, go_sem, z0, z1, z2]) rfl ?_
    exact ⟨rfl, B4⟩
set_option maxHeartbeats 4000000 in
theorem implOrd_yes (r c : Nat) (A : Option Addr) (cap n B : Nat) (zs : List Int) (Ao : Option Addr) (co no Bo : Nat) (os : List Int) (w : World) (hs : Sl w B A zs) (hB : B ≤ w.heap.size) (e : n = zs.length) (hn : n ≤ 1100000) (hso : Sl w Bo Ao os) (hBo : Bo ≤ w.heap.size) (eo : no = os.length) (hno : no ≤ 1100000) (hnc : n ≤ cap) (hcm : cap ≤ maxLen) (h : OkR r c zs os) : Calls Try.prog 18 #[matV r c (.slice A n cap), .slice Ao no co] w fun e w' => ∃ s, e = .returned (matV r c s) ∧ Row w' w.heap.size w'.heap.size s (orderZ r c zs os) ∧ Below w.heap.size w w' := by
  obtain ⟨hm, ho, hol⟩ := h
  have hlen : zs.length = r * c := by have := hm.2.2.1; exact_mod_cast this
  have hr1 := hm.1
  have hc1 := hm.2.1
  have hol' : os.length = r := by omega
  have hRC := side_mul (r := r) (c := c) (by omega) (by omega)
  have hRC' : r * c ≤ 25 ∧ 1 ≤ r * c := by
    have : ((r * c : Nat) : Int) = (r : Int) * (c : Int) := by simp
    omega
  subst e
  subst eo
  obtain ⟨W, hW⟩ : ∃ W, (w.alloc (.cells #[.int .i64 r, .int .i64 c, .slice A zs.length cap] 33)).alloc (.cells #[.int .i64 0, .int .i64 0, .slice none 0 0] 33) = W := ⟨_, rfl⟩
  obtain ⟨q0, q1, hb, hws⟩ := nest2 w r c (.slice A zs.length cap) W hW.symm
  have HS := Lib.hid (hs.below hb hB)
  have HO := Lib.hid (hso.below hb hBo)
  have Q0 := Lib.hid q0
  have Q1 := Lib.hid q1
  obtain ⟨a0, a1, a2, f0, f1, f2, alt⟩ := q0
  clear hs hso q1
  have HM := Lib.hid hm
  have HO1 := Lib.hid ho
  have HLEN := Lib.hid hlen
  have HOL := Lib.hid hol'
  have hRC2 := Lib.hid hRC'
  have hbq : ((os.length : Int) == (r : Int)) = true := by simpa using hol
  clear hm ho hlen hol' hRC hRC' hol
  go_enter Try.func18, Try.ntmps18
  go_wp2_with fail
  refine (implMV_yes r c A cap _ B zs W HS.out (by omega) rfl (by omega) HM.out).mono ?_
  rintro e w2 ⟨rfl, hb2⟩
  have HB3 := Lib.hid hb2
  have P1 := Q1.out.below hb2 (by omega)
  have HP1 := Lib.hid P1
  obtain ⟨b0, b1, b2, g0, g1, g2, blt⟩ := P1
  obtain ⟨c0, c1, c2, _, _, _, clt⟩ := Q0.out.below hb2 (by omega)
  have HB := Lib.hid (hb.trans (hb2.mono (by omega)))
  have hs2 := hb2.size
  have HO2 := Lib.hid (HO.out.below hb2 (by omega))
  clear hb hb2 a0 a1 a2 f0 f1 f2 alt
  go_wp2_with fail
  refine (implOV_any Ao co os w2 (HO2.out.more (by omega)) (by omega) true ⟨fun _ => HO1.out, fun _ => rfl⟩).mono ?_
  rintro e w3 ⟨rfl, hb3⟩
  have HB3 := Lib.hid (HB3.out.trans (hb3.mono (by omega)))
  have hs3 := hb3.size
  have HS3 := Lib.hid (HS.out.below HB3.out (by omega))
  have HO3 := Lib.hid (HO2.out.below hb3 (by omega))
  have HQ0 := Lib.hid (Q0.out.below HB3.out (by omega))
  have HP2 := Lib.hid (HP1.out.below hb3 (by omega))
  obtain ⟨b0, b1, b2, g0, g1, g2, blt⟩ := HP2.out
  obtain ⟨c0, c1, c2, _, _, _, clt⟩ := Q0.out.below (HB3.out) (by omega)
  have HB2 := Lib.hid (HB.out.trans (hb3.mono (by omega)))
  clear hb3
  clear HB HP1 HO2
  go_wp2_with fail
  refine (emptyM_any r c (r * c) w3 (by simp) (by have := hRC2.out; omega)).mono ?_
  rintro e w4 ⟨s4, rfl, hr4, hb4⟩
  have HL3 := Lib.hid (show (List.replicate (r * c) (0 : Int)).length = r * c by simp)
  obtain ⟨A3, c3, hs3v, hnc3, hcm3, _⟩ := hr4.form
  rw [HL3.out] at hs3v hnc3
  subst hs3v
  obtain ⟨N, hN⟩ : ∃ N, r * c = N := ⟨_, rfl⟩
  have HN := Lib.hid hN
  rw [hN] at hr4 hRC2 hnc3
  rw [hN]
  clear hN HL3
  have hs4 := hb4.size
  have k5 := Cell3.new w4 (.int .i64 r) (.int .i64 c) (.slice A3 N c3) 33
  obtain ⟨V, hV⟩ : ∃ V, w4.alloc (.cells #[.int .i64 r, .int .i64 c, .slice A3 N c3] 33) = V := ⟨_, rfl⟩
  rw [hV] at k5
  have hsv : V.heap.size = w4.heap.size + 1 := by rw [← hV]; simp
  have hbv : Below w4.heap.size w4 V := hV ▸ (Below.refl _ _).alloc (Nat.le_refl _) _
  have HV0 := Lib.hid ((HQ0.out.below hb4 (by omega)).below hbv (by omega))
  have HV1 := Lib.hid ((HP2.out.below hb4 (by omega)).below hbv (by omega))
  have HBV := Lib.hid ((HB2.out.trans (hb4.mono (by omega))).trans (hbv.mono (by omega)))
  have HRV := Lib.hid (hr4.below hbv (Nat.le_refl _))
  have HSV := Lib.hid ((HS3.out.below hb4 (by omega)).below hbv (by omega))
  have HOV := Lib.hid ((HO3.out.below hb4 (by omega)).below hbv (by omega))
  have K5 := Lib.hid k5
  clear hr4 hb4 hbv HQ0 HP2 HB2 HS3 HO3 HB3 c0 c1 c2 clt b0 b1 b2 g0 g1 g2 blt
  obtain ⟨v0, v1, v2, p0, p1, p2, vlt⟩ := k5
  obtain ⟨c0, c1, c2, _, _, _, clt⟩ := HV0.out
  go_wp2
  clear v0 v1 v2 p0 p1 p2 c0 c1 c2
  have hws' : w.heap.size + 2 ≤ w3.heap.size := by omega
  go_loopw [31] (fun i wr => ∃ k : Nat, k ≤ os.length ∧ i = .int .i64 k ∧ Row wr w3.heap.size w4.heap.size (.slice A3 N c3) (orderTo r c zs os k) ∧ Below w.heap.size w wr ∧ Cell3 wr w4.heap.size (.int .i64 r) (.int .i64 c) (.slice A3 N c3) ∧ Cell3 wr (w.heap.size + 1) (.int .i64 0) (.int .i64 0) (.slice none 0 0) ∧ Cell3 wr w.heap.size (.int .i64 r) (.int .i64 c) (.slice A zs.length cap) ∧ Sl wr B A zs ∧ Sl wr Bo Ao os ∧ V.heap.size ≤ wr.heap.size) (fun i _ => os.length - (intOf i).toNat)
  case atStart => exact ⟨0, Nat.zero_le _, rfl, by rw [orderTo_zero, HN.out]; exact HRV.out, HBV.out, K5.out, HV1.out, HV0.out, HSV.out, HOV.out, Nat.le_refl _⟩
  case round =>
    obtain ⟨k, hk, rfl, hrow, hbel, hc5c, hc1c, hc0c, hsl, hol, hsz⟩ := hrel
    by_cases hlt : k < os.length
    · have hlen := HLEN.out
      have hrr := HOL.out
      obtain ⟨hoe, hor⟩ := HO1.out.ix hlt
      obtain ⟨bo, offo, rfl, hboB, hco⟩ := hol.at_ hlt
      rw [hoe] at hco
      have HSU := Lib.hid (orderTo_succ r c zs os k (by omega) hlen (by omega))
      obtain ⟨kd, hkd⟩ : ∃ kd, oix os k = kd := ⟨_, rfl⟩
      rw [hkd] at HSU hco hor
      have hkc : kd * c + c ≤ zs.length := by rw [hlen]; have : (kd + 1) * c ≤ r * c := Nat.mul_le_mul_right _ (by omega); rw [Nat.add_mul] at this; omega
      have hLR : k * c + c ≤ N := by
        rw [← HN.out]; have : (k + 1) * c ≤ r * c := Nat.mul_le_mul_right _ (by omega)
        rw [Nat.add_mul k 1] at this; omega
      have hel : (orderTo r c zs os k).length = N := by rw [orderTo_len, HN.out]
      have hkci : (kd : Int) * (c : Int) = ((kd * c : Nat) : Int) := by simp
      have hLi : (k : Int) * (c : Int) = ((k * c : Nat) : Int) := by simp
      obtain ⟨L1, hL1⟩ : ∃ L1, k * c = L1 := ⟨_, rfl⟩
      obtain ⟨L2, hL2⟩ : ∃ L2, kd * c = L2 := ⟨_, rfl⟩
      rw [hL1] at HSU hLR hLi
      rw [hL2] at HSU hkc hkci
      obtain ⟨g, hg, hg1, hg2, hcg, hfz⟩ := hrow.cell_ (j := 0) (by rw [hel]; have := hRC2.out; omega)
      subst hg
      obtain ⟨b, off, hA, hbB, _⟩ := hsl.at_ (k := 0) (by have := HM.out.len; omega)
      subst hA
      have hxl : ((zs.drop L2).take c).length = c := by simp; omega
      have hxs : ∀ w' : World, Sl w' B (some ⟨b, off, none⟩) zs → ∀ j, j < c → w'.cell? ((⟨b, off + L2, none⟩ : Addr).add j) = some (.int .i64 (((zs.drop L2).take c).getD j 0)) := by
        intro w' hsw j hj
        obtain ⟨b', off', h1, _, h2⟩ := hsw.at_ (k := L2 + j) (by omega)
        injection h1 with h1
        injection h1 with h3 h4
        subst h3 h4
        rw [add_at, show off + L2 + j = off + (L2 + j) by omega, h2, row_getD _ _ _ _ hj]
      have hD : Drew wr wr.drew := ⟨1, rfl⟩
      have hRow := hD.row hrow
      have hSl := hD.sl hsl
      have hOl := hD.sl hol
      have hBel := hbel.trans (hD.below _)
      have hC5 := hc5c.grown (hD.grown none) (by simp)
      have hC1 := hc1c.grown (hD.grown none) (by simp)
      have hC0 := hc0c.grown (hD.grown none) (by simp)
      have hSz : V.heap.size ≤ wr.drew.heap.size := hsz
      obtain ⟨y0, y1, y2, _, _, _, ylt⟩ := id hC5
      obtain ⟨x0, x1, x2, _, _, _, xlt⟩ := id hC0
      obtain ⟨y0', y1', y2', _, _, _, _⟩ := hc5c
      obtain ⟨x0', x1', x2', _, _, _, _⟩ := hc0c
      have hEL := Lib.hid hel
      have hHX := Lib.hid hxs
      have hXL := Lib.hid hxl
      have hHL := Lib.hid (And.intro hkd (And.intro hL1 (And.intro hL2 (And.intro hlen (And.intro hrr hoe)))))
      have hkr : (k : Int) < (os.length : Int) := by omega
      have hcE := Lib.hid fun wx => rowOf_len r c k g 0 N c3 L1 c wx hLi rfl (by omega) hLR hnc3 (by unfold maxLen at hcm3; omega) (by omega)
      have hcM := Lib.hid fun wx => rowOf_len r c kd b off zs.length cap L2 c wx hkci rfl (by omega) hkc hnc (by unfold maxLen at hcm; omega) (by omega)
      clear hrow hbel hc1c hsl hol hel hxs hxl hkd hL1 hL2 hlen hrr hoe HSV HBV HRV HV0 HV1 K5 HOV
      have hD2 := Lib.hid hD
      clear hD
      go_wp2
      go_region_law (first
        | (go_simp; go_at_call 47; first
            | (with_reducible refine (hcE.out _).mono ?_)
            | (with_reducible refine (hcM.out _).mono ?_)
           rintro e w5 ⟨cp, rfl, hcp, hcp', hb5⟩
           have hRow := hRow.below hb5 (by omega)
           have hSl := hSl.below hb5 (by omega)
           have hOl := hOl.below hb5 (by omega)
           have hBel := hBel.trans (hb5.mono (by omega))
           have hC5 := hC5.below hb5 (by omega)
           have hC1 := hC1.below hb5 (by omega)
           have hC0 := hC0.below hb5 (by omega)
           have hSz := Nat.le_trans hSz hb5.size
           obtain ⟨y0, y1, y2, _, _, _, ylt⟩ := id hC5
           obtain ⟨x0, x1, x2, _, _, _, xlt⟩ := id hC0
           clear hb5)
        | (refine step_copyR (by rfl) (.tmp 38) (.tmp 41) (by rfl) w3.heap.size w4.heap.size g L1 N c3 _ _ c _ (orderTo r c zs os k) ((zs.drop L2).take c) ⟨b, off + L2, none⟩ (by rfl) (by rfl) hRow hXL.out (hHX.out _ hSl) (by omega) (by rw [hEL.out]; omega) ?_; intro w5 hr5 hg5))
      all_goals (
        rw [HSU.out] at hr5
        have J5 := Lib.hid (hC5.grown hg5 (by simp; omega))
        have J1 := Lib.hid (hC1.grown hg5 (by simp; omega))
        have J0 := Lib.hid (hC0.grown hg5 (by simp; omega))
        have JS := Lib.hid (hSl.keep (fun p hp => World.cell?_of_block (hg5.block _ (by omega) (by simp; omega))))
        have JO := Lib.hid (hOl.keep (fun p hp => World.cell?_of_block (hg5.block _ (by omega) (by simp; omega))))
        have JB := Lib.hid (hBel.grown hg5 (by omega) (fun g e => by cases e; omega))
        have JR := Lib.hid hr5
        have hz5 := Nat.le_trans hSz hg5.size
        clear hr5 hg5 hRow hSl hOl hBel hC5 hC1 hC0 y0 y1 y2 x0 x1 x2 hcE hcM
        go_wp2
        go_roundw
        case rel => exact ⟨k + 1, by omega, by go_num, JR.out, JB.out, J5.out, J1.out, J0.out, JS.out, JO.out, hz5⟩
        case measure => simp [intOf]; omega)
    · have e : k = r := by have := HOL.out; omega
      have hE := Lib.hid e
      rw [e, orderTo_full] at hrow
      have HR := Lib.hid hrow
      have HB5 := Lib.hid hbel
      have HC1 := Lib.hid hc1c
      obtain ⟨v0, v1, v2, p0, p1, p2, vlt⟩ := hc5c
      obtain ⟨b0, b1, b2, g0, g1, g2, blt⟩ := hc1c
      obtain ⟨c0, c1, c2, _, _, _, clt⟩ := hc0c
      have hnl : decide ((k : Int) < (os.length : Int)) = false := by simp; omega
      clear hrow hbel e
      go_wp2
      have P2 := ((HC1.out.set0 (.int .i64 r)).set1 (.int .i64 c)).set2 (.slice A3 N c3)
      have R2 := HR.out.grown (set_grown _ (w.heap.size + 1) 0 (.int .i64 r)) (fun g e => by cases e; left; omega)
      have R3 := R2.grown (set_grown _ (w.heap.size + 1) 1 (.int .i64 c)) (fun g e => by cases e; left; omega)
      have R4 := R3.grown (set_grown _ (w.heap.size + 1) 2 (.slice A3 N c3)) (fun g e => by cases e; left; omega)
      have B4 := ((HB5.out.setCell (p := ⟨w.heap.size + 1, 0, none⟩) (by simp) (.int .i64 r)).setCell (p := ⟨w.heap.size + 1, 1, none⟩) (by simp) (.int .i64 c)).setCell (p := ⟨w.heap.size + 1, 2, none⟩) (by simp) (.slice A3 N c3)
      have S4 : ((((wr.setCell ⟨w.heap.size + 1, 0, none⟩ (.int .i64 r)).setCell ⟨w.heap.size + 1, 1, none⟩ (.int .i64 c)).setCell ⟨w.heap.size + 1, 2, none⟩ (.slice A3 N c3)).heap.size) = wr.heap.size := by simp
      obtain ⟨W4, hW4⟩ : ∃ W4, (((wr.setCell ⟨w.heap.size + 1, 0, none⟩ (.int .i64 r)).setCell ⟨w.heap.size + 1, 1, none⟩ (.int .i64 c)).setCell ⟨w.heap.size + 1, 2, none⟩ (.slice A3 N c3)) = W4 := ⟨_, rfl⟩
      rw [hW4] at P2 R4 B4 S4 ⊢
      obtain ⟨z0, z1, z2, _, _, _, _⟩ := P2
      refine bodyPost_ret (v := matV r c (.slice A3 N c3)) (by simp [results, Try.results18, go_sem, z0, z1, z2]) rfl ?_
      exact ⟨_, rfl, R4.wider (by omega) (by omega), B4⟩
end Go.Proofs.Ytilmglockldddaa
