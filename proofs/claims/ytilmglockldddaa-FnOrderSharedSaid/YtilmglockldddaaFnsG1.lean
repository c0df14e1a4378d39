/- Contracts: sums and differences of matrices, the program's. (Printed by gen_G1.py.) -/
import Derived.Test.YtilmglockldddaaFnsE5
import Derived.Test.YtilmglockldddaaFnsE6
import Derived.Test.YtilmglockldddaaPlainG
import Derived.Test.YtilmglockldddaaDrw
import Derived.Deep.Cut
import Derived.Deep.CutRange
import Derived.Deep.DeepCutAuto
import Derived.Deep.RegionLaw
namespace Go.Proofs.Ytilmglockldddaa
open Go.RowKit

theorem nestB2 (w : World) (r c r2 c2 : Int) (s s2 : Value) : ∀ W, W = (w.alloc (.cells #[.int .i64 r, .int .i64 c, s] 33)).alloc (.cells #[.int .i64 r2, .int .i64 c2, s2] 33) →
    Cell3 W w.heap.size (.int .i64 r) (.int .i64 c) s ∧ Cell3 W (w.heap.size + 1) (.int .i64 r2) (.int .i64 c2) s2 ∧ Below w.heap.size w W ∧ W.heap.size = w.heap.size + 2 := by
  rintro W rfl
  have a := Cell3.new w (.int .i64 r) (.int .i64 c) s 33
  have b := Cell3.new (w.alloc (.cells #[.int .i64 r, .int .i64 c, s] 33)) (.int .i64 r2) (.int .i64 c2) s2 33
  simp only [World.size_alloc] at b
  exact ⟨a.alloc _, b, ((Below.refl _ _).alloc (Nat.le_refl _) _).alloc (by simp) _, by simp⟩
theorem sameSides_any (r c r2 c2 : Int) (s s2 : Value) (w : World) (ob : Bool) (hob : ob = true ↔ r = r2 ∧ c = c2) :
    Calls Try.prog 64 #[matV r c s, matV r2 c2 s2] w fun e w' => e = .returned (.bool ob) ∧ Below w.heap.size w w' := by
  obtain ⟨W, hW⟩ : ∃ W, (w.alloc (.cells #[.int .i64 r, .int .i64 c, s] 33)).alloc (.cells #[.int .i64 r2, .int .i64 c2, s2] 33) = W := ⟨_, rfl⟩
  obtain ⟨q0, q1, hb, _⟩ := nestB2 w r c r2 c2 s s2 W hW.symm
  obtain ⟨a0, a1, a2, _, _, _, alt⟩ := q0
  obtain ⟨b0, b1, b2, _, _, _, blt⟩ := q1
  by_cases h1 : r = r2
  · subst h1
    by_cases h2 : c = c2
    · subst h2
      obtain rfl : ob = true := hob.2 ⟨rfl, rfl⟩
      clear hob
      go_enter Try.func64, Try.ntmps64
      go_wp2
      go_ret
      exact ⟨rfl, hb⟩
    · obtain rfl : ob = false := by
        cases ob
        · rfl
        · exact absurd (hob.1 rfl).2 h2
      have hd : (c == c2) = false := by simpa using h2
      clear hob h2
      go_enter Try.func64, Try.ntmps64
      go_wp2
      go_ret
      exact ⟨rfl, hb⟩
  · obtain rfl : ob = false := by
      cases ob
      · rfl
      · exact absurd (hob.1 rfl).1 h1
    have hd : (r == r2) = false := by simpa using h1
    clear hob h1
    go_enter Try.func64, Try.ntmps64
    go_wp2
    go_ret
    exact ⟨rfl, hb⟩
theorem drewG (w : World) : Drew w w.drew := ⟨1, rfl⟩
theorem ringAdd (a b : Int) (w : World) (ha : 0 ≤ a ∧ a ≤ 4095) (hb : 0 ≤ b ∧ b ≤ 4095) : Calls Try.prog 75 #[.int .i64 a, .int .i64 b] w fun e w' => e = .returned (.int .i64 (addF a b)) ∧ w = w' := by
  go_enter Try.func75, Try.ntmps75
  go_wp2_with fail
  refine (ringValid_yes _ _ ha.1 ha.2).mono ?_
  rintro e w' ⟨rfl, rfl⟩
  go_wp2_with fail
  refine (ringValid_yes _ _ hb.1 hb.2).mono ?_
  rintro e w' ⟨rfl, rfl⟩
  go_wp2_with fail
  refine (implRing _ _).mono ?_
  rintro e w' ⟨rfl, rfl⟩
  go_wp2
  go_ret
  exact ⟨rfl, rfl⟩
set_option maxHeartbeats 1600000 in
theorem pairAdd_yes (r c : Int) (A : Option Addr) (cap n B : Nat) (zs : List Int) (A2 : Option Addr) (cap2 n2 B2 : Nat) (ys : List Int) (w : World) (hs : Sl w B A zs) (hB : B ≤ w.heap.size) (e : n = zs.length) (hs2 : Sl w B2 A2 ys) (hB2 : B2 ≤ w.heap.size) (e2 : n2 = ys.length) (hm : OkM r c zs) (hm2 : OkM r c ys) :
    Calls Try.prog 74 #[matV r c (.slice A n cap), matV r c (.slice A2 n2 cap2), .func (.func 75) #[] #[]] w fun e w' => ∃ s, e = .returned (matV r c s) ∧ Row w' w.heap.size w'.heap.size s (pairZ addF zs ys) ∧ Below w.heap.size w w' := by
  have hT0 : Hid (pairTo addF zs ys 0 = List.replicate zs.length 0) := pairTo_zero _ _ _
  have hTF : Hid (pairTo addF zs ys zs.length = pairZ addF zs ys) := pairTo_full _ _ _
  have hTL : Hid (∀ k, (pairTo addF zs ys k).length = zs.length) := fun k => pairTo_len _ _ _ k
  have hTS : Hid (∀ k, pairTo addF zs ys (k + 1) = (pairTo addF zs ys k).set k (addF (zs.getD k 0) (ys.getD k 0))) := fun k => pairTo_succ _ _ _ k
  have hTR : Hid (∀ k p, 0 ≤ (pairTo addF zs ys k).getD p 0 ∧ (pairTo addF zs ys k).getD p 0 ≤ 4095) := fun k p => pairTo_rng addF (fun a b => by unfold addF; omega) zs ys k p
  obtain ⟨T, hT⟩ : ∃ T, pairTo addF zs ys = T := ⟨_, rfl⟩
  rw [hT] at hT0 hTF hTL hTS hTR
  clear hT
  have hyl : ys.length = zs.length := by have := hm.2.2.1; have := hm2.2.2.1; omega
  have hl25 := hm.len
  have hl25' := hm2.len
  have hYL := Lib.hid hyl
  have hRC : Hid ((zs.length : Int) = r * c) := hm.2.2.1
  have HM := Lib.hid hm
  have HM2 := Lib.hid hm2
  clear hm hm2 hyl
  subst e
  subst e2
  obtain ⟨W, hW⟩ : ∃ W, ((w.alloc (.cells #[.int .i64 r, .int .i64 c, .slice A zs.length cap] 33)).alloc (.cells #[.int .i64 r, .int .i64 c, .slice A2 ys.length cap2] 33)).alloc (.cells #[.int .i64 0, .int .i64 0, .slice none 0 0] 33) = W := ⟨_, rfl⟩
  obtain ⟨q0, q2, q1, hb, hws⟩ := nest3 w r c r c (.slice A zs.length cap) (.slice A2 ys.length cap2) W hW.symm
  have HS := Lib.hid (hs.below hb hB)
  have HK := Lib.hid (hs2.below hb hB2)
  have Q0 := Lib.hid q0
  have Q1 := Lib.hid q1
  have Q2 := Lib.hid q2
  obtain ⟨a0, a1, a2, f0, f1, f2, alt⟩ := q0
  clear hs hs2 q1 q2
  go_enter Try.func74, Try.ntmps74
  go_wp2_with fail
  refine (implMV_yes r c A cap _ B zs W HS.out (by omega) rfl (by omega) HM.out).mono ?_
  rintro e w2 ⟨rfl, hb2⟩
  have hs2 := hb2.size
  obtain ⟨y0, y1, y2, _, _, _, ylt⟩ := Q2.out.below hb2 (by omega)
  go_wp2_with fail
  refine (implMV_yes r c A2 cap2 _ B2 ys w2 (HK.out.below hb2 (by omega)) (by omega) rfl (by omega) HM2.out).mono ?_
  rintro e w3 ⟨rfl, hb3⟩
  have hbb : Below W.heap.size W w3 := hb2.trans (hb3.mono hs2)
  have hs3 := hbb.size
  clear y0 y1 y2 ylt a0 a1 a2 f0 f1 f2 alt
  obtain ⟨y0, y1, y2, _, _, _, ylt⟩ := Q2.out.below hbb (by omega)
  obtain ⟨c0, c1, c2, _, _, _, clt⟩ := Q0.out.below hbb (by omega)
  go_wp2_with fail
  refine (sameSides_any r c r c _ _ w3 true ⟨fun _ => ⟨rfl, rfl⟩, fun _ => rfl⟩).mono ?_
  rintro e w4 ⟨rfl, hb4⟩
  have hbc : Below W.heap.size W w4 := hbb.trans (hb4.mono (by omega))
  have hs4 := hbc.size
  have HQ0 := Lib.hid (Q0.out.below hbc (by omega))
  have HQ2 := Lib.hid (Q2.out.below hbc (by omega))
  have HQ1 := Lib.hid (Q1.out.below hbc (by omega))
  have HS3 := Lib.hid (HS.out.below hbc (by omega))
  have HK3 := Lib.hid (HK.out.below hbc (by omega))
  have HB := Lib.hid (hb.trans (hbc.mono (by omega)))
  clear y0 y1 y2 ylt c0 c1 c2 clt hb hb2 hb3 hb4 hbb hbc HS HK Q0 Q1 Q2
  obtain ⟨y0, y1, y2, _, _, _, ylt⟩ := HQ2.out
  obtain ⟨c0, c1, c2, _, _, _, clt⟩ := HQ0.out
  go_wp2_with fail
  refine (emptyM_any r c zs.length w4 hRC.out (by omega)).mono ?_
  rintro e w5 ⟨s5, rfl, hr5, hb5⟩
  obtain ⟨A3, c3, hs5v, hnc3, hcm3, _⟩ := hr5.form
  rw [List.length_replicate] at hs5v hnc3
  subst hs5v
  have hs5 := hb5.size
  have k5 := Cell3.new w5 (.int .i64 r) (.int .i64 c) (.slice A3 zs.length c3) 33
  obtain ⟨V, hV⟩ : ∃ V, w5.alloc (.cells #[.int .i64 r, .int .i64 c, .slice A3 zs.length c3] 33) = V := ⟨_, rfl⟩
  rw [hV] at k5
  have hsv : V.heap.size = w5.heap.size + 1 := by rw [← hV]; simp
  have hbv : Below w5.heap.size w5 V := hV ▸ (Below.refl _ _).alloc (Nat.le_refl _) _
  have hb45 : Below w4.heap.size w4 V := hb5.trans (hbv.mono (by omega))
  have HV0 := Lib.hid (HQ0.out.below hb45 (by omega))
  have HV1 := Lib.hid (HQ1.out.below hb45 (by omega))
  have HV2 := Lib.hid (HQ2.out.below hb45 (by omega))
  have HBV := Lib.hid (HB.out.trans (hb45.mono (by omega)))
  have HRV := Lib.hid (hr5.below hbv (Nat.le_refl _))
  have HSV := Lib.hid (HS3.out.below hb45 (by omega))
  have HKV := Lib.hid (HK3.out.below hb45 (by omega))
  have K5 := Lib.hid k5
  clear hr5 hb5 hbv hb45 HQ0 HQ1 HQ2 HB HS3 HK3 c0 c1 c2 y0 y1 y2 clt ylt k5
  obtain ⟨c0, c1, c2, _, _, _, clt⟩ := HV0.out
  go_wp2
  clear c0 c1 c2 clt
  have hws' : w.heap.size + 3 ≤ w4.heap.size := by omega
  go_loopw [33] (fun i wr => ∃ k : Nat, k ≤ zs.length ∧ i = .int .i64 k ∧ Row wr w4.heap.size w5.heap.size (.slice A3 zs.length c3) (T k) ∧ Below w.heap.size w wr ∧ Cell3 wr w5.heap.size (.int .i64 r) (.int .i64 c) (.slice A3 zs.length c3) ∧ Cell3 wr (w.heap.size + 1 + 1) (.int .i64 0) (.int .i64 0) (.slice none 0 0) ∧ Cell3 wr (w.heap.size + 1) (.int .i64 r) (.int .i64 c) (.slice A2 ys.length cap2) ∧ Sl wr B A zs ∧ Sl wr B2 A2 ys ∧ V.heap.size ≤ wr.heap.size) (fun i _ => zs.length - (intOf i).toNat)
  case atStart => exact ⟨0, Nat.zero_le _, rfl, by rw [hT0.out]; exact HRV.out, HBV.out, K5.out, HV1.out, HV2.out, HSV.out, HKV.out, Nat.le_refl _⟩
  case round =>
    clear HRV HBV K5 HV1 HV2 HSV HKV HV0
    obtain ⟨k, hk, rfl, hrow, hbel, hc5c, hc1c, hc2c, hsl, hslk, hsz⟩ := hrel
    by_cases hlt : k < zs.length
    · have hTk := hTS.out k
      obtain ⟨g, hg, hg1, hg2, hcg, hfz⟩ := hrow.cell_ (j := k) (by rw [hTL.out]; exact hlt)
      subst hg
      obtain ⟨b, off, hA, hbB, hcz⟩ := hsl.at_ hlt
      subst hA
      have hky : k < ys.length := by rw [hYL.out]; exact hlt
      obtain ⟨b2, off2, hA2, hbB2, hcy⟩ := hslk.at_ hky
      subst hA2
      have hxr := HM.out.2.2.2 k hlt
      have hyr := HM2.out.2.2.2 k hky
      obtain ⟨x, hx⟩ : ∃ x, zs.getD k 0 = x := ⟨_, rfl⟩
      obtain ⟨y, hy⟩ : ∃ y, ys.getD k 0 = y := ⟨_, rfl⟩
      rw [hx] at hcz hxr hTk
      rw [hy] at hcy hyr hTk
      have hcall := Lib.hid fun wx => ringAdd x y wx hxr hyr
      obtain ⟨z, hz⟩ : ∃ z, addF x y = z := ⟨_, rfl⟩
      rw [hz] at hTk hcall
      have HTk := Lib.hid hTk
      clear hTk hx hy hz
      have hki : (k : Int) < (zs.length : Int) := by omega
      have hkyi : (k : Int) < (ys.length : Int) := by omega
      have hD := Lib.hid (drewG wr)
      have HROW := Lib.hid (hD.out.row hrow)
      have HSL := Lib.hid (hD.out.sl hsl)
      have HSK := Lib.hid (hD.out.sl hslk)
      have HBL := Lib.hid (hbel.trans (hD.out.below _))
      have H5 := Lib.hid (hc5c.grown (hD.out.grown none) (by simp))
      have H1 := Lib.hid (hc1c.grown (hD.out.grown none) (by simp))
      have H2 := Lib.hid (hc2c.grown (hD.out.grown none) (by simp))
      obtain ⟨v0, v1, v2, _, _, _, vlt⟩ := H5.out
      obtain ⟨u0, u1, u2, _, _, _, ult⟩ := H2.out
      have hcyd : wr.drew.cell? ⟨b2, off2 + k, none⟩ = some (.int .i64 y) := hcy
      have hcgd := (hD.out.grown none).cell hcg (by simp)
      have hfzd : wr.drew.frozen? ⟨g, k, none⟩ = false := hfz
      have S := Lib.hid (HROW.out.stored k z)
      clear hrow hsl hslk hbel hc5c hc1c hc2c hcg hfz hcy
      go_upto_region 7 with fail
      go_region_law (go_simp; go_at_call 75; refine (hcall.out _).mono ?_; rintro e w' ⟨rfl, rfl⟩)
      all_goals (
        go_wp2
        go_roundw
        case rel => exact ⟨k + 1, by omega, by go_num, by rw [HTk.out]; exact S.out.1, HBL.out.setCell (p := ⟨g, k, none⟩) (show w.heap.size ≤ g by omega) _, H5.out.far (a := ⟨g, k, none⟩) (show w5.heap.size ≠ g by omega) _, H1.out.far (a := ⟨g, k, none⟩) (show w.heap.size + 1 + 1 ≠ g by omega) _, H2.out.far (a := ⟨g, k, none⟩) (show w.heap.size + 1 ≠ g by omega) _, HSL.out.keep (fun p hp => World.cell?_setCell_other _ _ _ _ (fun e => by rw [← e] at hp; exact absurd (show g < B from hp) (by omega))), HSK.out.keep (fun p hp => World.cell?_setCell_other _ _ _ _ (fun e => by rw [← e] at hp; exact absurd (show g < B2 from hp) (by omega))), by simpa using hsz⟩
        case measure => simp [intOf]; omega)
    · have e : k = zs.length := by omega
      rw [e, hTF.out] at hrow
      have hE := Lib.hid e
      have HR := Lib.hid hrow
      have HB5 := Lib.hid hbel
      have HC1 := Lib.hid hc1c
      obtain ⟨v0, v1, v2, p0, p1, p2, vlt⟩ := hc5c
      obtain ⟨b0, b1, b2, g0, g1, g2, blt⟩ := hc1c
      clear hrow hbel e hsl hslk hc2c
      go_wp2
      have P2 := ((HC1.out.set0 (.int .i64 r)).set1 (.int .i64 c)).set2 (.slice A3 zs.length c3)
      have R2 := HR.out.grown (set_grown _ (w.heap.size + 1 + 1) 0 (.int .i64 r)) (fun g e => by cases e; left; omega)
      have R3 := R2.grown (set_grown _ (w.heap.size + 1 + 1) 1 (.int .i64 c)) (fun g e => by cases e; left; omega)
      have R4 := R3.grown (set_grown _ (w.heap.size + 1 + 1) 2 (.slice A3 zs.length c3)) (fun g e => by cases e; left; omega)
      have B4 := ((HB5.out.setCell (p := ⟨w.heap.size + 1 + 1, 0, none⟩) (by simp; omega) (.int .i64 r)).setCell (p := ⟨w.heap.size + 1 + 1, 1, none⟩) (by simp; omega) (.int .i64 c)).setCell (p := ⟨w.heap.size + 1 + 1, 2, none⟩) (by simp; omega) (.slice A3 zs.length c3)
      have S4 : ((((wr.setCell ⟨w.heap.size + 1 + 1, 0, none⟩ (.int .i64 r)).setCell ⟨w.heap.size + 1 + 1, 1, none⟩ (.int .i64 c)).setCell ⟨w.heap.size + 1 + 1, 2, none⟩ (.slice A3 zs.length c3)).heap.size) = wr.heap.size := by simp
      obtain ⟨W4, hW4⟩ : ∃ W4, (((wr.setCell ⟨w.heap.size + 1 + 1, 0, none⟩ (.int .i64 r)).setCell ⟨w.heap.size + 1 + 1, 1, none⟩ (.int .i64 c)).setCell ⟨w.heap.size + 1 + 1, 2, none⟩ (.slice A3 zs.length c3)) = W4 := ⟨_, rfl⟩
      rw [hW4] at P2 R4 B4 S4 ⊢
      obtain ⟨z0, z1, z2, _, _, _, _⟩ := P2
      refine bodyPost_ret (v := matV r c (.slice A3 zs.length c3)) (by simp [results, Try.results74, go_sem, z0, z1, z2]) rfl ?_
      exact ⟨_, rfl, R4.wider (by omega) (by omega), B4⟩
set_option maxHeartbeats 400000 in
theorem implAdd_yes (r c : Int) (A : Option Addr) (cap n B : Nat) (zs : List Int) (A2 : Option Addr) (cap2 n2 B2 : Nat) (ys : List Int) (w : World) (hs : Sl w B A zs) (hB : B ≤ w.heap.size) (e : n = zs.length) (hs2 : Sl w B2 A2 ys) (hB2 : B2 ≤ w.heap.size) (e2 : n2 = ys.length) (hm : OkM r c zs) (hm2 : OkM r c ys) :
    Calls Try.prog 60 #[matV r c (.slice A n cap), matV r c (.slice A2 n2 cap2)] w fun e w' => ∃ s, e = .returned (matV r c s) ∧ Row w' w.heap.size w'.heap.size s (pairZ addF zs ys) ∧ Below w.heap.size w w' := by
  obtain ⟨W, hW⟩ : ∃ W, ((w.alloc (.cells #[.int .i64 r, .int .i64 c, .slice A n cap] 33)).alloc (.cells #[.int .i64 r, .int .i64 c, .slice A2 n2 cap2] 33)).alloc (.cells #[.int .i64 0, .int .i64 0, .slice none 0 0] 33) = W := ⟨_, rfl⟩
  obtain ⟨q0, q2, q1, hb, hws⟩ := nest3 w r c r c (.slice A n cap) (.slice A2 n2 cap2) W hW.symm
  have HP := Lib.hid (pairAdd_yes r c A cap n B zs A2 cap2 n2 B2 ys W (hs.below hb hB) (by omega) e (hs2.below hb hB2) (by omega) e2 hm hm2)
  have Q1 := Lib.hid q1
  have HB := Lib.hid hb
  obtain ⟨L, hL⟩ : ∃ L, pairZ addF zs ys = L := ⟨_, rfl⟩
  rw [hL] at HP ⊢
  clear hL
  obtain ⟨a0, a1, a2, f0, f1, f2, alt⟩ := q0
  obtain ⟨y0, y1, y2, g0, g1, g2, ylt⟩ := q2
  clear hs hs2 q1 hb hm hm2 e e2
  go_enter Try.func60, Try.ntmps60
  go_wp2_with fail
  refine HP.out.mono ?_
  rintro e w3 ⟨s3, rfl, hr3, hb3⟩
  clear HP
  obtain ⟨A3, c3, rfl, _, _, _⟩ := hr3.form
  have hs3 := hb3.size
  have P1 := Q1.out.below hb3 (by omega)
  have HP1 := Lib.hid P1
  obtain ⟨b0, b1, b2, g0, g1, g2, blt⟩ := P1
  have HR := Lib.hid hr3
  have HB3 := Lib.hid (HB.out.trans (hb3.mono (by omega)))
  clear hr3 hb3 a0 a1 a2 f0 f1 f2 alt y0 y1 y2 ylt
  go_wp2
  have P2 := ((HP1.out.set0 (.int .i64 r)).set1 (.int .i64 c)).set2 (.slice A3 L.length c3)
  have R2 := HR.out.grown (set_grown _ (w.heap.size + 1 + 1) 0 (.int .i64 r)) (fun g e => by cases e; left; omega)
  have R3 := R2.grown (set_grown _ (w.heap.size + 1 + 1) 1 (.int .i64 c)) (fun g e => by cases e; left; omega)
  have R4 := R3.grown (set_grown _ (w.heap.size + 1 + 1) 2 (.slice A3 L.length c3)) (fun g e => by cases e; left; omega)
  have B4 := ((HB3.out.setCell (p := ⟨w.heap.size + 1 + 1, 0, none⟩) (by simp; omega) (.int .i64 r)).setCell (p := ⟨w.heap.size + 1 + 1, 1, none⟩) (by simp; omega) (.int .i64 c)).setCell (p := ⟨w.heap.size + 1 + 1, 2, none⟩) (by simp; omega) (.slice A3 L.length c3)
  have S4 : ((((w3.setCell ⟨w.heap.size + 1 + 1, 0, none⟩ (.int .i64 r)).setCell ⟨w.heap.size + 1 + 1, 1, none⟩ (.int .i64 c)).setCell ⟨w.heap.size + 1 + 1, 2, none⟩ (.slice A3 L.length c3)).heap.size) = w3.heap.size := by simp
  obtain ⟨W4, hW4⟩ : ∃ W4, (((w3.setCell ⟨w.heap.size + 1 + 1, 0, none⟩ (.int .i64 r)).setCell ⟨w.heap.size + 1 + 1, 1, none⟩ (.int .i64 c)).setCell ⟨w.heap.size + 1 + 1, 2, none⟩ (.slice A3 L.length c3)) = W4 := ⟨_, rfl⟩
  rw [hW4] at P2 R4 B4 S4 ⊢
  obtain ⟨z0, z1, z2, _, _, _, _⟩ := P2
  refine bodyPost_ret (v := matV r c (.slice A3 L.length c3)) (by simp [results, Try.results60, go_sem, z0, z1, z2]) rfl ?_
  exact ⟨_, rfl, R4.wider (by omega) (by omega), B4⟩
theorem ringSub (a b : Int) (w : World) (ha : 0 ≤ a ∧ a ≤ 4095) (hb : 0 ≤ b ∧ b ≤ 4095) : Calls Try.prog 76 #[.int .i64 a, .int .i64 b] w fun e w' => e = .returned (.int .i64 (subF a b)) ∧ w = w' := by
  go_enter Try.func76, Try.ntmps76
  go_wp2_with fail
  refine (ringValid_yes _ _ ha.1 ha.2).mono ?_
  rintro e w' ⟨rfl, rfl⟩
  go_wp2_with fail
  refine (ringValid_yes _ _ hb.1 hb.2).mono ?_
  rintro e w' ⟨rfl, rfl⟩
  go_wp2_with fail
  refine (implRing _ _).mono ?_
  rintro e w' ⟨rfl, rfl⟩
  go_wp2
  go_ret
  exact ⟨rfl, rfl⟩
set_option maxHeartbeats 1600000 in
theorem pairSub_yes (r c : Int) (A : Option Addr) (cap n B : Nat) (zs : List Int) (A2 : Option Addr) (cap2 n2 B2 : Nat) (ys : List Int) (w : World) (hs : Sl w B A zs) (hB : B ≤ w.heap.size) (e : n = zs.length) (hs2 : Sl w B2 A2 ys) (hB2 : B2 ≤ w.heap.size) (e2 : n2 = ys.length) (hm : OkM r c zs) (hm2 : OkM r c ys) :
    Calls Try.prog 74 #[matV r c (.slice A n cap), matV r c (.slice A2 n2 cap2), .func (.func 76) #[] #[]] w fun e w' => ∃ s, e = .returned (matV r c s) ∧ Row w' w.heap.size w'.heap.size s (pairZ subF zs ys) ∧ Below w.heap.size w w' := by
  have hT0 : Hid (pairTo subF zs ys 0 = List.replicate zs.length 0) := pairTo_zero _ _ _
  have hTF : Hid (pairTo subF zs ys zs.length = pairZ subF zs ys) := pairTo_full _ _ _
  have hTL : Hid (∀ k, (pairTo subF zs ys k).length = zs.length) := fun k => pairTo_len _ _ _ k
  have hTS : Hid (∀ k, pairTo subF zs ys (k + 1) = (pairTo subF zs ys k).set k (subF (zs.getD k 0) (ys.getD k 0))) := fun k => pairTo_succ _ _ _ k
  have hTR : Hid (∀ k p, 0 ≤ (pairTo subF zs ys k).getD p 0 ∧ (pairTo subF zs ys k).getD p 0 ≤ 4095) := fun k p => pairTo_rng subF (fun a b => by unfold subF; omega) zs ys k p
  obtain ⟨T, hT⟩ : ∃ T, pairTo subF zs ys = T := ⟨_, rfl⟩
  rw [hT] at hT0 hTF hTL hTS hTR
  clear hT
  have hyl : ys.length = zs.length := by have := hm.2.2.1; have := hm2.2.2.1; omega
  have hl25 := hm.len
  have hl25' := hm2.len
  have hYL := Lib.hid hyl
  have hRC : Hid ((zs.length : Int) = r * c) := hm.2.2.1
  have HM := Lib.hid hm
  have HM2 := Lib.hid hm2
  clear hm hm2 hyl
  subst e
  subst e2
  obtain ⟨W, hW⟩ : ∃ W, ((w.alloc (.cells #[.int .i64 r, .int .i64 c, .slice A zs.length cap] 33)).alloc (.cells #[.int .i64 r, .int .i64 c, .slice A2 ys.length cap2] 33)).alloc (.cells #[.int .i64 0, .int .i64 0, .slice none 0 0] 33) = W := ⟨_, rfl⟩
  obtain ⟨q0, q2, q1, hb, hws⟩ := nest3 w r c r c (.slice A zs.length cap) (.slice A2 ys.length cap2) W hW.symm
  have HS := Lib.hid (hs.below hb hB)
  have HK := Lib.hid (hs2.below hb hB2)
  have Q0 := Lib.hid q0
  have Q1 := Lib.hid q1
  have Q2 := Lib.hid q2
  obtain ⟨a0, a1, a2, f0, f1, f2, alt⟩ := q0
  clear hs hs2 q1 q2
  go_enter Try.func74, Try.ntmps74
  go_wp2_with fail
  refine (implMV_yes r c A cap _ B zs W HS.out (by omega) rfl (by omega) HM.out).mono ?_
  rintro e w2 ⟨rfl, hb2⟩
  have hs2 := hb2.size
  obtain ⟨y0, y1, y2, _, _, _, ylt⟩ := Q2.out.below hb2 (by omega)
  go_wp2_with fail
  refine (implMV_yes r c A2 cap2 _ B2 ys w2 (HK.out.below hb2 (by omega)) (by omega) rfl (by omega) HM2.out).mono ?_
  rintro e w3 ⟨rfl, hb3⟩
  have hbb : Below W.heap.size W w3 := hb2.trans (hb3.mono hs2)
  have hs3 := hbb.size
  clear y0 y1 y2 ylt a0 a1 a2 f0 f1 f2 alt
  obtain ⟨y0, y1, y2, _, _, _, ylt⟩ := Q2.out.below hbb (by omega)
  obtain ⟨c0, c1, c2, _, _, _, clt⟩ := Q0.out.below hbb (by omega)
  go_wp2_with fail
  refine (sameSides_any r c r c _ _ w3 true ⟨fun _ => ⟨rfl, rfl⟩, fun _ => rfl⟩).mono ?_
  rintro e w4 ⟨rfl, hb4⟩
  have hbc : Below W.heap.size W w4 := hbb.trans (hb4.mono (by omega))
  have hs4 := hbc.size
  have HQ0 := Lib.hid (Q0.out.below hbc (by omega))
  have HQ2 := Lib.hid (Q2.out.below hbc (by omega))
  have HQ1 := Lib.hid (Q1.out.below hbc (by omega))
  have HS3 := Lib.hid (HS.out.below hbc (by omega))
  have HK3 := Lib.hid (HK.out.below hbc (by omega))
  have HB := Lib.hid (hb.trans (hbc.mono (by omega)))
  clear y0 y1 y2 ylt c0 c1 c2 clt hb hb2 hb3 hb4 hbb hbc HS HK Q0 Q1 Q2
  obtain ⟨y0, y1, y2, _, _, _, ylt⟩ := HQ2.out
  obtain ⟨c0, c1, c2, _, _, _, clt⟩ := HQ0.out
  go_wp2_with fail
  refine (emptyM_any r c zs.length w4 hRC.out (by omega)).mono ?_
  rintro e w5 ⟨s5, rfl, hr5, hb5⟩
  obtain ⟨A3, c3, hs5v, hnc3, hcm3, _⟩ := hr5.form
  rw [List.length_replicate] at hs5v hnc3
  subst hs5v
  have hs5 := hb5.size
  have k5 := Cell3.new w5 (.int .i64 r) (.int .i64 c) (.slice A3 zs.length c3) 33
  obtain ⟨V, hV⟩ : ∃ V, w5.alloc (.cells #[.int .i64 r, .int .i64 c, .slice A3 zs.length c3] 33) = V := ⟨_, rfl⟩
  rw [hV] at k5
  have hsv : V.heap.size = w5.heap.size + 1 := by rw [← hV]; simp
  have hbv : Below w5.heap.size w5 V := hV ▸ (Below.refl _ _).alloc (Nat.le_refl _) _
  have hb45 : Below w4.heap.size w4 V := hb5.trans (hbv.mono (by omega))
  have HV0 := Lib.hid (HQ0.out.below hb45 (by omega))
  have HV1 := Lib.hid (HQ1.out.below hb45 (by omega))
  have HV2 := Lib.hid (HQ2.out.below hb45 (by omega))
  have HBV := Lib.hid (HB.out.trans (hb45.mono (by omega)))
  have HRV := Lib.hid (hr5.below hbv (Nat.le_refl _))
  have HSV := Lib.hid (HS3.out.below hb45 (by omega))
  have HKV := Lib.hid (HK3.out.below hb45 (by omega))
  have K5 := Lib.hid k5
  clear hr5 hb5 hbv hb45 HQ0 HQ1 HQ2 HB HS3 HK3 c0 c1 c2 y0 y1 y2 clt ylt k5
  obtain ⟨c0, c1, c2, _, _, _, clt⟩ := HV0.out
  go_wp2
  clear c0 c1 c2 clt
  have hws' : w.heap.size + 3 ≤ w4.heap.size := by omega
  go_loopw [33] (fun i wr => ∃ k : Nat, k ≤ zs.length ∧ i = .int .i64 k ∧ Row wr w4.heap.size w5.heap.size (.slice A3 zs.length c3) (T k) ∧ Below w.heap.size w wr ∧ Cell3 wr w5.heap.size (.int .i64 r) (.int .i64 c) (.slice A3 zs.length c3) ∧ Cell3 wr (w.heap.size + 1 + 1) (.int .i64 0) (.int .i64 0) (.slice none 0 0) ∧ Cell3 wr (w.heap.size + 1) (.int .i64 r) (.int .i64 c) (.slice A2 ys.length cap2) ∧ Sl wr B A zs ∧ Sl wr B2 A2 ys ∧ V.heap.size ≤ wr.heap.size) (fun i _ => zs.length - (intOf i).toNat)
  case atStart => exact ⟨0, Nat.zero_le _, rfl, by rw [hT0.out]; exact HRV.out, HBV.out, K5.out, HV1.out, HV2.out, HSV.out, HKV.out, Nat.le_refl _⟩
  case round =>
    clear HRV HBV K5 HV1 HV2 HSV HKV HV0
    obtain ⟨k, hk, rfl, hrow, hbel, hc5c, hc1c, hc2c, hsl, hslk, hsz⟩ := hrel
    by_cases hlt : k < zs.length
    · have hTk := hTS.out k
      obtain ⟨g, hg, hg1, hg2, hcg, hfz⟩ := hrow.cell_ (j := k) (by rw [hTL.out]; exact hlt)
      subst hg
      obtain ⟨b, off, hA, hbB, hcz⟩ := hsl.at_ hlt
      subst hA
      have hky : k < ys.length := by rw [hYL.out]; exact hlt
      obtain ⟨b2, off2, hA2, hbB2, hcy⟩ := hslk.at_ hky
      subst hA2
      have hxr := HM.out.2.2.2 k hlt
      have hyr := HM2.out.2.2.2 k hky
      obtain ⟨x, hx⟩ : ∃ x, zs.getD k 0 = x := ⟨_, rfl⟩
      obtain ⟨y, hy⟩ : ∃ y, ys.getD k 0 = y := ⟨_, rfl⟩
      rw [hx] at hcz hxr hTk
      rw [hy] at hcy hyr hTk
      have hcall := Lib.hid fun wx => ringSub x y wx hxr hyr
      obtain ⟨z, hz⟩ : ∃ z, subF x y = z := ⟨_, rfl⟩
      rw [hz] at hTk hcall
      have HTk := Lib.hid hTk
      clear hTk hx hy hz
      have hki : (k : Int) < (zs.length : Int) := by omega
      have hkyi : (k : Int) < (ys.length : Int) := by omega
      have hD := Lib.hid (drewG wr)
      have HROW := Lib.hid (hD.out.row hrow)
      have HSL := Lib.hid (hD.out.sl hsl)
      have HSK := Lib.hid (hD.out.sl hslk)
      have HBL := Lib.hid (hbel.trans (hD.out.below _))
      have H5 := Lib.hid (hc5c.grown (hD.out.grown none) (by simp))
      have H1 := Lib.hid (hc1c.grown (hD.out.grown none) (by simp))
      have H2 := Lib.hid (hc2c.grown (hD.out.grown none) (by simp))
      obtain ⟨v0, v1, v2, _, _, _, vlt⟩ := H5.out
      obtain ⟨u0, u1, u2, _, _, _, ult⟩ := H2.out
      have hcyd : wr.drew.cell? ⟨b2, off2 + k, none⟩ = some (.int .i64 y) := hcy
      have hcgd := (hD.out.grown none).cell hcg (by simp)
      have hfzd : wr.drew.frozen? ⟨g, k, none⟩ = false := hfz
      have S := Lib.hid (HROW.out.stored k z)
      clear hrow hsl hslk hbel hc5c hc1c hc2c hcg hfz hcy
      go_upto_region 7 with fail
      go_region_law (go_simp; go_at_call 76; refine (hcall.out _).mono ?_; rintro e w' ⟨rfl, rfl⟩)
      all_goals (
        go_wp2
        go_roundw
        case rel => exact ⟨k + 1, by omega, by go_num, by rw [HTk.out]; exact S.out.1, HBL.out.setCell (p := ⟨g, k, none⟩) (show w.heap.size ≤ g by omega) _, H5.out.far (a := ⟨g, k, none⟩) (show w5.heap.size ≠ g by omega) _, H1.out.far (a := ⟨g, k, none⟩) (show w.heap.size + 1 + 1 ≠ g by omega) _, H2.out.far (a := ⟨g, k, none⟩) (show w.heap.size + 1 ≠ g by omega) _, HSL.out.keep (fun p hp => World.cell?_setCell_other _ _ _ _ (fun e => by rw [← e] at hp; exact absurd (show g < B from hp) (by omega))), HSK.out.keep (fun p hp => World.cell?_setCell_other _ _ _ _ (fun e => by rw [← e] at hp; exact absurd (show g < B2 from hp) (by omega))), by simpa using hsz⟩
        case measure => simp [intOf]; omega)
    · have e : k = zs.length := by omega
      rw [e, hTF.out] at hrow
      have hE := Lib.hid e
      have HR := Lib.hid hrow
      have HB5 := Lib.hid hbel
      have HC1 := Lib.hid hc1c
      obtain ⟨v0, v1, v2, p0, p1, p2, vlt⟩ := hc5c
      obtain ⟨b0, b1, b2, g0, g1, g2, blt⟩ := hc1c
      clear hrow hbel e hsl hslk hc2c
      go_wp2
      have P2 := ((HC1.out.set0 (.int .i64 r)).set1 (.int .i64 c)).set2 (.slice A3 zs.length c3)
      have R2 := HR.out.grown (set_grown _ (w.heap.size + 1 + 1) 0 (.int .i64 r)) (fun g e => by cases e; left; omega)
      have R3 := R2.grown (set_grown _ (w.heap.size + 1 + 1) 1 (.int .i64 c)) (fun g e => by cases e; left; omega)
      have R4 := R3.grown (set_grown _ (w.heap.size + 1 + 1) 2 (.slice A3 zs.length c3)) (fun g e => by cases e; left; omega)
      have B4 := ((HB5.out.setCell (p := ⟨w.heap.size + 1 + 1, 0, none⟩) (by simp; omega) (.int .i64 r)).setCell (p := ⟨w.heap.size + 1 + 1, 1, none⟩) (by simp; omega) (.int .i64 c)).setCell (p := ⟨w.heap.size + 1 + 1, 2, none⟩) (by simp; omega) (.slice A3 zs.length c3)
      have S4 : ((((wr.setCell ⟨w.heap.size + 1 + 1, 0, none⟩ (.int .i64 r)).setCell ⟨w.heap.size + 1 + 1, 1, none⟩ (.int .i64 c)).setCell ⟨w.heap.size + 1 + 1, 2, none⟩ (.slice A3 zs.length c3)).heap.size) = wr.heap.size := by simp
      obtain ⟨W4, hW4⟩ : ∃ W4, (((wr.setCell ⟨w.heap.size + 1 + 1, 0, none⟩ (.int .i64 r)).setCell ⟨w.heap.size + 1 + 1, 1, none⟩ (.int .i64 c)).setCell ⟨w.heap.size + 1 + 1, 2, none⟩ (.slice A3 zs.length c3)) = W4 := ⟨_, rfl⟩
      rw [hW4] at P2 R4 B4 S4 ⊢
      obtain ⟨z0, z1, z2, _, _, _, _⟩ := P2
      refine bodyPost_ret (v := matV r c (.slice A3 zs.length c3)) (by simp [results, Try.results74, go_sem, z0, z1, z2]) rfl ?_
      exact ⟨_, rfl, R4.wider (by omega) (by omega), B4⟩
set_option maxHeartbeats 400000 in
theorem implSub_yes (r c : Int) (A : Option Addr) (cap n B : Nat) (zs : List Int) (A2 : Option Addr) (cap2 n2 B2 : Nat) (ys : List Int) (w : World) (hs : Sl w B A zs) (hB : B ≤ w.heap.size) (e : n = zs.length) (hs2 : Sl w B2 A2 ys) (hB2 : B2 ≤ w.heap.size) (e2 : n2 = ys.length) (hm : OkM r c zs) (hm2 : OkM r c ys) :
    Calls Try.prog 61 #[matV r c (.slice A n cap), matV r c (.slice A2 n2 cap2)] w fun e w' => ∃ s, e = .returned (matV r c s) ∧ Row w' w.heap.size w'.heap.size s (pairZ subF zs ys) ∧ Below w.heap.size w w' := by
  obtain ⟨W, hW⟩ : ∃ W, ((w.alloc (.cells #[.int .i64 r, .int .i64 c, .slice A n cap] 33)).alloc (.cells #[.int .i64 r, .int .i64 c, .slice A2 n2 cap2] 33)).alloc (.cells #[.int .i64 0, .int .i64 0, .slice none 0 0] 33) = W := ⟨_, rfl⟩
  obtain ⟨q0, q2, q1, hb, hws⟩ := nest3 w r c r c (.slice A n cap) (.slice A2 n2 cap2) W hW.symm
  have HP := Lib.hid (pairSub_yes r c A cap n B zs A2 cap2 n2 B2 ys W (hs.below hb hB) (by omega) e (hs2.below hb hB2) (by omega) e2 hm hm2)
  have Q1 := Lib.hid q1
  have HB := Lib.hid hb
  obtain ⟨L, hL⟩ : ∃ L, pairZ subF zs ys = L := ⟨_, rfl⟩
  rw [hL] at HP ⊢
  clear hL
  obtain ⟨a0, a1, a2, f0, f1, f2, alt⟩ := q0
  obtain ⟨y0, y1, y2, g0, g1, g2, ylt⟩ := q2
  clear hs hs2 q1 hb hm hm2 e e2
  go_enter Try.func61, Try.ntmps61
  go_wp2_with fail
  refine HP.out.mono ?_
  rintro e w3 ⟨s3, rfl, hr3, hb3⟩
  clear HP
  obtain ⟨A3, c3, rfl, _, _, _⟩ := hr3.form
  have hs3 := hb3.size
  have P1 := Q1.out.below hb3 (by omega)
  have HP1 := Lib.hid P1
  obtain ⟨b0, b1, b2, g0, g1, g2, blt⟩ := P1
  have HR := Lib.hid hr3
  have HB3 := Lib.hid (HB.out.trans (hb3.mono (by omega)))
  clear hr3 hb3 a0 a1 a2 f0 f1 f2 alt y0 y1 y2 ylt
  go_wp2
  have P2 := ((HP1.out.set0 (.int .i64 r)).set1 (.int .i64 c)).set2 (.slice A3 L.length c3)
  have R2 := HR.out.grown (set_grown _ (w.heap.size + 1 + 1) 0 (.int .i64 r)) (fun g e => by cases e; left; omega)
  have R3 := R2.grown (set_grown _ (w.heap.size + 1 + 1) 1 (.int .i64 c)) (fun g e => by cases e; left; omega)
  have R4 := R3.grown (set_grown _ (w.heap.size + 1 + 1) 2 (.slice A3 L.length c3)) (fun g e => by cases e; left; omega)
  have B4 := ((HB3.out.setCell (p := ⟨w.heap.size + 1 + 1, 0, none⟩) (by simp; omega) (.int .i64 r)).setCell (p := ⟨w.heap.size + 1 + 1, 1, none⟩) (by simp; omega) (.int .i64 c)).setCell (p := ⟨w.heap.size + 1 + 1, 2, none⟩) (by simp; omega) (.slice A3 L.length c3)
  have S4 : ((((w3.setCell ⟨w.heap.size + 1 + 1, 0, none⟩ (.int .i64 r)).setCell ⟨w.heap.size + 1 + 1, 1, none⟩ (.int .i64 c)).setCell ⟨w.heap.size + 1 + 1, 2, none⟩ (.slice A3 L.length c3)).heap.size) = w3.heap.size := by simp
  obtain ⟨W4, hW4⟩ : ∃ W4, (((w3.setCell ⟨w.heap.size + 1 + 1, 0, none⟩ (.int .i64 r)).setCell ⟨w.heap.size + 1 + 1, 1, none⟩ (.int .i64 c)).setCell ⟨w.heap.size + 1 + 1, 2, none⟩ (.slice A3 L.length c3)) = W4 := ⟨_, rfl⟩
  rw [hW4] at P2 R4 B4 S4 ⊢
  obtain ⟨z0, z1, z2, _, _, _, _⟩ := P2
  refine bodyPost_ret (v := matV r c (.slice A3 L.length c3)) (by simp [results, Try.results61, go_sem, z0, z1, z2]) rfl ?_
  exact ⟨_, rfl, R4.wider (by omega) (by omega), B4⟩
end Go.Proofs.Ytilmglockldddaa
