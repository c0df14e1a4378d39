/- Contracts: turned matrices, the program's. -/
import Derived.Test.YtakjmdjjpalaiaaFnsE3
namespace Go.Proofs.Ytakjmdjjpalaiaa
open Go.RowKit

/-- The turned matrix, after n values. -/
def turnTo (r c : Nat) (zs : List Int) (n : Nat) : List Int := tab c r fun a b => if b * c + a < n then zs.getD (b * c + a) 0 else 0
theorem turnTo_len (r c : Nat) (zs : List Int) (n : Nat) : (turnTo r c zs n).length = c * r := tab_len _ _ _
theorem turnTo_zero (r c : Nat) (zs : List Int) : turnTo r c zs 0 = List.replicate (c * r) 0 := by
  symm
  refine eq_tab _ (by simp) fun a b ha hb => ?_
  rw [if_neg (by omega)]
  simp [List.getD_eq_getElem?_getD, List.getElem?_replicate]; split <;> simp
theorem turnTo_full (r c : Nat) (zs : List Int) : turnTo r c zs (r * c) = turnZ r c zs := tab_congr fun _ _ ha hb => if_pos (ix_lt hb ha)
theorem turnTo_succ (r c : Nat) (zs : List Int) (k j : Nat) (hk : k < r) (hj : j < c) : (turnTo r c zs (k * c + j)).set (j * r + k) (zs.getD (k * c + j) 0) = turnTo r c zs (k * c + j + 1) := by
  refine eq_tab _ (by rw [List.length_set, turnTo_len]) fun a b ha hb => ?_
  rw [getM_set, turnTo_len]
  by_cases e : j * r + k = a * r + b
  · have h1 : j = a := by have := congrArg (· / r) e; simp only [ix_div hk, ix_div hb] at this; exact this
    have h2 : k = b := by have := congrArg (· % r) e; simp only [ix_mod hk, ix_mod hb] at this; exact this
    subst h1 h2
    rw [if_pos ⟨rfl, ix_lt hj hk⟩, if_pos (by omega)]
  · rw [if_neg (fun h => e h.1), turnTo, tab_at _ _ _ _ _ ha hb]
    have hne : b * c + a ≠ k * c + j := fun h => by
      have h1 : b = k := by have := congrArg (· / c) h; simp only [ix_div ha, ix_div hj] at this; exact this
      have h2 : a = j := by have := congrArg (· % c) h; simp only [ix_mod ha, ix_mod hj] at this; exact this
      exact e (by rw [h1, h2])
    by_cases h : b * c + a < k * c + j
    · rw [if_pos h, if_pos (by omega)]
    · rw [if_neg h, if_neg (by omega)]
set_option maxHeartbeats 4000000 in
theorem implTurn_yes (r c : Nat) (A : Option Addr) (cap n B : Nat) (zs : List Int) (w : World) (hs : Sl w B A zs) (hB : B ≤ w.heap.size) (e : n = zs.length) (hnc : n ≤ cap) (hcm : cap ≤ maxLen) (hm : OkM r c zs) :
    Calls Try.prog 52 #[matV r c (.slice A n cap)] w fun e w' => ∃ s, e = .returned (matV c r s) ∧ Row w' w.heap.size w'.heap.size s (turnZ r c zs) ∧ Below w.heap.size w w' := by
  subst e
  have hlen : zs.length = r * c := by have := hm.2.2.1; exact_mod_cast this
  have hl25 := hm.len
  obtain ⟨hr1, hc1, _, _⟩ := id hm
  have HT0 := Lib.hid (turnTo_zero r c zs)
  have HTF := Lib.hid (turnTo_full r c zs)
  have HTL := Lib.hid (turnTo_len r c zs)
  have HTS := Lib.hid (turnTo_succ r c zs)
  obtain ⟨T, hT⟩ : ∃ T, turnTo r c zs = T := ⟨_, rfl⟩
  rw [hT] at HT0 HTF HTL HTS
  have hcr : c * r = r * c := Nat.mul_comm _ _
  obtain ⟨N, hN⟩ : ∃ N, c * r = N := ⟨_, rfl⟩
  have hNi : (N : Int) = (c : Int) * (r : Int) := by rw [← hN]; simp
  rw [hN] at HT0 HTL hcr
  have hNl : zs.length = N := by rw [hlen, ← hcr]
  have hN25 : N ≤ 25 ∧ 1 ≤ N := by omega
  have HN := Lib.hid (And.intro hN (And.intro hNi (And.intro hNl hlen)))
  have HM := Lib.hid hm
  clear hm hT hcr hN hNi hNl hlen
  obtain ⟨W, hW⟩ : ∃ W, (w.alloc (.cells #[.int .i64 r, .int .i64 c, .slice A zs.length cap] 26)).alloc (.cells #[.int .i64 0, .int .i64 0, .slice none 0 0] 26) = W := ⟨_, rfl⟩
  obtain ⟨q0, q1, hb, hws⟩ := nest2 w r c (.slice A zs.length cap) W hW.symm
  have HS := Lib.hid (hs.below hb hB)
  have Q0 := Lib.hid q0
  have Q1 := Lib.hid q1
  obtain ⟨a0, a1, a2, f0, f1, f2, alt⟩ := q0
  clear hs q1
  go_enter Try.func52, Try.ntmps52
  go_wp2_with fail
  refine (implMV_yes r c A cap _ B zs W HS.out (by omega) rfl (by omega) HM.out).mono ?_
  rintro e w2 ⟨rfl, hb2⟩
  have hs2 := hb2.size
  have HS2 := Lib.hid (HS.out.below hb2 (by omega))
  have HQ0 := Lib.hid (Q0.out.below hb2 (by omega))
  have HQ1 := Lib.hid (Q1.out.below hb2 (by omega))
  have HB := Lib.hid (hb.trans (hb2.mono (by omega)))
  clear hb hb2 a0 a1 a2 f0 f1 f2 alt Q0 Q1
  obtain ⟨c0, c1, c2, _, _, _, clt⟩ := HQ0.out
  go_wp2_with fail
  refine (emptyM_any c r N w2 HN.out.2.1 (by omega)).mono ?_
  rintro e w3 ⟨s3, rfl, hr3, hb3⟩
  obtain ⟨A3, c3, hs3v, hnc3, hcm3, _⟩ := hr3.form
  rw [List.length_replicate] at hs3v hnc3
  subst hs3v
  have hs3 := hb3.size
  have k5 := Cell3.new w3 (.int .i64 c) (.int .i64 r) (.slice A3 N c3) 26
  obtain ⟨V, hV⟩ : ∃ V, w3.alloc (.cells #[.int .i64 c, .int .i64 r, .slice A3 N c3] 26) = V := ⟨_, rfl⟩
  rw [hV] at k5
  have hsv : V.heap.size = w3.heap.size + 1 := by rw [← hV]; simp
  have hbv : Below w3.heap.size w3 V := hV ▸ (Below.refl _ _).alloc (Nat.le_refl _) _
  have hb23 : Below w2.heap.size w2 V := hb3.trans (hbv.mono (by omega))
  have HV0 := Lib.hid (HQ0.out.below hb23 (by omega))
  have HV1 := Lib.hid (HQ1.out.below hb23 (by omega))
  have HBV := Lib.hid (HB.out.trans (hb23.mono (by omega)))
  have HRV := Lib.hid (hr3.below hbv (Nat.le_refl _))
  have HSV := Lib.hid (HS2.out.below hb23 (by omega))
  have K5 := Lib.hid k5
  clear hr3 hb3 hbv hb23 HQ0 HQ1 HB HS2 c0 c1 c2 clt k5
  obtain ⟨c0, c1, c2, _, _, _, clt⟩ := HV0.out
  go_wp2
  clear c0 c1 c2 clt
  have hws' : w.heap.size + 2 ≤ w2.heap.size := by omega
  go_loopw [18] (fun i wr => ∃ k : Nat, k ≤ r ∧ i = .int .i64 k ∧ Row wr w2.heap.size w3.heap.size (.slice A3 N c3) (T (k * c)) ∧ Below w.heap.size w wr ∧ Cell3 wr w3.heap.size (.int .i64 c) (.int .i64 r) (.slice A3 N c3) ∧ Cell3 wr (w.heap.size + 1) (.int .i64 0) (.int .i64 0) (.slice none 0 0) ∧ Cell3 wr w.heap.size (.int .i64 r) (.int .i64 c) (.slice A zs.length cap) ∧ Sl wr B A zs ∧ V.heap.size ≤ wr.heap.size) (fun i _ => r - (intOf i).toNat)
  case atStart => exact ⟨0, Nat.zero_le _, rfl, by rw [Nat.zero_mul, HT0.out]; exact HRV.out, HBV.out, K5.out, HV1.out, HV0.out, HSV.out, Nat.le_refl _⟩
  case round =>
    clear HRV HBV K5 HV1 HV0 HSV
    obtain ⟨k, hk, rfl, hrow, hbel, hc5c, hc1c, hc0c, hsl, hsz⟩ := hrel
    by_cases hlt : k < r
    · have hkc : k * c + c ≤ zs.length := by rw [HN.out.2.2.2]; have : (k + 1) * c ≤ r * c := Nat.mul_le_mul_right _ (by omega); rw [Nat.add_mul] at this; omega
      have hkci : (k : Int) * (c : Int) = ((k * c : Nat) : Int) := by simp
      have hkc1 := Lib.hid (show (k + 1) * c = k * c + c by rw [Nat.add_mul, Nat.one_mul])
      have HTk := Lib.hid fun j hj => HTS.out k j hlt hj
      obtain ⟨L, hL⟩ : ∃ L, k * c = L := ⟨_, rfl⟩
      rw [hL] at hkc hkci hkc1 HTk hrow
      clear hL
      obtain ⟨b, off, hA, hbB, _⟩ := hsl.at_ (k := 0) (by omega)
      subst hA
      have hcM := Lib.hid fun wx => rowOf_len r c k b off zs.length cap L c wx hkci rfl (by omega) hkc hnc (by unfold maxLen at hcm; omega) (by omega)
      have hki : (k : Int) < (r : Int) := by omega
      have HROW := Lib.hid hrow
      have HBL := Lib.hid hbel
      have H5 := Lib.hid hc5c
      have H1 := Lib.hid hc1c
      have H0 := Lib.hid hc0c
      have HSL := Lib.hid hsl
      obtain ⟨c0, c1, c2, _, _, _, clt⟩ := hc0c
      clear hrow hbel hc5c hc1c hsl hkci
      go_wp2_with fail
      refine (hcM.out _).mono ?_
      rintro e w4 ⟨cp, rfl, hcp, hcp', hb4⟩
      have hz4 := hb4.size
      have JROW := Lib.hid (HROW.out.below hb4 (by omega))
      have JBL := Lib.hid (HBL.out.trans (hb4.mono (by omega)))
      have J5 := Lib.hid (H5.out.below hb4 (by omega))
      have J1 := Lib.hid (H1.out.below hb4 (by omega))
      have J0 := Lib.hid (H0.out.below hb4 (by omega))
      have JSL := Lib.hid (HSL.out.below hb4 (by omega))
      clear c0 c1 c2 clt HROW HBL H5 H1 H0 HSL hb4 hcM
      go_wp2
      obtain ⟨wo, hwo⟩ : ∃ wo, wo = wr := ⟨_, rfl⟩
      go_loopw [25] (fun i wr => ∃ j : Nat, j ≤ c ∧ i = .int .i64 j ∧ Row wr w2.heap.size w3.heap.size (.slice A3 N c3) (T (L + j)) ∧ Below w.heap.size w wr ∧ Cell3 wr w3.heap.size (.int .i64 c) (.int .i64 r) (.slice A3 N c3) ∧ Cell3 wr (w.heap.size + 1) (.int .i64 0) (.int .i64 0) (.slice none 0 0) ∧ Cell3 wr w.heap.size (.int .i64 r) (.int .i64 c) (.slice (some ⟨b, off, none⟩) zs.length cap) ∧ Sl wr B (some ⟨b, off, none⟩) zs ∧ V.heap.size ≤ wr.heap.size) (fun i _ => c - (intOf i).toNat)
      case atStart => exact ⟨0, Nat.zero_le _, rfl, JROW.out, JBL.out, J5.out, J1.out, J0.out, JSL.out, by omega⟩
      case round =>
        clear JROW JBL J5 J1 J0 JSL hwo hz4 hsz
        clear wo
        obtain ⟨j, hj, rfl, hrow, hbel, hc5c, hc1c, hc0c, hsl, hsz⟩ := hrel
        by_cases hjlt : j < c
        · have hTk := HTk.out j hjlt
          have hix : j * r + k < N := by rw [← HN.out.1]; exact ix_lt hjlt hlt
          have hjr : (j : Int) * (r : Int) = ((j * r : Nat) : Int) := by simp
          obtain ⟨M, hM⟩ : ∃ M, j * r = M := ⟨_, rfl⟩
          rw [hM] at hTk hix hjr
          obtain ⟨P, hP⟩ : ∃ P, M + k = P := ⟨_, rfl⟩
          rw [hP] at hTk hix
          have hw1 : IntKind.i64.wrap (M : Int) = (M : Int) := wrap_in (by omega) (by omega)
          have hw2 : IntKind.i64.wrap ((M : Int) + (k : Int)) = (P : Int) := by rw [wrap_in (by omega) (by omega)]; omega
          have hPi : (P : Int) < (N : Int) := by omega
          obtain ⟨g, hg, hg1, hg2, hcg, hfz⟩ := hrow.cell_ (j := P) (by rw [HTL.out]; exact hix)
          subst hg
          obtain ⟨b', off', h1, _, hcz⟩ := hsl.at_ (k := L + j) (by omega)
          injection h1 with h1
          injection h1 with h3 h4
          subst h3 h4
          rw [← Nat.add_assoc] at hcz
          obtain ⟨z, hz⟩ : ∃ z, zs.getD (L + j) 0 = z := ⟨_, rfl⟩
          rw [hz] at hcz hTk
          have HTj := Lib.hid hTk
          have hji : (j : Int) < (c : Int) := by omega
          have S := Lib.hid (hrow.stored P z)
          have HBL := Lib.hid hbel
          have H5 := Lib.hid hc5c
          have H1 := Lib.hid hc1c
          have H0 := Lib.hid hc0c
          have HSL := Lib.hid hsl
          obtain ⟨c0, c1, c2, _, _, _, clt⟩ := hc0c
          obtain ⟨v0, v1, v2, _, _, _, vlt⟩ := hc5c
          clear hrow hbel hc1c hsl hTk hM hP hz
          go_wp2
          go_roundw
          case rel => exact ⟨j + 1, by omega, by go_num, by rw [← Nat.add_assoc, ← HTj.out]; exact S.out.1, HBL.out.setCell (p := ⟨g, P, none⟩) (show w.heap.size ≤ g by omega) _, H5.out.far (a := ⟨g, P, none⟩) (show w3.heap.size ≠ g by omega) _, H1.out.far (a := ⟨g, P, none⟩) (show w.heap.size + 1 ≠ g by omega) _, H0.out.far (a := ⟨g, P, none⟩) (show w.heap.size ≠ g by omega) _, HSL.out.keep (fun p hp => World.cell?_setCell_other _ _ _ _ (fun e => by rw [← e] at hp; exact absurd (show g < B from hp) (by omega))), by simpa using hsz⟩
          case measure => simp [intOf]; omega
        · have e : j = c := by omega
          have HROW := Lib.hid hrow
          have HBL := Lib.hid hbel
          have H5 := Lib.hid hc5c
          have H1 := Lib.hid hc1c
          have H0 := Lib.hid hc0c
          have HSL := Lib.hid hsl
          have HE := Lib.hid e
          have hjd : decide ((j : Int) < (c : Int)) = false := by simp; omega
          clear hrow hbel hc5c hc1c hc0c hsl e
          go_wp2
          go_roundw
          case rel => exact ⟨k + 1, by omega, by go_num, by rw [hkc1.out, ← HE.out]; exact HROW.out, HBL.out, H5.out, H1.out, H0.out, HSL.out, hsz⟩
          case measure => simp [intOf]; omega
    · have e : k = r := by omega
      subst e
      rw [HTF.out] at hrow
      have HR := Lib.hid hrow
      have HB5 := Lib.hid hbel
      have HC1 := Lib.hid hc1c
      obtain ⟨v0, v1, v2, p0, p1, p2, vlt⟩ := hc5c
      obtain ⟨b0, b1, b2, g0, g1, g2, blt⟩ := hc1c
      clear hrow hbel hc0c hsl
      go_wp2
      have P2 := ((HC1.out.set0 (.int .i64 c)).set1 (.int .i64 k)).set2 (.slice A3 N c3)
      have R2 := HR.out.grown (set_grown _ (w.heap.size + 1) 0 (.int .i64 c)) (fun g e => by cases e; left; omega)
      have R3 := R2.grown (set_grown _ (w.heap.size + 1) 1 (.int .i64 k)) (fun g e => by cases e; left; omega)
      have R4 := R3.grown (set_grown _ (w.heap.size + 1) 2 (.slice A3 N c3)) (fun g e => by cases e; left; omega)
      have B4 := ((HB5.out.setCell (p := ⟨w.heap.size + 1, 0, none⟩) (by simp) (.int .i64 c)).setCell (p := ⟨w.heap.size + 1, 1, none⟩) (by simp) (.int .i64 k)).setCell (p := ⟨w.heap.size + 1, 2, none⟩) (by simp) (.slice A3 N c3)
      have S4 : ((((wr.setCell ⟨w.heap.size + 1, 0, none⟩ (.int .i64 c)).setCell ⟨w.heap.size + 1, 1, none⟩ (.int .i64 k)).setCell ⟨w.heap.size + 1, 2, none⟩ (.slice A3 N c3)).heap.size) = wr.heap.size := by simp
      obtain ⟨W4, hW4⟩ : ∃ W4, (((wr.setCell ⟨w.heap.size + 1, 0, none⟩ (.int .i64 c)).setCell ⟨w.heap.size + 1, 1, none⟩ (.int .i64 k)).setCell ⟨w.heap.size + 1, 2, none⟩ (.slice A3 N c3)) = W4 := ⟨_, rfl⟩
      rw [hW4] at P2 R4 B4 S4 ⊢
      obtain ⟨z0, z1, z2, _, _, _, _⟩ := P2
      refine bodyPost_ret (v := matV c k (.slice A3 N c3)) (by simp [results, Try.results52, go_sem, z0, z1, z2]) rfl ?_
      exact ⟨_, rfl, R4.wider (by omega) (by omega), B4⟩
end Go.Proofs.Ytakjmdjjpalaiaa
