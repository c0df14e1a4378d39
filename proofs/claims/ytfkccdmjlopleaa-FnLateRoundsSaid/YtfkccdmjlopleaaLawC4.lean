/- The walk of the law: rounds are as late as possible. -/
import Derived.Test.YtfkccdmjlopleaaDrawC3
import Derived.Test.YtfkccdmjlopleaaPlainC5
import Derived.Test.YtfkccdmjlopleaaFnsC5i
namespace Go.Proofs.Ytfkccdmjlopleaa
open Go.RowKit

theorem roundsP_cases (zss : List (List Int)) : (OkT zss ∧ roundsP zss = rdsTo zss zss.length) ∨ (¬ OkT zss ∧ roundsP zss = []) := by
  unfold roundsP
  by_cases h : OkT zss
  · exact .inl ⟨h, if_pos h⟩
  · exact .inr ⟨h, if_neg h⟩
theorem late_same' (zss : List (List Int)) : (lateP zss).length = (roundsP zss).length := by
  rw [lateP_rounds, lateSt_length]
/-- What the law's walk wants to know of the rounds es, as early as possible, and xs, as late as possible. -/
theorem late_law {zss : List (List Int)} {es xs : List Int} (he : roundsP zss = es) (hx : lateP zss = xs) (L : Nat) (hL : es.length = L) (k : Nat) (hk : k < L) :
    zss.length = L ∧ okIn (at2 zss k) k (at2 zss k).length ∧ (at2 zss k).length ≤ 4 ∧ es.getD k 0 ≤ xs.getD k 0 ∧ xs.getD k 0 ≤ maxTo es L ∧ (∀ i, i < L → 1 ≤ xs.getD i 0 ∧ xs.getD i 0 ≤ 12) ∧ ∀ j, j < (at2 zss k).length → xs.getD ((at2 zss k).getD j 0).toNat 0 < xs.getD k 0 := by
  rcases roundsP_cases zss with ⟨h, h1⟩ | ⟨h, h1⟩
  · have h2 : lateP zss = lateSt zss zss.length (lastOf zss) zss.length := by unfold lateP; exact if_pos h
    rw [he] at h1
    rw [hx] at h2
    subst h1 h2
    rw [rdsTo_length] at hL
    subst hL
    have h3 := late_rng h k hk
    have h4 := h.2 k hk
    have h5 : maxTo (rdsTo zss zss.length) zss.length = lastOf zss := rfl
    rw [h5]
    refine ⟨rfl, h4.2, h4.1, h3.1, h3.2, fun i hi => ?_, fun j hj => ?_⟩
    · have h6 := late_rng h i hi
      have h7 := rdsTo_bound _ h.2 i hi
      have h8 := lastOf_bound h
      omega
    · have := late_before h.2 (lastOf zss) k hk j hj
      omega
  · rw [he] at h1
    rw [h1] at hL
    simp at hL
    omega
set_option maxHeartbeats 3200000 in
theorem law_FnLateRounds (w : World) (A : Option Addr) (n c : Nat) (h0 : Code8 w A n ∧ n ≤ c ∧ c ≤ maxLen) :
    Calls Try.prog 8 #[.slice A n c] w fun e w' => e = .returned (.bool true) ∧ Below w.heap.size w w' := by
  obtain ⟨hc, hnc, hcm⟩ := h0
  have hcm' := hcm
  unfold maxLen at hcm'
  by_cases hn : 1048576 < n
  · go_enter Try.func8, Try.ntmps8
    go_wp2
    go_ret
    exact ⟨rfl, Below.refl _ _⟩
  have hd1 : decide ((1048576 : Int) < (n : Int)) = false := by simp; omega
  go_enter Try.func8, Try.ntmps8
  go_wp2_with fail
  refine (drawLateRounds A n c w (by omega) hnc hcm hc).mono ?_
  rintro e w1 ⟨v, zss, A1, c1, rfl, rfl, hl1, hcm1, hs1, hsm, hb⟩
  have HS1 := Lib.hid hs1
  have HSM := Lib.hid (show Small 2000000 zss from ⟨by have := hsm.1; omega, fun j hj => by have := hsm.2 j hj; omega⟩)
  have hz20 := hsm.1
  clear hs1 hsm
  go_wp2_with fail
  refine (implLR_any A1 c1 zss w1 HS1.out HSM.out).mono ?_
  rintro e w2 ⟨v2, rfl, hr2, hb2⟩
  have hlen := late_same' zss
  have h12 := roundsP_12 zss
  obtain ⟨xs, hxs⟩ : ∃ xs, lateP zss = xs := ⟨_, rfl⟩
  obtain ⟨es, hes⟩ : ∃ es, roundsP zss = es := ⟨_, rfl⟩
  obtain ⟨L, hL⟩ : ∃ L, es.length = L := ⟨_, rfl⟩
  rw [hxs] at hr2 hlen
  rw [hes, hL] at hlen h12
  have HLAW := Lib.hid (fun k hk => late_law hes hxs L hL k hk)
  have HSU := Lib.hid (fun k hk => maxTo_succ es k hk)
  have HZ := Lib.hid (maxTo_zero es)
  have HXS := Lib.hid hxs
  have HES := Lib.hid hes
  have HL := Lib.hid hL
  have HXL := Lib.hid hlen
  clear hxs hes hL
  obtain ⟨A2, c2, rfl, _, _, hsx⟩ := hr2.form
  rw [HXL.out]
  have HS2 := Lib.hid ((HS1.out.below hb2 (Nat.le_refl _)).more hb2.size)
  have HX2 := Lib.hid hsx
  clear hsx hr2
  go_wp2_with fail
  refine (specLR_any A1 c1 zss w2 HS2.out HSM.out).mono ?_
  rintro e w3 ⟨v3, rfl, hr3, hb3⟩
  rw [HXS.out] at hr3
  obtain ⟨A3, c3, rfl, _, _, hs3⟩ := hr3.form
  rw [HXL.out]
  have HX3 := Lib.hid ((HX2.out.below hb3 (Nat.le_refl _)).more hb3.size)
  have HS3 := Lib.hid ((HS2.out.below hb3 (Nat.le_refl _)).more hb3.size)
  have hb13 := hb.trans ((hb2.trans (hb3.mono hb2.size)).mono hb.size)
  clear hr3 hb2 hb3 HX2 HS2 hb
  go_wp2_with fail
  refine (sameInts_same _ _ A2 A3 c2 c3 L L xs w3 HX3.out hs3 HXL.out.symm HXL.out.symm (by omega)).mono ?_
  rintro e w4 ⟨rfl, hd⟩
  have HX4 := Lib.hid (hd.sl HX3.out)
  have HS4 := Lib.hid (hd.ss HS3.out)
  have hsz := hd.size
  have hb14 := hb13.trans (hd.below _)
  rw [← hsz] at HX4 HS4
  clear hd hs3 HX3 HS3 hb13 hsz
  go_wp2_with fail
  refine (implTR_any A1 c1 zss w4 HS4.out HSM.out).mono ?_
  rintro e w5 ⟨v5, rfl, hr5, hb5⟩
  rw [HES.out] at hr5
  obtain ⟨A5, c5, rfl, _, _, hs5⟩ := hr5.form
  rw [HL.out]
  have HE5 := Lib.hid hs5
  have HX5 := Lib.hid ((HX4.out.below hb5 (Nat.le_refl _)).more hb5.size)
  have HS5 := Lib.hid ((HS4.out.below hb5 (Nat.le_refl _)).more hb5.size)
  have hb15 := hb14.trans (hb5.mono (by have := hb14.size; omega))
  clear hr5 hs5 hb5 HX4 HS4 hb14
  go_wp2
  go_loop [6, 7] (fun r i => ∃ k : Nat, k ≤ L ∧ i = .int .i64 k ∧ r = .int .i64 (maxTo es k)) (fun _ i => L - (intOf i).toNat)
  case atStart => exact ⟨0, Nat.zero_le _, rfl, by rw [HZ.out]⟩
  case round =>
    obtain ⟨k, hk, rfl, rfl⟩ := hrel
    by_cases hlt : k < L
    · obtain ⟨b2, off2, rfl, hb2, hc2⟩ := HE5.out.at_ (k := k) (by rw [HL.out]; exact hlt)
      have HNN := Lib.hid (HSU.out k (by rw [HL.out]; exact hlt))
      obtain ⟨z, hz⟩ : ∃ z, es.getD k 0 = z := ⟨_, rfl⟩
      rw [hz] at hc2 HNN
      obtain ⟨p, hp⟩ : ∃ p, maxTo es k = p := ⟨_, rfl⟩
      rw [hp] at HNN ⊢
      clear hz hp
      go_wp2
      go_round
      case rel => exact ⟨k + 1, by omega, by go_num, by rw [HNN.out]; congr 1; split <;> omega⟩
      case measure => simp [intOf]; omega
    · have e : k = L := by omega
      subst e
      obtain ⟨p, hp⟩ : ∃ p, maxTo es k = p := ⟨_, rfl⟩
      have HP := Lib.hid hp
      rw [hp]
      clear hp
      go_wp2
      go_loopw [8] (fun i wr => ∃ d : Nat, d ≤ k ∧ i = .int .i64 d ∧ Drew w5 wr) (fun i _ => k - (intOf i).toNat)
      case atStart => exact ⟨0, Nat.zero_le _, rfl, Drew.refl _⟩
      case round =>
        obtain ⟨d, hd, rfl, hdr⟩ := hrel
        by_cases hdl : d < k
        · obtain ⟨a1, a2, a3, a4, a5, a6, a7⟩ := HLAW.out d hdl
          rw [HP.out] at a5
          obtain ⟨b, off, A', c', rfl, hbB, hch, _, _, hsl⟩ := (hdr.ss HS5.out).at_ (k := d) (by omega)
          obtain ⟨bx, offx, rfl, _, hcx⟩ := (hdr.sl HX5.out).at_ (k := d) (by rw [HXL.out]; exact hdl)
          obtain ⟨be, offe, rfl, _, hce⟩ := (hdr.sl HE5.out).at_ (k := d) (by rw [HL.out]; exact hdl)
          obtain ⟨q, hq⟩ : ∃ q, xs.getD d 0 = q := ⟨_, rfl⟩
          obtain ⟨p0, hp0⟩ : ∃ p0, es.getD d 0 = p0 := ⟨_, rfl⟩
          rw [hq] at hcx a4 a5 a7
          rw [hp0] at hce a4
          obtain ⟨zs, hzs⟩ : ∃ zs, at2 zss d = zs := ⟨_, rfl⟩
          rw [hzs] at hch hsl a2 a3 a7
          have HSL := Lib.hid (hsl.keep (w' := w5) (fun _ hp => by obtain ⟨d, rfl⟩ := hdr; rfl))
          have HIN := Lib.hid a2
          have HA6 := Lib.hid a6
          have HA7 := Lib.hid a7
          have HCH := Lib.hid (show w5.cell? ⟨b, off + d, none⟩ = some (.slice A' zs.length c') by obtain ⟨d', rfl⟩ := hdr; exact hch)
          have HCX := Lib.hid (show w5.cell? ⟨bx, offx + d, none⟩ = some (.int .i64 q) by obtain ⟨d', rfl⟩ := hdr; exact hcx)
          have hdz : (d : Int) < (zss.length : Int) := by omega
          have hdk : (d : Int) < (k : Int) := by omega
          have hl1 : decide (q < p0) = false := by simp; omega
          have hl2 : decide (p < q) = false := by simp; omega
          clear hsl hq hp0 hzs a1 a2 a6 a7
          go_wp2
          go_quiet (fail)
          have hdr2 : Drew w5 (wr.drewN nq) := hdr.more _
          clear hch hcx hce
          have hch : (wr.drewN nq).cell? ⟨b, off + d, none⟩ = some (.slice A' zs.length c') := by obtain ⟨d', e'⟩ := hdr2; rw [e']; exact HCH.out
          go_wp2
          go_loopw [9] (fun i wq => ∃ j : Nat, j ≤ zs.length ∧ i = .int .i64 j ∧ Drew w5 wq) (fun i _ => zs.length - (intOf i).toNat)
          case atStart => exact ⟨0, Nat.zero_le _, rfl, hdr2⟩
          case round =>
            clear hdr hdr2 hch
            obtain ⟨j, hj, rfl, hdr⟩ := hrel
            have hch : wr.cell? ⟨b, off + d, none⟩ = some (.slice A' zs.length c') := by obtain ⟨d', rfl⟩ := hdr; exact HCH.out
            have hcx : wr.cell? ⟨bx, offx + d, none⟩ = some (.int .i64 q) := by obtain ⟨d', rfl⟩ := hdr; exact HCX.out
            by_cases hjl : j < zs.length
            · obtain ⟨b2, off2, rfl, _, hc2⟩ := (hdr.sl HSL.out).at_ hjl
              have hrange := HIN.out j hjl
              have hab := HA7.out j hjl
              obtain ⟨z, hz⟩ : ∃ z, zs.getD j 0 = z := ⟨_, rfl⟩
              rw [hz] at hc2 hrange hab
              clear hz
              obtain ⟨m, rfl⟩ := Int.eq_ofNat_of_zero_le hrange.1
              have hmk : m < d := by omega
              obtain ⟨b3, off3, h3, _, hc3⟩ := (hdr.sl HX5.out).at_ (k := m) (by rw [HXL.out]; omega)
              cases h3
              rw [show ((m : Int)).toNat = m from rfl] at hab
              obtain ⟨x, hx⟩ : ∃ x, xs.getD m 0 = x := ⟨_, rfl⟩
              rw [hx] at hc3 hab
              clear hx hrange
              have hmx : (m : Int) < (k : Int) := by omega
              have hjz : (j : Int) < (zs.length : Int) := by omega
              have hlt2 : decide (q ≤ x) = false := by simp; omega
              go_wp2
              go_quiet (fail)
              go_wp2
              go_roundw
              case rel => exact ⟨j + 1, by omega, by go_num, hdr.more _⟩
              case measure => simp [intOf]; omega
            · have e : j = zs.length := by omega
              subst e
              go_wp2
              go_roundw
              case rel => exact ⟨d + 1, by omega, by go_num, hdr⟩
              case measure => simp [intOf]; omega
        · have e : d = k := by omega
          subst e
          go_wp2_with fail
          refine (alive_any _).mono ?_
          rintro e w' ⟨rfl, rfl⟩
          go_wp2
          go_ret
          exact ⟨rfl, hb15.trans (hdr.below _)⟩
end Go.Proofs.Ytfkccdmjlopleaa
