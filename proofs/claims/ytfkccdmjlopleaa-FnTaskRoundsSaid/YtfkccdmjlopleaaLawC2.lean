/- The walk of the law: rounds are as early as possible. -/
import Derived.Test.YtfkccdmjlopleaaDrawC3
import Derived.Test.YtfkccdmjlopleaaPlainC3
namespace Go.Proofs.Ytfkccdmjlopleaa
open Go.RowKit

theorem roundsP_cases (zss : List (List Int)) : (OkT zss ∧ roundsP zss = rdsTo zss zss.length) ∨ (¬ OkT zss ∧ roundsP zss = []) := by
  unfold roundsP
  by_cases h : OkT zss
  · exact .inl ⟨h, if_pos h⟩
  · exact .inr ⟨h, if_neg h⟩

set_option maxHeartbeats 3200000 in
theorem law_FnTaskRounds (w : World) (A : Option Addr) (n c : Nat) (h0 : Code8 w A n ∧ n ≤ c ∧ c ≤ maxLen) :
    Calls Try.prog 6 #[.slice A n c] w fun e w' => e = .returned (.bool true) ∧ Below w.heap.size w w' := by
  obtain ⟨hc, hnc, hcm⟩ := h0
  have hcm' := hcm
  unfold maxLen at hcm'
  by_cases hn : 1048576 < n
  · go_enter Try.func6, Try.ntmps6
    go_wp2
    go_ret
    exact ⟨rfl, Below.refl _ _⟩
  have hd1 : decide ((1048576 : Int) < (n : Int)) = false := by simp; omega
  go_enter Try.func6, Try.ntmps6
  go_wp2_with fail
  refine (drawTaskRounds A n c w (by omega) hnc hcm hc).mono ?_
  rintro e w1 ⟨v, zss, A1, c1, rfl, rfl, hl1, hcm1, hs1, hsm, hb⟩
  have HS1 := Lib.hid hs1
  have HSM := Lib.hid (show Small 2000000 zss from ⟨by have := hsm.1; omega, fun j hj => by have := hsm.2 j hj; omega⟩)
  have hz20 := hsm.1
  clear hs1 hsm
  go_wp2_with fail
  refine (implTR_any A1 c1 zss w1 HS1.out HSM.out).mono ?_
  rintro e w2 ⟨v2, rfl, hr2, hb2⟩
  have hXl := roundsP_cases zss
  have hxlen := roundsP_len zss (by omega)
  obtain ⟨xs, hxs⟩ : ∃ xs, roundsP zss = xs := ⟨_, rfl⟩
  rw [hxs] at hr2 hXl hxlen
  have HXS := Lib.hid hxs
  clear hxs
  obtain ⟨A2, c2, rfl, _, _, hsx⟩ := hr2.form
  have HS2 := Lib.hid ((HS1.out.below hb2 (Nat.le_refl _)).more hb2.size)
  have HX2 := Lib.hid hsx
  clear hsx hr2
  go_wp2_with fail
  refine (specTR_any A1 c1 zss w2 HS2.out HSM.out).mono ?_
  rintro e w3 ⟨v3, rfl, hr3, hb3⟩
  rw [HXS.out] at hr3
  obtain ⟨A3, c3, rfl, _, _, hs3⟩ := hr3.form
  have HX3 := Lib.hid ((HX2.out.below hb3 (Nat.le_refl _)).more hb3.size)
  have HS3 := Lib.hid ((HS2.out.below hb3 (Nat.le_refl _)).more hb3.size)
  have hb13 := hb.trans ((hb2.trans (hb3.mono hb2.size)).mono hb.size)
  clear hr3 hb2 hb3 HX2 HS2 hb
  go_wp2_with fail
  refine (sameInts_same _ _ A2 A3 c2 c3 xs.length xs.length xs w3 HX3.out hs3 rfl rfl (by omega)).mono ?_
  rintro e w4 ⟨rfl, hd⟩
  have HX4 := Lib.hid (hd.sl HX3.out)
  have HS4 := Lib.hid (hd.ss HS3.out)
  have hsz := hd.size
  have hb14 := hb13.trans (hd.below _)
  rw [← hsz] at HX4 HS4
  clear hd hs3 HX3 HS3 hb13 hsz
  rcases hXl with ⟨hok, hx⟩ | ⟨hok, hx⟩
  · have hxl : xs.length = zss.length := by rw [hx, rdsTo_length]
    have HOK := Lib.hid hok
    have HX := Lib.hid (fun k (hk : k < zss.length) => (show xs.getD k 0 = inTo (at2 zss k) (rdsTo zss k) (at2 zss k).length by rw [hx, rdsTo_same zss k _ hk]))
    have HXO := Lib.hid (fun k m (hk : k < zss.length) (hm : m < k) => (show xs.getD m 0 = (rdsTo zss k).getD m 0 by rw [hx, rdsTo_same zss m _ (by omega), rdsTo_same zss m k hm]))
    have HXB := Lib.hid (fun k (hk : k < zss.length) => (show 1 ≤ xs.getD k 0 ∧ xs.getD k 0 ≤ (k : Int) + 1 by rw [hx]; exact rdsTo_bound zss.length hok.2 k hk))
    clear hx hok HXS
    go_wp2_with fail
    refine (implTV_yes A1 c1 _ zss w4 HS4.out HSM.out HOK.out).mono ?_
    rintro e w' ⟨rfl, rfl⟩
    go_wp2
    go_loopw [5] (fun i wr => ∃ k : Nat, k ≤ zss.length ∧ i = .int .i64 k ∧ Drew w4 wr) (fun i _ => zss.length - (intOf i).toNat)
    case atStart => exact ⟨0, Nat.zero_le _, rfl, Drew.refl _⟩
    case round =>
      obtain ⟨k, hk, rfl, hd⟩ := hrel
      by_cases hlt : k < zss.length
      · obtain ⟨b, off, A', c', rfl, hbB, hch, _, _, hsl⟩ := (hd.ss HS4.out).at_ hlt
        obtain ⟨bx, offx, rfl, _, hcx⟩ := (hd.sl HX4.out).at_ (k := k) (by omega)
        have hW := HOK.out.2 k hlt
        have hxk := HX.out k hlt
        have HFROM := Lib.hid (inTo_from (at2 zss k) (rdsTo zss k) (at2 zss k).length (Nat.le_refl _))
        have HAB := Lib.hid (fun j hj => inTo_above (at2 zss k) (rdsTo zss k) j hj)
        rw [← hxk] at HFROM HAB
        have hxb := HXB.out k hlt
        obtain ⟨q, hq⟩ : ∃ q, xs.getD k 0 = q := ⟨_, rfl⟩
        rw [hq] at hcx HFROM HAB hxb
        have hw4 := hW.1
        have HIN := Lib.hid hW.2
        obtain ⟨zs, hzs⟩ : ∃ zs, at2 zss k = zs := ⟨_, rfl⟩
        rw [hzs] at hch hsl HFROM HAB hw4 HIN
        have HSL := Lib.hid (hsl.keep (w' := w4) (fun _ hp => by obtain ⟨d, rfl⟩ := hd; rfl))
        clear hsl hxk hq hW hzs
        have hkn : (k : Int) < (zss.length : Int) := by omega
        obtain ⟨t0, ht0⟩ : ∃ t : Bool, (q == 1) = t := ⟨_, rfl⟩
        have HT0 := Lib.hid (show t0 = true ↔ (q = 1 ∨ ∃ i, i < 0 ∧ (rdsTo zss k).getD (zs.getD i 0).toNat 0 = q - 1) by
          rw [← ht0]; simp)
        go_wp2
        clear ht0
        have hd0 := Lib.hid hd
        have HCH := Lib.hid (show w4.cell? ⟨b, off + k, none⟩ = some (.slice A' zs.length c') by obtain ⟨d, rfl⟩ := hd; exact hch)
        have HCX := Lib.hid (show w4.cell? ⟨bx, offx + k, none⟩ = some (.int .i64 q) by obtain ⟨d, rfl⟩ := hd; exact hcx)
        go_loopw [6, 7] (fun t i wq => ∃ (j : Nat) (tb : Bool), j ≤ zs.length ∧ i = .int .i64 j ∧ t = .bool tb ∧ (tb = true ↔ (q = 1 ∨ ∃ i, i < j ∧ (rdsTo zss k).getD (zs.getD i 0).toNat 0 = q - 1)) ∧ Drew w4 wq) (fun _ i _ => zs.length - (intOf i).toNat)
        case atStart => exact ⟨0, t0, Nat.zero_le _, rfl, rfl, HT0.out, hd⟩
        case round =>
          clear hd hch hcx
          obtain ⟨j, tb, hj, rfl, rfl, htb, hd⟩ := hrel
          have HTB := Lib.hid htb
          clear htb
          have hch : wr.cell? ⟨b, off + k, none⟩ = some (.slice A' zs.length c') := by obtain ⟨d, rfl⟩ := hd; exact HCH.out
          have hcx : wr.cell? ⟨bx, offx + k, none⟩ = some (.int .i64 q) := by obtain ⟨d, rfl⟩ := hd; exact HCX.out
          by_cases hjl : j < zs.length
          · obtain ⟨b2, off2, rfl, _, hc2⟩ := (hd.sl HSL.out).at_ hjl
            have hrange := HIN.out j hjl
            have hab := HAB.out j hjl
            obtain ⟨z, hz⟩ : ∃ z, zs.getD j 0 = z := ⟨_, rfl⟩
            rw [hz] at hc2 hrange hab
            have HZ := Lib.hid hz
            clear hz
            obtain ⟨m, rfl⟩ := Int.eq_ofNat_of_zero_le hrange.1
            have hmk : m < k := by omega
            obtain ⟨b3, off3, h3, _, hc3⟩ := (hd.sl HX4.out).at_ (k := m) (by omega)
            cases h3
            rw [HXO.out k m hlt hmk] at hc3
            rw [show ((m : Int)).toNat = m from rfl] at hab
            have hrb := HXB.out m (by omega)
            rw [HXO.out k m hlt hmk] at hrb
            have HRM := Lib.hid (show (rdsTo zss k).getD (zs.getD j 0).toNat 0 = (rdsTo zss k).getD m 0 by rw [HZ.out]; rfl)
            obtain ⟨x, hx⟩ : ∃ x, (rdsTo zss k).getD m 0 = x := ⟨_, rfl⟩
            rw [hx] at hc3 hab hrb HRM
            clear hx hrange
            have hmx : (m : Int) < (xs.length : Int) := by omega
            have hkx : (k : Int) < (xs.length : Int) := by omega
            have hjz : (j : Int) < (zs.length : Int) := by omega
            have hlt2 : decide (q ≤ x) = false := by simp; omega
            go_wp2
            go_quiet (fail)
            cases tb with
            | true =>
              go_wp2
              go_quiet (fail)
              go_wp2
              go_roundw
              case rel => exact ⟨j + 1, true, by omega, by go_num, rfl, ⟨fun _ => by
                rcases HTB.out.1 (by first | trivial | rfl) with h | ⟨i, hi, h⟩
                · exact .inl h
                · exact .inr ⟨i, by omega, h⟩, fun _ => rfl⟩, hd.more _⟩
              case measure => simp [intOf]; omega
            | false =>
              go_wp2
              go_quiet (fail)
              go_wp2
              go_roundw
              case rel => exact ⟨j + 1, (x == q - 1), by omega, by go_num, rfl, ⟨fun h => .inr ⟨j, by omega, by rw [HRM.out]; exact beq_iff_eq.1 h⟩, fun h => by
                rcases h with h | ⟨i, hi, h⟩
                · exact absurd (HTB.out.2 (.inl h)) (by simp)
                · by_cases e : i = j
                  · subst e; rw [HRM.out] at h; exact beq_iff_eq.2 h
                  · exact absurd (HTB.out.2 (.inr ⟨i, by omega, h⟩)) (by simp)⟩, hd.more _⟩
              case measure => simp [intOf]; omega
          · have e : j = zs.length := by omega
            subst e
            have ht : tb = true := HTB.out.2 HFROM.out
            subst ht
            go_wp2
            go_roundw
            case rel => exact ⟨k + 1, by omega, by go_num, hd⟩
            case measure => simp [intOf]; omega
      · have e : k = zss.length := by omega
        subst e
        go_wp2
        go_ret
        exact ⟨rfl, hb14.trans (hd.below _)⟩
  · subst hx
    have HOK := Lib.hid hok
    clear hok HXS
    go_wp2_with fail
    refine (implTV_no A1 c1 _ zss w4 HS4.out HSM.out HOK.out).mono ?_
    rintro e w' ⟨rfl, rfl⟩
    go_wp2_with fail
    refine (alive_any _).mono ?_
    rintro e w' ⟨rfl, rfl⟩
    go_wp2
    go_ret
    exact ⟨rfl, hb14⟩
end Go.Proofs.Ytfkccdmjlopleaa
