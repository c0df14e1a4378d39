/- The walk of the law: some tasks are tight. -/
import Derived.Test.YtfkccdmjlopleaaDrawC3
import Derived.Test.YtfkccdmjlopleaaPlainC5
import Derived.Test.YtfkccdmjlopleaaFnsC6
namespace Go.Proofs.Ytfkccdmjlopleaa
open Go.RowKit

/-- What the law's walk wants to know of the rounds es and of the tight tasks xs. -/
theorem tight_all {zss : List (List Int)} {es xs : List Int} (he : roundsP zss = es) (hx : tightP zss = xs) (L : Nat) (hL : es.length = L) :
    (L = 0 → xs = []) ∧ (0 < L → maxTo es L ≤ (xs.length : Int) ∧ ∃ i, i < xs.length ∧ es.getD (xs.getD i 0).toNat 0 = maxTo es L) ∧ ∀ i, i < xs.length → 0 ≤ xs.getD i 0 ∧ xs.getD i 0 < (L : Int) := by
  subst hx
  subst hL
  refine ⟨fun h => by rw [tightP, he, h]; rfl, fun h => ?_, fun i hi => ?_⟩
  · obtain ⟨h1, h2⟩ := roundsP_ok zss (by rw [he]; exact h)
    rw [he] at h2
    have h3 : lateP zss = lateSt zss zss.length (lastOf zss) zss.length := by unfold lateP; exact if_pos h1
    have h4 : es.length = zss.length := by rw [h2, rdsTo_length]
    have h5 := tight_law h1 (by omega)
    rw [tightP, he, h3, h4, h2]
    exact h5
  · rw [tightP, he] at *
    refine tightTo_rng es (lateP zss) es.length _ ?_
    rw [List.getD_eq_getElem?_getD, List.getElem?_eq_getElem hi]
    exact List.getElem_mem hi
set_option maxHeartbeats 3200000 in
theorem law_FnTightTasks (w : World) (A : Option Addr) (n c : Nat) (h0 : Code8 w A n ∧ n ≤ c ∧ c ≤ maxLen) :
    Calls Try.prog 10 #[.slice A n c] w fun e w' => e = .returned (.bool true) ∧ Below w.heap.size w w' := by
  obtain ⟨hc, hnc, hcm⟩ := h0
  have hcm' := hcm
  unfold maxLen at hcm'
  by_cases hn : 1048576 < n
  · go_enter Try.func10, Try.ntmps10
    go_wp2
    go_ret
    exact ⟨rfl, Below.refl _ _⟩
  have hd1 : decide ((1048576 : Int) < (n : Int)) = false := by simp; omega
  go_enter Try.func10, Try.ntmps10
  go_wp2_with fail
  refine (drawTightTasks A n c w (by omega) hnc hcm hc).mono ?_
  rintro e w1 ⟨v, zss, A1, c1, rfl, rfl, hl1, hcm1, hs1, hsm, hb⟩
  have HS1 := Lib.hid hs1
  have HSM := Lib.hid (show Small 2000000 zss from ⟨by have := hsm.1; omega, fun j hj => by have := hsm.2 j hj; omega⟩)
  have hz20 := hsm.1
  clear hs1 hsm
  go_wp2_with fail
  refine (implTT_any A1 c1 zss w1 HS1.out HSM.out).mono ?_
  rintro e w2 ⟨v2, rfl, hr2, hb2⟩
  have hxlen := tightP_len zss (by omega)
  have h12 := roundsP_12 zss
  obtain ⟨xs, hxs⟩ : ∃ xs, tightP zss = xs := ⟨_, rfl⟩
  obtain ⟨es, hes⟩ : ∃ es, roundsP zss = es := ⟨_, rfl⟩
  obtain ⟨L, hL⟩ : ∃ L, es.length = L := ⟨_, rfl⟩
  obtain ⟨M, hM⟩ : ∃ M, xs.length = M := ⟨_, rfl⟩
  rw [hxs] at hr2 hxlen
  rw [hM] at hxlen
  rw [hes, hL] at h12
  have hall := tight_all hes hxs L hL
  rw [hM] at hall
  have HALL := Lib.hid hall
  have HSU := Lib.hid (fun k hk => maxTo_succ es k hk)
  have HZ := Lib.hid (maxTo_zero es)
  have HXS := Lib.hid hxs
  have HES := Lib.hid hes
  have HL := Lib.hid hL
  have HM := Lib.hid hM
  clear hxs hes hL hM hall
  obtain ⟨A2, c2, rfl, _, _, hsx⟩ := hr2.form
  rw [HM.out]
  have HS2 := Lib.hid ((HS1.out.below hb2 (Nat.le_refl _)).more hb2.size)
  have HX2 := Lib.hid hsx
  clear hsx hr2
  go_wp2_with fail
  refine (specTT_any A1 c1 zss w2 HS2.out HSM.out).mono ?_
  rintro e w3 ⟨v3, rfl, hr3, hb3⟩
  rw [HXS.out] at hr3
  obtain ⟨A3, c3, rfl, _, _, hs3⟩ := hr3.form
  rw [HM.out]
  have HX3 := Lib.hid ((HX2.out.below hb3 (Nat.le_refl _)).more hb3.size)
  have HS3 := Lib.hid ((HS2.out.below hb3 (Nat.le_refl _)).more hb3.size)
  have hb13 := hb.trans ((hb2.trans (hb3.mono hb2.size)).mono hb.size)
  clear hr3 hb2 hb3 HX2 HS2 hb
  go_wp2_with fail
  refine (sameInts_same _ _ A2 A3 c2 c3 M M xs w3 HX3.out hs3 HM.out.symm HM.out.symm (by rw [HM.out]; omega)).mono ?_
  rintro e w4 ⟨rfl, hd⟩
  have HX4 := Lib.hid (hd.sl HX3.out)
  have HS4 := Lib.hid (hd.ss HS3.out)
  have hsz := hd.size
  have hb14 := hb13.trans (hd.below _)
  rw [← hsz] at HX4 HS4
  clear hd hs3 HX3 HS3 hb13 hsz
  go_wp2_with fail
  refine (implTR_any A1 c1 zss w4 HS4.out HSM.out).mono ?_
  rintro e w5 ⟨v5, rfl, hr5, hb5⟩
  rw [HES.out] at hr5
  obtain ⟨A5, c5, rfl, _, _, hs5⟩ := hr5.form
  rw [HL.out]
  have HE5 := Lib.hid hs5
  have HX5 := Lib.hid ((HX4.out.below hb5 (Nat.le_refl _)).more hb5.size)
  have hb15 := hb14.trans (hb5.mono (by have := hb14.size; omega))
  clear hr5 hs5 hb5 HX4 HS4 hb14
  by_cases hL0 : L = 0
  · have hM0 : M = 0 := by have := HALL.out.1 hL0; rw [← HM.out, this]; rfl
    subst hM0
    subst hL0
    go_wp2_with fail
    refine (alive_any _).mono ?_
    rintro e w' ⟨rfl, rfl⟩
    go_wp2
    go_ret
    exact ⟨rfl, hb15⟩
  have hLi : ((L : Int) == 0) = false := by simp; omega
  have hLn : (L == 0) = false := by simp; omega
  have hpos : 0 < L := by omega
  go_wp2
  go_loop [6, 7] (fun r i => ∃ k : Nat, k ≤ L ∧ i = .int .i64 k ∧ r = .int .i64 (maxTo es k)) (fun _ i => L - (intOf i).toNat)
  case atStart => exact ⟨0, Nat.zero_le _, rfl, by rw [HZ.out]⟩
  case round =>
    obtain ⟨k, hk, rfl, rfl⟩ := hrel
    by_cases hlt : k < L
    · obtain ⟨b2, off2, rfl, hb2, hc2⟩ := HE5.out.at_ (k := k) (by rw [HL.out]; exact hlt)
      have HNN := Lib.hid (HSU.out k (by rw [HL.out]; exact hlt))
      obtain ⟨z, hz⟩ : ∃ z, es.getD k 0 = z := ⟨_, rfl⟩
      rw [hz] at hc2 HNN
      obtain ⟨p, hp⟩ : ∃ p, maxTo es k = p := ⟨_, rfl⟩
      rw [hp] at HNN ⊢
      clear hz hp
      go_wp2
      go_round
      case rel => exact ⟨k + 1, by omega, by go_num, by rw [HNN.out]; congr 1; split <;> omega⟩
      case measure => simp [intOf]; omega
    · have e : k = L := by omega
      subst e
      obtain ⟨hML, hIN⟩ := HALL.out.2.1 hpos
      obtain ⟨p, hp⟩ : ∃ p, maxTo es k = p := ⟨_, rfl⟩
      rw [hp] at hML hIN ⊢
      have HIN := Lib.hid hIN
      have HML := Lib.hid hML
      have hML2 : decide (p ≤ (M : Int)) = true := by simp; omega
      clear hp hIN
      go_wp2
      go_loop [8, 9] (fun t i => ∃ (d : Nat) (tb : Bool), d ≤ M ∧ i = .int .i64 d ∧ t = .bool tb ∧ (tb = true ↔ ∃ i, i < d ∧ es.getD (xs.getD i 0).toNat 0 = p)) (fun _ i => M - (intOf i).toNat)
      case atStart => exact ⟨0, false, Nat.zero_le _, rfl, rfl, by simp⟩
      case round =>
        obtain ⟨d, tb, hd, rfl, rfl, htb⟩ := hrel
        have HTB := Lib.hid htb
        clear htb
        by_cases hdl : d < M
        · obtain ⟨bx, offx, rfl, _, hcx⟩ := HX5.out.at_ (k := d) (by rw [HM.out]; exact hdl)
          have hrng := HALL.out.2.2 d hdl
          obtain ⟨z, hz⟩ : ∃ z, xs.getD d 0 = z := ⟨_, rfl⟩
          rw [hz] at hcx hrng
          have HZD := Lib.hid hz
          clear hz
          obtain ⟨m, rfl⟩ := Int.eq_ofNat_of_zero_le hrng.1
          have hmk : m < k := by omega
          obtain ⟨be, offe, rfl, _, hce⟩ := HE5.out.at_ (k := m) (by rw [HL.out]; exact hmk)
          have HED := Lib.hid (show es.getD (xs.getD d 0).toNat 0 = es.getD m 0 by rw [HZD.out]; rfl)
          obtain ⟨y, hy⟩ : ∃ y, es.getD m 0 = y := ⟨_, rfl⟩
          rw [hy] at hce HED
          clear hy hrng
          have hmi : (m : Int) < (k : Int) := by omega
          have hdm : (d : Int) < (M : Int) := by omega
          have hm0 : decide ((0 : Int) ≤ (m : Int)) = true := by simp
          have hm1 : decide ((m : Int) < (k : Int)) = true := by simp; omega
          cases tb with
          | true =>
            go_wp2
            go_round
            case rel => exact ⟨d + 1, true, by omega, by go_num, rfl, ⟨fun _ => by
              obtain ⟨i, hi, h⟩ := HTB.out.1 (by first | trivial | rfl)
              exact ⟨i, by omega, h⟩, fun _ => rfl⟩⟩
            case measure => simp [intOf]; omega
          | false =>
            go_wp2
            go_round
            case rel => exact ⟨d + 1, (y == p), by omega, by go_num, rfl, ⟨fun h => ⟨d, by omega, by rw [HED.out]; exact beq_iff_eq.1 h⟩, fun ⟨i, hi, h⟩ => by
              by_cases e : i = d
              · subst e; rw [HED.out] at h; exact beq_iff_eq.2 h
              · exact absurd (HTB.out.2 ⟨i, by omega, h⟩) (by simp)⟩⟩
            case measure => simp [intOf]; omega
        · have e : d = M := by omega
          subst e
          have ht : tb = true := HTB.out.2 HIN.out
          subst ht
          go_wp2
          go_ret
          exact ⟨rfl, hb15⟩
end Go.Proofs.Ytfkccdmjlopleaa
