/- The walks of the laws: errors are at most half of a step; centered numbers are near 0. -/
import Derived.Test.YtdmgaemplhcfmaaDrawP2
import Derived.Test.YtdmgaemplhcfmaaPlainB2
namespace Go.Proofs.Ytdmgaemplhcfmaa
open Go.RowKit

theorem law_FnStepError (w : World) (A : Option Addr) (n c : Nat) (h0 : Code8 w A n ∧ n ≤ c ∧ c ≤ maxLen) :
    Calls Try.prog 14 #[.slice A n c] w fun e w' => e = .returned (.bool true) ∧ Below w.heap.size w w' := by
  obtain ⟨hc, hnc, hcm⟩ := h0
  have hcm' := hcm
  unfold maxLen at hcm'
  by_cases hn : 1048576 < n
  · go_enter Try.func14, Try.ntmps14
    go_wp2
    go_ret
    exact ⟨rfl, Below.refl _ _⟩
  have hd1 : decide ((1048576 : Int) < (n : Int)) = false := by simp; omega
  go_enter Try.func14, Try.ntmps14
  go_wp2_with fail
  refine (drawStepError A n c w (by omega) hnc hcm hc).mono ?_
  rintro e w1 ⟨v, zs, s, rfl, s0, s1, hrow, hlen, hb⟩
  obtain ⟨A1, c1, rfl, hl1, hcm1, hs1⟩ := hrow.form
  have HS1 := Lib.hid hs1
  clear hrow hs1
  have hcs := errP_cases s zs
  have HONE := Lib.hid (fun h => err_one (zs := zs) h)
  obtain ⟨r, hre⟩ : ∃ r, errP s zs = r := ⟨_, rfl⟩
  rw [hre] at hcs
  have HRE := Lib.hid hre
  clear hre
  go_wp2_with fail
  refine (implErr_any A1 c1 zs w1 HS1.out (by omega) s).mono ?_
  rintro e w2 ⟨rfl, hb2⟩
  rw [HRE.out]
  have hs2 := (HS1.out.below hb2 (Nat.le_refl _)).more hb2.size
  go_wp2_with fail
  refine (specErr_any A1 c1 zs w2 hs2 (by omega) s).mono ?_
  rintro e w3 ⟨rfl, hb3⟩
  rw [HRE.out]
  have hs3 := (hs2.below hb3 (Nat.le_refl _)).more hb3.size
  have hb13 := hb.trans ((hb2.trans (hb3.mono hb2.size)).mono hb.size)
  clear hs2 hb2 hb3
  rcases hcs with ⟨hok, r0, r1⟩ | ⟨hok, hr⟩
  · have h1 := HONE.out hok.1
    have hE := implErr_any A1 c1 zs w3 hs3 (by omega) 1
    rw [h1] at hE
    have dr : decide (r < 0) = false := by simp; omega
    clear hs3 hok h1
    go_wp2_with fail
    refine hE.mono ?_
    rintro e w4 ⟨rfl, hb4⟩
    clear hE
    go_wp2
    go_ret
    exact ⟨rfl, hb13.trans (hb4.mono hb13.size)⟩
  · subst hr
    clear hs3
    go_wp2_with fail
    refine (alive_any _).mono ?_
    rintro e w' ⟨rfl, rfl⟩
    go_wp2
    go_ret
    exact ⟨rfl, hb13⟩

set_option maxHeartbeats 1600000 in
theorem law_FnCenterList (w : World) (A : Option Addr) (n c : Nat) (h0 : Code8 w A n ∧ n ≤ c ∧ c ≤ maxLen) :
    Calls Try.prog 6 #[.slice A n c] w fun e w' => e = .returned (.bool true) ∧ Below w.heap.size w w' := by
  obtain ⟨hc, hnc, hcm⟩ := h0
  have hcm' := hcm
  unfold maxLen at hcm'
  by_cases hn : 1048576 < n
  · go_enter Try.func6, Try.ntmps6
    go_wp2
    go_ret
    exact ⟨rfl, Below.refl _ _⟩
  have hd1 : decide ((1048576 : Int) < (n : Int)) = false := by simp; omega
  go_enter Try.func6, Try.ntmps6
  go_wp2_with fail
  refine (drawCenterList A n c w (by omega) hnc hcm hc).mono ?_
  rintro e w1 ⟨v, zs, rfl, hrow, hlen, hb⟩
  obtain ⟨A1, c1, rfl, hl1, hcm1, hs1⟩ := hrow.form
  have HS1 := Lib.hid hs1
  clear hrow hs1
  go_wp2_with fail
  refine (implCenter_any A1 c1 zs w1 HS1.out (by omega)).mono ?_
  rintro e w2 ⟨v2, rfl, hr2, hb2⟩
  have hs2 := (HS1.out.below hb2 (Nat.le_refl _)).more hb2.size
  have hXl : (OkL zs ∧ centerP zs = zs.map (fun z => z - meanV zs)) ∨ (¬ OkL zs ∧ centerP zs = []) := by
    unfold centerP
    by_cases h : OkL zs
    · exact .inl ⟨h, if_pos h⟩
    · exact .inr ⟨h, if_neg h⟩
  obtain ⟨xs, hxs⟩ : ∃ xs, centerP zs = xs := ⟨_, rfl⟩
  rw [hxs] at hr2 hXl
  have HXS := Lib.hid hxs
  clear hxs
  have hxl : xs.length ≤ 21 := by
    rcases hXl with ⟨_, h⟩ | ⟨_, h⟩
    · rw [h, List.length_map]; omega
    · rw [h]; simp
  obtain ⟨A2, c2, rfl, _, _, hsx⟩ := hr2.form
  have HS2 := Lib.hid hs2
  have HX2 := Lib.hid hsx
  clear hs2 hsx hr2
  go_wp2_with fail
  refine (specCenter_any A1 c1 zs w2 HS2.out (by omega)).mono ?_
  rintro e w3 ⟨v3, rfl, hr3, hb3⟩
  rw [HXS.out] at hr3
  obtain ⟨A3, c3, rfl, _, _, hs3⟩ := hr3.form
  have HX3 := Lib.hid ((HX2.out.below hb3 (Nat.le_refl _)).more hb3.size)
  have HS3 := Lib.hid ((HS2.out.below hb3 (Nat.le_refl _)).more hb3.size)
  have hb13 := hb.trans ((hb2.trans (hb3.mono hb2.size)).mono hb.size)
  clear hr3 hb2 hb3 HX2 HS2 hb
  go_wp2_with fail
  refine (sameInts_same _ _ A2 A3 c2 c3 xs.length xs.length xs w3 HX3.out hs3 rfl rfl (by omega)).mono ?_
  rintro e w4 ⟨rfl, hd⟩
  have HX4 := Lib.hid (hd.sl HX3.out)
  have HS4 := Lib.hid (hd.sl HS3.out)
  have hsz := hd.size
  have hb14 := hb13.trans (hd.below _)
  rw [← hsz] at HX4 HS4
  clear hd hs3 HX3 HS3 hb13 hsz
  rcases hXl with ⟨hok, hx⟩ | ⟨hok, hx⟩
  · have hl := hok.1
    have hxlen : xs.length = zs.length := by rw [hx, List.length_map]
    have hsum := centered_sum hok
    have hran := centered_range hok
    rw [← hx] at hsum hran
    have hmb := meanV_wide hok
    have hxb : ∀ j, j < xs.length → -210000 ≤ xs.getD j 0 ∧ xs.getD j 0 ≤ 210000 := fun j hj => by
      have := hok.getD (k := j) (by omega)
      rw [hx, map_getD _ zs j (by omega)]
      omega
    have hsb := fun k hk => sumTo_between xs _ _ k hk (fun j hj => hxb j (by omega))
    have HXB := Lib.hid hxb
    have HSB := Lib.hid hsb
    have HSU := Lib.hid (fun k hk => sumTo_succ xs k hk)
    have HRAN := Lib.hid hran
    have HSUM := Lib.hid hsum
    clear hx hxb hsb hran hsum hmb hok
    go_wp2
    go_loop [5, 6] (fun s i => ∃ k : Nat, k ≤ xs.length ∧ i = .int .i64 k ∧ s = .int .i64 (sumTo xs k)) (fun _ i => xs.length - (intOf i).toNat)
    case atStart => exact ⟨0, Nat.zero_le _, rfl, by rw [sumTo_zero]⟩
    case round =>
      obtain ⟨k, hk, rfl, rfl⟩ := hrel
      by_cases hlt : k < xs.length
      · obtain ⟨b', off', rfl, _, hc1⟩ := HX4.out.at_ hlt
        have hz2 := HXB.out k hlt
        have hs2 := HSB.out k (by omega)
        have HSN := Lib.hid (HSU.out k hlt)
        obtain ⟨z, hz⟩ : ∃ z, xs.getD k 0 = z := ⟨_, rfl⟩
        rw [hz] at hc1 hz2 HSN
        clear hz
        obtain ⟨s, hse⟩ : ∃ s, sumTo xs k = s := ⟨_, rfl⟩
        rw [hse] at HSN hs2 ⊢
        clear hse
        go_wp2
        go_round
        case rel => exact ⟨k + 1, by omega, by go_num, by rw [HSN.out]⟩
        case measure => simp [intOf]; omega
      · have e : k = xs.length := by omega
        subst e
        rw [sumTo_full]
        have hS := HSUM.out
        obtain ⟨s, hse⟩ : ∃ s, sumL xs = s := ⟨_, rfl⟩
        rw [hse] at hS ⊢
        clear hse
        have hM := implRange_any A2 c2 xs w4 HX4.out (by omega)
        have hZ := implRange_any A1 c1 zs w4 HS4.out (by omega)
        have hR := HRAN.out
        obtain ⟨r, hr⟩ : ∃ r, rangeP zs = r := ⟨_, rfl⟩
        obtain ⟨q, hq⟩ : ∃ q, rangeP xs = q := ⟨_, rfl⟩
        rw [hr] at hZ hR
        rw [hq] at hM hR
        clear hr hq
        rw [hxlen] at hM
        go_wp2_with fail
        refine hM.mono ?_
        rintro e w' ⟨rfl, rfl⟩
        rcases hR with rfl | rfl
        · clear hM hZ
          go_wp2
          go_ret
          exact ⟨rfl, hb14⟩
        · clear hM
          by_cases hq1 : q = -1
          · subst hq1
            clear hZ
            go_wp2
            go_ret
            exact ⟨rfl, hb14⟩
          · have dq : (q == -1) = false := by simpa using hq1
            go_wp2_with fail
            refine hZ.mono ?_
            rintro e w' ⟨rfl, rfl⟩
            clear hZ
            go_wp2
            go_ret
            exact ⟨rfl, hb14⟩
  · subst hx
    have hZ := implRange_any A1 c1 zs w4 HS4.out (by omega)
    have e : rangeP zs = -1 := if_neg hok
    rw [e] at hZ
    clear hok e HXS
    go_wp2_with fail
    refine hZ.mono ?_
    rintro e w' ⟨rfl, rfl⟩
    clear hZ
    go_wp2_with fail
    refine (alive_any _).mono ?_
    rintro e w' ⟨rfl, rfl⟩
    go_wp2
    go_ret
    exact ⟨rfl, hb14⟩
end Go.Proofs.Ytdmgaemplhcfmaa
