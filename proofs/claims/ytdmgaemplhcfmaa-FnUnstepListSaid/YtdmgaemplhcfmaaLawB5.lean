/- The walks of the laws: steps are near; steps stand for multiples. (Printed by gen_LawB5.py.) -/
import Derived.Test.YtdmgaemplhcfmaaDrawP2
import Derived.Test.YtdmgaemplhcfmaaPlainB2
namespace Go.Proofs.Ytdmgaemplhcfmaa
open Go.RowKit

theorem stepP_cases (s : Int) (zs : List Int) : (OkS zs s ∧ stepP s zs = zs.map (stepF s)) ∨ (¬ OkS zs s ∧ stepP s zs = []) := by
  unfold stepP
  by_cases h : OkS zs s
  · exact .inl ⟨h, if_pos h⟩
  · exact .inr ⟨h, if_neg h⟩
theorem unstepP_cases (s : Int) (zs : List Int) : (OkS zs s ∧ unstepP s zs = zs.map (unstepF s)) ∨ (¬ OkS zs s ∧ unstepP s zs = []) := by
  unfold unstepP
  by_cases h : OkS zs s
  · exact .inl ⟨h, if_pos h⟩
  · exact .inr ⟨h, if_neg h⟩

set_option maxHeartbeats 1600000 in
theorem law_FnStepList (w : World) (A : Option Addr) (n c : Nat) (h0 : Code8 w A n ∧ n ≤ c ∧ c ≤ maxLen) :
    Calls Try.prog 10 #[.slice A n c] w fun e w' => e = .returned (.bool true) ∧ Below w.heap.size w w' := by
  obtain ⟨hc, hnc, hcm⟩ := h0
  have hcm' := hcm
  unfold maxLen at hcm'
  by_cases hn : 1048576 < n
  · go_enter Try.func10, Try.ntmps10
    go_wp2
    go_ret
    exact ⟨rfl, Below.refl _ _⟩
  have hd1 : decide ((1048576 : Int) < (n : Int)) = false := by simp; omega
  go_enter Try.func10, Try.ntmps10
  go_wp2_with fail
  refine (drawStepList A n c w (by omega) hnc hcm hc).mono ?_
  rintro e w1 ⟨v, zs, s, rfl, s0, s1, hrow, hlen, hb⟩
  obtain ⟨A1, c1, rfl, hl1, hcm1, hs1⟩ := hrow.form
  have HS1 := Lib.hid hs1
  clear hrow hs1
  go_wp2_with fail
  refine (implStep_any A1 c1 zs w1 HS1.out (by omega) s).mono ?_
  rintro e w2 ⟨v2, rfl, hr2, hb2⟩
  have hs2 := (HS1.out.below hb2 (Nat.le_refl _)).more hb2.size
  have hXl := stepP_cases s zs
  have HAG := Lib.hid (fun h => steps_again (s := s) (zs := stepP s zs) h)
  obtain ⟨xs, hxs⟩ : ∃ xs, stepP s zs = xs := ⟨_, rfl⟩
  rw [hxs] at hr2 hXl HAG
  have HXS := Lib.hid hxs
  clear hxs
  have hxl : xs.length ≤ 21 := by
    rcases hXl with ⟨_, h⟩ | ⟨_, h⟩
    · rw [h, List.length_map]; omega
    · rw [h]; simp
  obtain ⟨A2, c2, rfl, _, _, hsx⟩ := hr2.form
  have HS2 := Lib.hid hs2
  have HX2 := Lib.hid hsx
  clear hs2 hsx hr2
  go_wp2_with fail
  refine (specStep_any A1 c1 zs w2 HS2.out (by omega) s).mono ?_
  rintro e w3 ⟨v3, rfl, hr3, hb3⟩
  rw [HXS.out] at hr3
  obtain ⟨A3, c3, rfl, _, _, hs3⟩ := hr3.form
  have HX3 := Lib.hid ((HX2.out.below hb3 (Nat.le_refl _)).more hb3.size)
  have HS3 := Lib.hid ((HS2.out.below hb3 (Nat.le_refl _)).more hb3.size)
  have hb13 := hb.trans ((hb2.trans (hb3.mono hb2.size)).mono hb.size)
  clear hr3 hb2 hb3 HX2 HS2 hb
  go_wp2_with fail
  refine (sameInts_same _ _ A2 A3 c2 c3 xs.length xs.length xs w3 HX3.out hs3 rfl rfl (by omega)).mono ?_
  rintro e w4 ⟨rfl, hd⟩
  have HX4 := Lib.hid (hd.sl HX3.out)
  have HS4 := Lib.hid (hd.sl HS3.out)
  have hsz := hd.size
  have hb14 := hb13.trans (hd.below _)
  rw [← hsz] at HX4 HS4
  clear hd hs3 HX3 HS3 hb13 hsz
  rcases hXl with ⟨hok, hx⟩ | ⟨hok, hx⟩
  · have hl := hok.1.1
    have hxlen : xs.length = zs.length := by rw [hx, List.length_map]
    have HXG := Lib.hid (fun k (hk : k < zs.length) => (show xs.getD k 0 = stepF s (zs.getD k 0) by rw [hx, map_getD _ zs k hk]))
    have HOK := Lib.hid hok
    have HA := Lib.hid (HAG.out (by rw [hx]; exact steps_ok hok))
    have HOKX := Lib.hid (show OkS xs s by rw [hx]; exact steps_ok hok)
    obtain ⟨_, s2, s3⟩ := hok
    clear hx HAG
    go_wp2
    go_loopw [6] (fun i wr => ∃ k : Nat, k ≤ xs.length ∧ i = .int .i64 k ∧ Drew w4 wr) (fun i _ => xs.length - (intOf i).toNat)
    case atStart => exact ⟨0, Nat.zero_le _, rfl, Drew.refl _⟩
    case round =>
      obtain ⟨k, hk, rfl, hd⟩ := hrel
      by_cases hlt : k < xs.length
      · obtain ⟨b', off', rfl, _, hc1⟩ := (hd.sl HX4.out).at_ hlt
        obtain ⟨b2, off2, rfl, _, hc2⟩ := (hd.sl HS4.out).at_ (k := k) (by omega)
        rw [HXG.out k (by omega)] at hc1
        have hz2 := HOK.out.1.getD (k := k) (by omega)
        obtain ⟨z, hz⟩ : ∃ z, zs.getD k 0 = z := ⟨_, rfl⟩
        rw [hz] at hc1 hc2 hz2
        clear hz
        have hnr := stepF_near (z := z) s2
        obtain ⟨y, hy⟩ : ∃ y, stepF s z = y := ⟨_, rfl⟩
        rw [hy] at hc1 hnr
        clear hy
        obtain ⟨q, hq⟩ : ∃ q, y * s = q := ⟨_, rfl⟩
        rw [hq] at hnr
        have hkz : (k : Int) < zs.length := by omega
        have t1 : decide (s < 2 * (q - z)) = false := by simp; omega
        have t2 : decide (s < -2 * (q - z)) = false := by simp; omega

        go_wp2
        go_quiet (fail)
        go_wp2

        go_roundw
        case rel => exact ⟨k + 1, by omega, by go_num, hd.more _⟩
        case measure => simp [intOf]; omega
      · have e : k = xs.length := by omega
        subst e
        have hb15 := hb14.trans (hd.below _)
        have HX5 := Lib.hid (hd.sl HX4.out)
        have e5 := hd.size
        rw [← e5] at HX5
        clear hd e5
        have hU := implUnstep_any A2 c2 xs wr HX5.out (by omega) s
        rw [hxlen] at hU
        go_wp2_with fail
        refine hU.mono ?_
        rintro e w6 ⟨v6, rfl, hr6, hb6⟩
        clear hU
        have hul : (unstepP s xs).length = zs.length := by
          rcases unstepP_cases s xs with ⟨_, h⟩ | ⟨h, _⟩
          · rw [h, List.length_map]; omega
          · exact absurd HOKX.out h
        have hAG := HA.out
        obtain ⟨us, hus⟩ : ∃ us, unstepP s xs = us := ⟨_, rfl⟩
        rw [hus] at hr6 hul hAG
        clear hus
        obtain ⟨A6, c6, rfl, _, _, hs6⟩ := hr6.form
        have HX6 := Lib.hid ((HX5.out.below hb6 (Nat.le_refl _)).more hb6.size)
        have hb16 := hb15.trans (hb6.mono hb15.size)
        have hV := implStep_any A6 c6 us w6 hs6 (by omega) s
        rw [hul] at hV ⊢
        clear hr6 hs6 hb6 hb15
        go_wp2_with fail
        refine hV.mono ?_
        rintro e w7 ⟨v7, rfl, hr7, hb7⟩
        clear hV
        have HX7 := Lib.hid ((HX6.out.below hb7 (Nat.le_refl _)).more hb7.size)
        have hb17 := hb16.trans (hb7.mono hb16.size)
        rcases hAG with h | h
        · rw [h] at hr7
          obtain ⟨A7, c7, rfl, _, _, hs7⟩ := hr7.form
          clear hr7 hs7 h hb7 hb16
          go_wp2
          go_ret
          exact ⟨rfl, hb17⟩
        · rw [h] at hr7
          obtain ⟨A7, c7, rfl, _, _, hs7⟩ := hr7.form
          have hZ := sameInts_same _ _ A7 A2 c7 c2 xs.length xs.length xs w7 hs7 HX7.out rfl rfl (by omega)
          rw [hxlen] at hZ ⊢
          have d0 : ((zs.length : Int) == 0) = false := beq_eq_false_iff_ne.2 (by omega)
          clear hr7 hs7 h hb7 hb16
          go_wp2_with fail
          refine hZ.mono ?_
          rintro e w8 ⟨rfl, hd⟩
          clear hZ
          go_wp2
          go_ret
          exact ⟨rfl, hb17.trans (hd.below _)⟩
  · subst hx
    clear hok HXS HAG
    go_wp2_with fail
    refine (alive_any _).mono ?_
    rintro e w' ⟨rfl, rfl⟩
    go_wp2
    go_ret
    exact ⟨rfl, hb14⟩
set_option maxHeartbeats 1600000 in
theorem law_FnUnstepList (w : World) (A : Option Addr) (n c : Nat) (h0 : Code8 w A n ∧ n ≤ c ∧ c ≤ maxLen) :
    Calls Try.prog 12 #[.slice A n c] w fun e w' => e = .returned (.bool true) ∧ Below w.heap.size w w' := by
  obtain ⟨hc, hnc, hcm⟩ := h0
  have hcm' := hcm
  unfold maxLen at hcm'
  by_cases hn : 1048576 < n
  · go_enter Try.func12, Try.ntmps12
    go_wp2
    go_ret
    exact ⟨rfl, Below.refl _ _⟩
  have hd1 : decide ((1048576 : Int) < (n : Int)) = false := by simp; omega
  go_enter Try.func12, Try.ntmps12
  go_wp2_with fail
  refine (drawUnstepList A n c w (by omega) hnc hcm hc).mono ?_
  rintro e w1 ⟨v, zs, s, rfl, s0, s1, hrow, hlen, hb⟩
  obtain ⟨A1, c1, rfl, hl1, hcm1, hs1⟩ := hrow.form
  have HS1 := Lib.hid hs1
  clear hrow hs1
  go_wp2_with fail
  refine (implUnstep_any A1 c1 zs w1 HS1.out (by omega) s).mono ?_
  rintro e w2 ⟨v2, rfl, hr2, hb2⟩
  have hs2 := (HS1.out.below hb2 (Nat.le_refl _)).more hb2.size
  have hXl := unstepP_cases s zs
  have HAG := Lib.hid (fun h => unstep_one (zs := zs) h)
  obtain ⟨xs, hxs⟩ : ∃ xs, unstepP s zs = xs := ⟨_, rfl⟩
  rw [hxs] at hr2 hXl
  have HXS := Lib.hid hxs
  clear hxs
  have hxl : xs.length ≤ 21 := by
    rcases hXl with ⟨_, h⟩ | ⟨_, h⟩
    · rw [h, List.length_map]; omega
    · rw [h]; simp
  obtain ⟨A2, c2, rfl, _, _, hsx⟩ := hr2.form
  have HS2 := Lib.hid hs2
  have HX2 := Lib.hid hsx
  clear hs2 hsx hr2
  go_wp2_with fail
  refine (specUnstep_any A1 c1 zs w2 HS2.out (by omega) s).mono ?_
  rintro e w3 ⟨v3, rfl, hr3, hb3⟩
  rw [HXS.out] at hr3
  obtain ⟨A3, c3, rfl, _, _, hs3⟩ := hr3.form
  have HX3 := Lib.hid ((HX2.out.below hb3 (Nat.le_refl _)).more hb3.size)
  have HS3 := Lib.hid ((HS2.out.below hb3 (Nat.le_refl _)).more hb3.size)
  have hb13 := hb.trans ((hb2.trans (hb3.mono hb2.size)).mono hb.size)
  clear hr3 hb2 hb3 HX2 HS2 hb
  go_wp2_with fail
  refine (sameInts_same _ _ A2 A3 c2 c3 xs.length xs.length xs w3 HX3.out hs3 rfl rfl (by omega)).mono ?_
  rintro e w4 ⟨rfl, hd⟩
  have HX4 := Lib.hid (hd.sl HX3.out)
  have HS4 := Lib.hid (hd.sl HS3.out)
  have hsz := hd.size
  have hb14 := hb13.trans (hd.below _)
  rw [← hsz] at HX4 HS4
  clear hd hs3 HX3 HS3 hb13 hsz
  rcases hXl with ⟨hok, hx⟩ | ⟨hok, hx⟩
  · have hl := hok.1.1
    have hxlen : xs.length = zs.length := by rw [hx, List.length_map]
    have HXG := Lib.hid (fun k (hk : k < zs.length) => (show xs.getD k 0 = unstepF s (zs.getD k 0) by rw [hx, map_getD _ zs k hk]))
    have HOK := Lib.hid hok
    have HA := Lib.hid (HAG.out hok.1)
    obtain ⟨_, s2, s3⟩ := hok
    clear hx HAG
    go_wp2
    go_loop [6] (fun i => ∃ k : Nat, k ≤ xs.length ∧ i = .int .i64 k) (fun i => xs.length - (intOf i).toNat)
    case atStart => exact ⟨0, Nat.zero_le _, rfl⟩
    case round =>
      obtain ⟨k, hk, rfl⟩ := hrel
      by_cases hlt : k < xs.length
      · obtain ⟨b', off', rfl, _, hc1⟩ := HX4.out.at_ hlt
        rw [HXG.out k (by omega)] at hc1
        have hz2 := HOK.out.1.getD (k := k) (by omega)
        obtain ⟨z, hz⟩ : ∃ z, zs.getD k 0 = z := ⟨_, rfl⟩
        rw [hz] at hc1 hz2
        clear hz
        have hm := mul_bound hz2.1 hz2.2 s2 s3
        have hr : (unstepF s z).tmod s = 0 := by unfold unstepF; exact Int.mul_tmod_left z s
        have hq : -1000000 ≤ unstepF s z ∧ unstepF s z ≤ 1000000 := hm
        obtain ⟨q, hqe⟩ : ∃ q, unstepF s z = q := ⟨_, rfl⟩
        rw [hqe] at hc1 hr hq
        clear hqe hm
        go_wp2
        go_round
        case rel => exact ⟨k + 1, by omega, by go_num⟩
        case measure => simp [intOf]; omega
      · have e : k = xs.length := by omega
        subst e
        have hU := implUnstep_any A1 c1 zs w4 HS4.out (by omega) 1
        rw [HA.out] at hU
        go_wp2_with fail
        refine hU.mono ?_
        rintro e w6 ⟨v6, rfl, hr6, hb6⟩
        clear hU
        obtain ⟨A6, c6, rfl, _, _, hs6⟩ := hr6.form
        have HS6 := Lib.hid ((HS4.out.below hb6 (Nat.le_refl _)).more hb6.size)
        have hb16 := hb14.trans (hb6.mono hb14.size)
        go_wp2_with fail
        refine (sameInts_same _ _ A6 A1 c6 c1 zs.length zs.length zs w6 hs6 HS6.out rfl rfl (by omega)).mono ?_
        rintro e w8 ⟨rfl, hd⟩
        go_wp2
        go_ret
        exact ⟨rfl, hb16.trans (hd.below _)⟩
  · subst hx
    clear hok HXS HAG
    go_wp2_with fail
    refine (alive_any _).mono ?_
    rintro e w' ⟨rfl, rfl⟩
    go_wp2
    go_ret
    exact ⟨rfl, hb14⟩
end Go.Proofs.Ytdmgaemplhcfmaa
