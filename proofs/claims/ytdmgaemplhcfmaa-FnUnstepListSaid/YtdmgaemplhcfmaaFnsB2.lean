/- Contracts: means and ranges of lists. -/
import Derived.Test.YtdmgaemplhcfmaaFnsB1
namespace Go.Proofs.Ytdmgaemplhcfmaa
open Go.RowKit

section
variable (A : Option Addr) (c B : Nat) (zs : List Int) (w : World) (hs : Sl w B A zs) (hn : zs.length ≤ 4611686018427387904)
include hs hn
theorem implMean_no (h : ¬ OkL zs) : Calls Try.prog 17 #[.slice A zs.length c] w fun e w' => e = .returned (.tuple #[.int .i64 0, .bool false]) ∧ w = w' := by
  have HS := Lib.hid hs
  clear hs
  go_enter Try.func17, Try.ntmps17
  go_wp2_with fail
  refine (plainList_no A c B _ zs w HS.out rfl hn h).mono ?_
  rintro e w' ⟨rfl, rfl⟩
  go_wp2
  go_ret2
  exact ⟨rfl, rfl⟩
theorem specMean_no (h : ¬ OkL zs) : Calls Try.prog 15 #[.slice A zs.length c] w fun e w' => e = .returned (.tuple #[.int .i64 0, .bool false]) ∧ w = w' := by
  have HS := Lib.hid hs
  clear hs
  go_enter Try.func15, Try.ntmps15
  go_wp2_with fail
  refine (l33Valid_no A c B _ zs w HS.out rfl hn h).mono ?_
  rintro e w' ⟨rfl, rfl⟩
  go_wp2
  go_ret2
  exact ⟨rfl, rfl⟩
theorem implMean_yes (h : OkL zs) : Calls Try.prog 17 #[.slice A zs.length c] w fun e w' => e = .returned (.tuple #[.int .i64 (meanV zs), .bool true]) ∧ w = w' := by
  have HS := Lib.hid hs
  have HV := Lib.hid h
  have hl := h.1
  obtain ⟨l0, l1⟩ := hl
  clear hs h
  go_enter Try.func17, Try.ntmps17
  go_wp2_with fail
  refine (plainList_yes A c B _ zs w HS.out rfl hn HV.out).mono ?_
  rintro e w' ⟨rfl, rfl⟩
  go_wp2
  go_loop [4, 12] (fun s i => ∃ k : Nat, k ≤ zs.length ∧ i = .int .i64 k ∧ s = .int .i64 (sumTo zs k)) (fun _ i => zs.length - (intOf i).toNat)
  case atStart => exact ⟨0, Nat.zero_le _, rfl, by rw [sumTo_zero]⟩
  case round =>
    obtain ⟨k, hk, rfl, rfl⟩ := hrel
    have hb := sumTo_bound zs k hk (HV.out.okTo k hk)
    by_cases hlt : k < zs.length
    · obtain ⟨b, off, rfl, _, hc⟩ := HS.out.at_ hlt
      have hz2 := HV.out.getD hlt
      have HSU := Lib.hid (sumTo_succ zs k hlt)
      obtain ⟨z, hz⟩ : ∃ z, zs.getD k 0 = z := ⟨_, rfl⟩
      rw [hz] at hc HSU hz2
      clear hz
      obtain ⟨s, hse⟩ : ∃ s, sumTo zs k = s := ⟨_, rfl⟩
      rw [hse] at HSU hb ⊢
      clear hse
      go_wp2
      go_round
      case rel => exact ⟨k + 1, by omega, by go_num, by rw [HSU.out]; try (congr 1; split <;> omega)⟩
      case measure => simp [intOf]; omega
    · have e : k = zs.length := by omega
      subst e
      rw [sumTo_full] at hb ⊢
      go_wp2_with fail
      refine (floorQ_any _ _ _ (by omega) (by omega) (by omega) (by omega)).mono ?_
      rintro e w' ⟨rfl, rfl⟩
      go_wp2
      go_ret2
      exact ⟨rfl, rfl⟩
theorem specMean_yes (h : OkL zs) : Calls Try.prog 15 #[.slice A zs.length c] w fun e w' => e = .returned (.tuple #[.int .i64 (meanV zs), .bool true]) ∧ w = w' := by
  have HS := Lib.hid hs
  have HV := Lib.hid h
  have hl := h.1
  obtain ⟨l0, l1⟩ := hl
  clear hs h
  go_enter Try.func15, Try.ntmps15
  go_wp2_with fail
  refine (l33Valid_yes A c B _ zs w HS.out rfl hn HV.out).mono ?_
  rintro e w' ⟨rfl, rfl⟩
  go_wp2
  go_loop [4, 5] (fun s i => ∃ k : Nat, k ≤ zs.length ∧ i = .int .i64 k ∧ s = .int .i64 (sumTo zs k)) (fun _ i => zs.length - (intOf i).toNat)
  case atStart => exact ⟨0, Nat.zero_le _, rfl, by rw [sumTo_zero]⟩
  case round =>
    obtain ⟨k, hk, rfl, rfl⟩ := hrel
    have hb := sumTo_bound zs k hk (HV.out.okTo k hk)
    by_cases hlt : k < zs.length
    · obtain ⟨b, off, rfl, _, hc⟩ := HS.out.at_ hlt
      have hz2 := HV.out.getD hlt
      have HSU := Lib.hid (sumTo_succ zs k hlt)
      obtain ⟨z, hz⟩ : ∃ z, zs.getD k 0 = z := ⟨_, rfl⟩
      rw [hz] at hc HSU hz2
      clear hz
      obtain ⟨s, hse⟩ : ∃ s, sumTo zs k = s := ⟨_, rfl⟩
      rw [hse] at HSU hb ⊢
      clear hse
      go_wp2
      go_round
      case rel => exact ⟨k + 1, by omega, by go_num, by rw [HSU.out]; try (congr 1; split <;> omega)⟩
      case measure => simp [intOf]; omega
    · have e : k = zs.length := by omega
      subst e
      rw [sumTo_full] at hb ⊢
      have hme : meanV zs = sumL zs / (zs.length : Int) := rfl
      obtain ⟨s, hse⟩ : ∃ s, sumL zs = s := ⟨_, rfl⟩
      rw [hse] at hb hme ⊢
      clear hse
      obtain ⟨b, hbe⟩ : ∃ b, (zs.length : Int) = b := ⟨_, rfl⟩
      have hq := tdiv_bound (n := s) (b := b) (m := 1000000) (by omega) (by omega) (by omega)
      have hf := floor_mul (n := s) (b := b) (by omega)
      have hm : -2000000 ≤ s.tdiv b * b ∧ s.tdiv b * b ≤ 2000000 := by
        have h6 : s.tmod b < b := Int.tmod_lt_of_pos s (by omega)
        have h5 : -b < s.tmod b := Int.lt_tmod_of_pos s (by omega)
        have h7 := Int.tmod_add_mul_tdiv s b
        rw [Int.mul_comm] at h7
        omega
      rw [← hbe] at hq hf hm
      obtain ⟨q, hqe⟩ : ∃ q, s.tdiv (zs.length : Int) = q := ⟨_, rfl⟩
      rw [hqe] at hq hf hm
      obtain ⟨m, hme2⟩ : ∃ m, q * (zs.length : Int) = m := ⟨_, rfl⟩
      rw [hme2] at hf hm
      have HF := Lib.hid hf
      have HM := Lib.hid hme
      clear hf hme hbe
      by_cases hr : s < m
      · go_wp2
        go_ret2
        exact ⟨by rw [HM.out, ← HF.out, if_pos hr]; rfl, rfl⟩
      · go_wp2
        go_ret2
        exact ⟨by rw [HM.out, ← HF.out, if_neg (by omega)]; rfl, rfl⟩
end

theorem take_foldl_succ (f : Int → Int → Int) (zs : List Int) (k : Nat) (hk : k < zs.length) (a : Int) : (zs.take (k + 1)).foldl f a = f ((zs.take k).foldl f a) (zs.getD k 0) := by
  have e3 : zs.take (k + 1) = zs.take k ++ [zs.getD k 0] := by rw [List.take_add_one, List.getElem?_eq_getElem hk]; simp [hk]
  rw [e3, List.foldl_append]
  rfl
/-- The least and the greatest of the first k numbers, from the first on. -/
def lowTo (zs : List Int) (k : Nat) : Int := (zs.take k).foldl min (zs.getD 0 0)
def highTo (zs : List Int) (k : Nat) : Int := (zs.take k).foldl max (zs.getD 0 0)
theorem lowTo_zero (zs : List Int) : lowTo zs 0 = zs.getD 0 0 := by simp [lowTo]
theorem highTo_zero (zs : List Int) : highTo zs 0 = zs.getD 0 0 := by simp [highTo]
theorem lowTo_succ (zs : List Int) (k : Nat) (hk : k < zs.length) : lowTo zs (k + 1) = min (lowTo zs k) (zs.getD k 0) := take_foldl_succ _ zs k hk _
theorem highTo_succ (zs : List Int) (k : Nat) (hk : k < zs.length) : highTo zs (k + 1) = max (highTo zs k) (zs.getD k 0) := take_foldl_succ _ zs k hk _
theorem lowTo_one (zs : List Int) (h : 0 < zs.length) : lowTo zs 1 = zs.getD 0 0 := by rw [lowTo_succ zs 0 h, lowTo_zero, Int.min_self]
theorem highTo_one (zs : List Int) (h : 0 < zs.length) : highTo zs 1 = zs.getD 0 0 := by rw [highTo_succ zs 0 h, highTo_zero, Int.max_self]
theorem lowTo_bound (zs : List Int) (k : Nat) (hk : k ≤ zs.length) (h : okTo zs k) (h0 : okTo zs 1) : -10000 ≤ lowTo zs k ∧ lowTo zs k ≤ 10000 := by
  induction k with
  | zero => rw [lowTo_zero]; exact h0 0 (by omega)
  | succ k ih =>
    have h1 := ih (by omega) (fun j hj => h j (by omega))
    have h2 := h k (by omega)
    rw [lowTo_succ zs k (by omega)]
    omega
theorem highTo_bound (zs : List Int) (k : Nat) (hk : k ≤ zs.length) (h : okTo zs k) (h0 : okTo zs 1) : -10000 ≤ highTo zs k ∧ highTo zs k ≤ 10000 := by
  induction k with
  | zero => rw [highTo_zero]; exact h0 0 (by omega)
  | succ k ih =>
    have h1 := ih (by omega) (fun j hj => h j (by omega))
    have h2 := h k (by omega)
    rw [highTo_succ zs k (by omega)]
    omega
def rangeV (zs : List Int) : Int := highTo zs zs.length - lowTo zs zs.length

theorem max_any (A : Option Addr) (c B : Nat) (zs : List Int) (w : World) (hs : Sl w B A zs) (h1 : 1 ≤ zs.length) (hn : zs.length ≤ 4611686018427387904) :
    Calls Try.prog 45 #[.slice A zs.length c] w fun e w' => e = .returned (.int .i64 (highTo zs zs.length)) ∧ w = w' := by
  have HS := Lib.hid hs
  obtain ⟨b, off, rfl, hbB, hc⟩ := hs.at_ (k := 0) h1
  have H1 := Lib.hid (highTo_one zs h1)
  obtain ⟨z0, hz0⟩ : ∃ z, zs.getD 0 0 = z := ⟨_, rfl⟩
  rw [hz0, Nat.add_zero] at hc
  rw [hz0] at H1
  clear hz0 hs
  go_enter Try.func45, Try.ntmps45
  go_wp2
  go_loop [3, 4] (fun m i => ∃ k : Nat, k ≤ zs.length ∧ 1 ≤ k ∧ i = .int .i64 k ∧ m = .int .i64 (highTo zs k)) (fun _ i => zs.length - (intOf i).toNat)
  case atStart => exact ⟨1, h1, Nat.le_refl _, rfl, by rw [H1.out]⟩
  case round =>
    obtain ⟨k, hk, hk1, rfl, rfl⟩ := hrel
    by_cases hlt : k < zs.length
    · obtain ⟨b, off, h3, _, hc⟩ := HS.out.at_ hlt
      cases h3
      have HSU := Lib.hid (highTo_succ zs k hlt)
      obtain ⟨z, hz⟩ : ∃ z, zs.getD k 0 = z := ⟨_, rfl⟩
      rw [hz] at hc HSU
      clear hz
      obtain ⟨s, hse⟩ : ∃ s, highTo zs k = s := ⟨_, rfl⟩
      rw [hse] at HSU ⊢
      clear hse
      go_wp2
      go_round
      case rel => exact ⟨k + 1, by omega, by omega, by go_num, by rw [HSU.out]; try (congr 1; split <;> omega)⟩
      case measure => simp [intOf]; omega
    · have e : k = zs.length := by omega
      subst e
      go_wp2
      go_ret
      exact ⟨rfl, rfl⟩
theorem min_any (A : Option Addr) (c B : Nat) (zs : List Int) (w : World) (hs : Sl w B A zs) (h1 : 1 ≤ zs.length) (hn : zs.length ≤ 4611686018427387904) :
    Calls Try.prog 46 #[.slice A zs.length c] w fun e w' => e = .returned (.int .i64 (lowTo zs zs.length)) ∧ w = w' := by
  have HS := Lib.hid hs
  obtain ⟨b, off, rfl, hbB, hc⟩ := hs.at_ (k := 0) h1
  have H1 := Lib.hid (lowTo_one zs h1)
  obtain ⟨z0, hz0⟩ : ∃ z, zs.getD 0 0 = z := ⟨_, rfl⟩
  rw [hz0, Nat.add_zero] at hc
  rw [hz0] at H1
  clear hz0 hs
  go_enter Try.func46, Try.ntmps46
  go_wp2
  go_loop [3, 4] (fun m i => ∃ k : Nat, k ≤ zs.length ∧ 1 ≤ k ∧ i = .int .i64 k ∧ m = .int .i64 (lowTo zs k)) (fun _ i => zs.length - (intOf i).toNat)
  case atStart => exact ⟨1, h1, Nat.le_refl _, rfl, by rw [H1.out]⟩
  case round =>
    obtain ⟨k, hk, hk1, rfl, rfl⟩ := hrel
    by_cases hlt : k < zs.length
    · obtain ⟨b, off, h3, _, hc⟩ := HS.out.at_ hlt
      cases h3
      have HSU := Lib.hid (lowTo_succ zs k hlt)
      obtain ⟨z, hz⟩ : ∃ z, zs.getD k 0 = z := ⟨_, rfl⟩
      rw [hz] at hc HSU
      clear hz
      obtain ⟨s, hse⟩ : ∃ s, lowTo zs k = s := ⟨_, rfl⟩
      rw [hse] at HSU ⊢
      clear hse
      go_wp2
      go_round
      case rel => exact ⟨k + 1, by omega, by omega, by go_num, by rw [HSU.out]; try (congr 1; split <;> omega)⟩
      case measure => simp [intOf]; omega
    · have e : k = zs.length := by omega
      subst e
      go_wp2
      go_ret
      exact ⟨rfl, rfl⟩

section
variable (A : Option Addr) (c B : Nat) (zs : List Int) (w : World) (hs : Sl w B A zs) (hn : zs.length ≤ 4611686018427387904)
include hs hn
theorem implRange_no (h : ¬ OkL zs) : Calls Try.prog 27 #[.slice A zs.length c] w fun e w' => e = .returned (.int .i64 (-1)) ∧ w = w' := by
  have HS := Lib.hid hs
  clear hs
  go_enter Try.func27, Try.ntmps27
  go_wp2_with fail
  refine (plainList_no A c B _ zs w HS.out rfl hn h).mono ?_
  rintro e w' ⟨rfl, rfl⟩
  go_wp2
  go_ret
  exact ⟨rfl, rfl⟩
theorem specRange_no (h : ¬ OkL zs) : Calls Try.prog 28 #[.slice A zs.length c] w fun e w' => e = .returned (.int .i64 (-1)) ∧ w = w' := by
  have HS := Lib.hid hs
  clear hs
  go_enter Try.func28, Try.ntmps28
  go_wp2_with fail
  refine (l33Valid_no A c B _ zs w HS.out rfl hn h).mono ?_
  rintro e w' ⟨rfl, rfl⟩
  go_wp2
  go_ret
  exact ⟨rfl, rfl⟩
theorem implRange_yes (h : OkL zs) : Calls Try.prog 27 #[.slice A zs.length c] w fun e w' => e = .returned (.int .i64 (rangeV zs)) ∧ w = w' := by
  have HS := Lib.hid hs
  have HV := Lib.hid h
  have hl := h.1
  obtain ⟨l0, l1⟩ := hl
  clear hs h
  have hb1 := lowTo_bound zs zs.length (Nat.le_refl _) (HV.out.okTo _ (Nat.le_refl _)) (HV.out.okTo _ l0)
  have hb2 := highTo_bound zs zs.length (Nat.le_refl _) (HV.out.okTo _ (Nat.le_refl _)) (HV.out.okTo _ l0)
  go_enter Try.func27, Try.ntmps27
  go_wp2_with fail
  refine (plainList_yes A c B _ zs w HS.out rfl hn HV.out).mono ?_
  rintro e w' ⟨rfl, rfl⟩
  go_wp2_with fail
  refine (max_any A c B zs w HS.out l0 hn).mono ?_
  rintro e w' ⟨rfl, rfl⟩
  go_wp2_with fail
  refine (min_any A c B zs w HS.out l0 hn).mono ?_
  rintro e w' ⟨rfl, rfl⟩
  go_wp2
  go_ret
  exact ⟨rfl, rfl⟩
theorem specRange_yes (h : OkL zs) : Calls Try.prog 28 #[.slice A zs.length c] w fun e w' => e = .returned (.int .i64 (rangeV zs)) ∧ w = w' := by
  have HS := Lib.hid hs
  have HV := Lib.hid h
  have hl := h.1
  obtain ⟨l0, l1⟩ := hl
  obtain ⟨b, off, rfl, hbB, hc⟩ := hs.at_ (k := 0) l0
  clear hs h
  have HZ1 := Lib.hid (lowTo_zero zs)
  have HZ2 := Lib.hid (highTo_zero zs)
  obtain ⟨z0, hz0⟩ : ∃ z, zs.getD 0 0 = z := ⟨_, rfl⟩
  rw [hz0, Nat.add_zero] at hc
  rw [hz0] at HZ1 HZ2
  clear hz0
  go_enter Try.func28, Try.ntmps28
  go_wp2_with fail
  refine (l33Valid_yes _ c B _ zs w HS.out rfl hn HV.out).mono ?_
  rintro e w' ⟨rfl, rfl⟩
  go_wp2
  go_loop [3, 4, 5] (fun lo hi i => ∃ k : Nat, k ≤ zs.length ∧ i = .int .i64 k ∧ lo = .int .i64 (lowTo zs k) ∧ hi = .int .i64 (highTo zs k)) (fun _ _ i => zs.length - (intOf i).toNat)
  case atStart => exact ⟨0, Nat.zero_le _, rfl, by rw [HZ1.out], by rw [HZ2.out]⟩
  case round =>
    obtain ⟨k, hk, rfl, rfl, rfl⟩ := hrel
    by_cases hlt : k < zs.length
    · obtain ⟨b, off, h3, _, hc⟩ := HS.out.at_ hlt
      cases h3
      have HSU := Lib.hid (lowTo_succ zs k hlt)
      have HSU2 := Lib.hid (highTo_succ zs k hlt)
      obtain ⟨z, hz⟩ : ∃ z, zs.getD k 0 = z := ⟨_, rfl⟩
      rw [hz] at hc HSU HSU2
      clear hz
      obtain ⟨s, hse⟩ : ∃ s, lowTo zs k = s := ⟨_, rfl⟩
      rw [hse] at HSU ⊢
      clear hse
      obtain ⟨t, hte⟩ : ∃ s, highTo zs k = s := ⟨_, rfl⟩
      rw [hte] at HSU2 ⊢
      clear hte
      go_wp2
      go_round
      case rel => exact ⟨k + 1, by omega, by go_num, by rw [HSU.out]; congr 1; split <;> omega, by rw [HSU2.out]; congr 1; split <;> omega⟩
      case measure => simp [intOf]; omega
    · have e : k = zs.length := by omega
      subst e
      have hb1 := lowTo_bound zs zs.length (Nat.le_refl _) (HV.out.okTo _ (Nat.le_refl _)) (HV.out.okTo _ l0)
      have hb2 := highTo_bound zs zs.length (Nat.le_refl _) (HV.out.okTo _ (Nat.le_refl _)) (HV.out.okTo _ l0)
      go_wp2
      go_ret
      exact ⟨rfl, rfl⟩
end
end Go.Proofs.Ytdmgaemplhcfmaa
