/- Contracts: lists of plain numbers, quotients rounded down, means. -/
import Derived.Test.YtdmgaemplhcfmaaScal
import Derived.Test.YtdmgaemplhcfmaaLists2
import Derived.Test.YtdmgaemplhcfmaaPlainB
namespace Go.Proofs.Ytdmgaemplhcfmaa
open Go.RowKit

theorem plainList_any (A : Option Addr) (c B : Nat) (zs : List Int) (w : World) (hs : Sl w B A zs) (hn : zs.length ≤ 4611686018427387904) (ob : Bool) (hob : ob = true ↔ OkL zs) :
    Calls Try.prog 40 #[.slice A zs.length c] w fun e w' => e = .returned (.bool ob) ∧ w = w' := by
  have HS := Lib.hid hs
  clear hs
  have obT := Lib.hid (fun h : OkL zs => hob.2 h)
  have obF := Lib.hid (fun h : ¬ OkL zs => show ob = false by cases ob; rfl; exact absurd (hob.1 rfl) h)
  clear hob
  by_cases hl : 1 ≤ zs.length ∧ zs.length ≤ 20
  · obtain ⟨l0, l1⟩ := hl
    have hg : (20 < (zs.length : Int)) = False := by simp; omega
    go_enter Try.func40, Try.ntmps40
    go_wp2
    go_loop [15] (fun i => ∃ k : Nat, k ≤ zs.length ∧ i = .int .i64 k ∧ okTo zs k) (fun i => zs.length - (intOf i).toNat)
    case atStart => exact ⟨0, Nat.zero_le _, rfl, fun j hj => absurd hj (by omega)⟩
    case round =>
      obtain ⟨k, hk, rfl, hok⟩ := hrel
      have HOK := Lib.hid hok
      clear hok
      by_cases hlt : k < zs.length
      · obtain ⟨b, off, rfl, _, hc⟩ := HS.out.at_ hlt
        have HN := Lib.hid (fun h => not_ok_of (zs := zs) hlt h)
        have HSU := Lib.hid (fun a b => okTo_succ (zs := zs) HOK.out a b)
        obtain ⟨z, hz⟩ : ∃ z, zs.getD k 0 = z := ⟨_, rfl⟩
        rw [hz] at hc HN HSU
        clear hz
        by_cases hlo : z < -10000
        · go_wp2
          go_ret
          exact ⟨by rw [obF.out (HN.out (.inl hlo))]; rfl, rfl⟩
        by_cases hhi : 10000 < z
        · go_wp2
          go_ret
          exact ⟨by rw [obF.out (HN.out (.inr hhi))]; rfl, rfl⟩
        · go_wp2
          go_round
          case rel => exact ⟨k + 1, by omega, by go_num, HSU.out (by omega) (by omega)⟩
          case measure => simp [intOf]; omega
      · have e : k = zs.length := by omega
        subst e
        go_wp2
        go_ret
        exact ⟨by rw [obT.out ⟨⟨l0, l1⟩, okTo_all HOK.out⟩]; rfl, rfl⟩
  · have hno : ¬ OkL zs := fun h => hl h.1
    by_cases l0 : zs.length < 1
    · go_enter Try.func40, Try.ntmps40
      go_wp2
      go_ret
      exact ⟨by rw [obF.out hno]; rfl, rfl⟩
    · have l1 : 20 < zs.length := by omega
      clear hl
      go_enter Try.func40, Try.ntmps40
      go_wp2
      go_ret
      exact ⟨by rw [obF.out hno]; rfl, rfl⟩

theorem l33Valid_any (A : Option Addr) (c B : Nat) (zs : List Int) (w : World) (hs : Sl w B A zs) (hn : zs.length ≤ 4611686018427387904) (ob : Bool) (hob : ob = true ↔ OkL zs) :
    Calls Try.prog 39 #[.slice A zs.length c] w fun e w' => e = .returned (.bool ob) ∧ w = w' := by
  have HS := Lib.hid hs
  clear hs
  have obT := Lib.hid (fun h : OkL zs => hob.2 h)
  have obF := Lib.hid (fun h : ¬ OkL zs => show ob = false by cases ob; rfl; exact absurd (hob.1 rfl) h)
  clear hob
  go_enter Try.func39, Try.ntmps39
  go_wp2
  go_loop [3] (fun i => ∃ k : Nat, k ≤ zs.length ∧ i = .int .i64 k ∧ okTo zs k) (fun i => zs.length - (intOf i).toNat)
  case atStart => exact ⟨0, Nat.zero_le _, rfl, fun j hj => absurd hj (by omega)⟩
  case round =>
    obtain ⟨k, hk, rfl, hok⟩ := hrel
    have HOK := Lib.hid hok
    clear hok
    by_cases hlt : k < zs.length
    · obtain ⟨b, off, rfl, _, hc⟩ := HS.out.at_ hlt
      have HN := Lib.hid (fun h => not_ok_of (zs := zs) hlt h)
      have HSU := Lib.hid (fun a b => okTo_succ (zs := zs) HOK.out a b)
      obtain ⟨z, hz⟩ : ∃ z, zs.getD k 0 = z := ⟨_, rfl⟩
      rw [hz] at hc HN HSU
      clear hz
      by_cases hv : -10000 ≤ z ∧ z ≤ 10000
      · go_wp2_with fail
        refine (l1In_yes _ _ _ _ hv.1 hv.2).mono ?_
        rintro e w' ⟨rfl, rfl⟩
        go_wp2
        go_round
        case rel => exact ⟨k + 1, by omega, by go_num, HSU.out hv.1 hv.2⟩
        case measure => simp [intOf]; omega
      · have hv' : z < -10000 ∨ 10000 < z := by omega
        clear hv
        go_wp2_with fail
        refine (l1In_no _ _ _ _ hv').mono ?_
        rintro e w' ⟨rfl, rfl⟩
        go_wp2
        go_ret
        exact ⟨by rw [obF.out (HN.out hv')]; rfl, rfl⟩
    · have e : k = zs.length := by omega
      subst e
      by_cases hl : 1 ≤ zs.length ∧ zs.length ≤ 20
      · go_wp2_with fail
        refine (l1In_yes _ _ _ _ (by omega) (by omega)).mono ?_
        rintro e w' ⟨rfl, rfl⟩
        go_wp2
        go_ret
        exact ⟨by rw [obT.out ⟨hl, okTo_all HOK.out⟩]; rfl, rfl⟩
      · go_wp2_with fail
        refine (l1In_no _ _ _ _ (by omega)).mono ?_
        rintro e w' ⟨rfl, rfl⟩
        go_wp2
        go_ret
        exact ⟨by rw [obF.out (fun h => hl h.1)]; rfl, rfl⟩

section
variable (A : Option Addr) (c B n : Nat) (zs : List Int) (w : World) (hs : Sl w B A zs) (e : n = zs.length) (hn : n ≤ 4611686018427387904)
include hs e hn
theorem plainList_yes (h : OkL zs) : Calls Try.prog 40 #[.slice A n c] w fun e w' => e = .returned (.bool true) ∧ w = w' := by
  subst e
  exact plainList_any A c B zs w hs hn true ⟨fun _ => h, fun _ => rfl⟩
theorem plainList_no (h : ¬ OkL zs) : Calls Try.prog 40 #[.slice A n c] w fun e w' => e = .returned (.bool false) ∧ w = w' := by
  subst e
  exact plainList_any A c B zs w hs hn false ⟨fun e => (by simp at e), fun e => absurd e h⟩
theorem l33Valid_yes (h : OkL zs) : Calls Try.prog 39 #[.slice A n c] w fun e w' => e = .returned (.bool true) ∧ w = w' := by
  subst e
  exact l33Valid_any A c B zs w hs hn true ⟨fun _ => h, fun _ => rfl⟩
theorem l33Valid_no (h : ¬ OkL zs) : Calls Try.prog 39 #[.slice A n c] w fun e w' => e = .returned (.bool false) ∧ w = w' := by
  subst e
  exact l33Valid_any A c B zs w hs hn false ⟨fun e => (by simp at e), fun e => absurd e h⟩
end

theorem floorQ_any (n b : Int) (w : World) (hb : 1 ≤ b) (hb2 : b ≤ 200) (h1 : -1000000 ≤ n) (h2 : n ≤ 1000000) :
    Calls Try.prog 41 #[.int .i64 n, .int .i64 b] w fun e w' => e = .returned (.int .i64 (n / b)) ∧ w = w' := by
  have hq := tdiv_bound (n := n) (b := b) (m := 1000000) (by omega) h1 h2
  have hf := floor_tmod (n := n) (b := b) (by omega)
  have h6 : n.tmod b < b := Int.tmod_lt_of_pos n (by omega)
  have h5 : -b < n.tmod b := Int.lt_tmod_of_pos n (by omega)
  obtain ⟨q, hqe⟩ : ∃ q, n.tdiv b = q := ⟨_, rfl⟩
  obtain ⟨r, hre⟩ : ∃ r, n.tmod b = r := ⟨_, rfl⟩
  rw [hqe] at hq hf
  rw [hre] at hf h5 h6
  have HF := Lib.hid hf
  clear hf
  by_cases hr : r < 0
  · go_enter Try.func41, Try.ntmps41
    go_wp2
    go_ret
    exact ⟨by rw [← HF.out, if_pos hr]; rfl, rfl⟩
  · go_enter Try.func41, Try.ntmps41
    go_wp2
    go_ret
    exact ⟨by rw [← HF.out, if_neg (by omega)]; rfl, rfl⟩

theorem floorL_any (n b : Int) (w : World) (hb : 1 ≤ b) (hb2 : b ≤ 200) (h1 : -1000000 ≤ n) (h2 : n ≤ 1000000) :
    Calls Try.prog 48 #[.int .i64 n, .int .i64 b] w fun e w' => e = .returned (.int .i64 (n / b)) ∧ w = w' := by
  have hq := tdiv_bound (n := n) (b := b) (m := 1000000) (by omega) h1 h2
  have hf := floor_mul (n := n) (b := b) (by omega)
  have hm : -2000000 ≤ n.tdiv b * b ∧ n.tdiv b * b ≤ 2000000 := by
    have h6 : n.tmod b < b := Int.tmod_lt_of_pos n (by omega)
    have h5 : -b < n.tmod b := Int.lt_tmod_of_pos n (by omega)
    have h7 := Int.tmod_add_mul_tdiv n b
    rw [Int.mul_comm] at h7
    omega
  obtain ⟨q, hqe⟩ : ∃ q, n.tdiv b = q := ⟨_, rfl⟩
  rw [hqe] at hq hf hm
  obtain ⟨m, hme⟩ : ∃ m, q * b = m := ⟨_, rfl⟩
  have hqe' := hqe
  rw [hme] at hf hm
  have HF := Lib.hid hf
  have HM := Lib.hid hme
  clear hf hqe'
  by_cases hr : n < m
  · go_enter Try.func48, Try.ntmps48
    go_wp2
    go_ret
    exact ⟨by rw [← HF.out, if_pos hr]; rfl, rfl⟩
  · go_enter Try.func48, Try.ntmps48
    go_wp2
    go_ret
    exact ⟨by rw [← HF.out, if_neg (by omega)]; rfl, rfl⟩
end Go.Proofs.Ytdmgaemplhcfmaa
