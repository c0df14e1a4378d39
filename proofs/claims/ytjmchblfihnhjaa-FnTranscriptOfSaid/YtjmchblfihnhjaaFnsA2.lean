/- Contracts of the transcripts of lists. -/
import Derived.Test.YtjmchblfihnhjaaFnsA
import Derived.Test.YtjmchblfihnhjaaLists
namespace Go.Proofs.Ytjmchblfihnhjaa
open Go.RowKit

theorem txFold_take_zero (zs : List Int) : txFold (zs.take 0) = 1 := by simp [txFold]
theorem txFold_take_full (zs : List Int) : txFold (zs.take zs.length) = txFold zs := by rw [List.take_of_length_le (Nat.le_refl _)]

theorem implTO (A : Option Addr) (c B : Nat) (zs : List Int) (w : World) (hs : Sl w B A zs) (hn : zs.length ≤ 4611686018427387904) :
    Calls Try.prog 15 #[.slice A zs.length c] w fun e w' => e = .returned (.int .i64 (txOf zs)) ∧ w = w' := by
  have HS := Lib.hid hs
  clear hs
  by_cases hl : 2000 < zs.length
  · rw [show txOf zs = -1 from if_pos hl]
    go_enter Try.func15, Try.ntmps15
    go_wp2
    go_ret
    exact ⟨rfl, rfl⟩
  rw [show txOf zs = txFold zs from if_neg hl]
  go_enter Try.func15, Try.ntmps15
  go_wp2
  go_loop [3, 11] (fun t i => ∃ k : Nat, k ≤ zs.length ∧ i = .int .i64 k ∧ 0 ≤ txFold (zs.take k) ∧ t = .int .i64 (txFold (zs.take k))) (fun _ i => zs.length - (intOf i).toNat)
  case atStart => exact ⟨0, Nat.zero_le _, rfl, by rw [txFold_take_zero]; omega, by rw [txFold_take_zero]⟩
  case round =>
    obtain ⟨k, hk, rfl, ht0, rfl⟩ := hrel
    have ht1 := (txFold_range (zs.take k)).2
    by_cases hlt : k < zs.length
    · have hsn := Lib.hid (txFold_take_succ zs k hlt)
      obtain ⟨b, off, rfl, _, hc⟩ := HS.out.at_ hlt
      obtain ⟨z, hz⟩ : ∃ z, zs.getD k 0 = z := ⟨_, rfl⟩
      rw [hz] at hc hsn
      clear hz
      obtain ⟨t, ht⟩ : ∃ t, txFold (zs.take k) = t := ⟨_, rfl⟩
      rw [ht] at hsn ht0 ht1 ⊢
      clear ht
      by_cases hv : 0 ≤ z ∧ z ≤ 2147483646
      · obtain ⟨v0, v1⟩ := hv
        go_wp2_with fail
        refine (saidValid_yes _ _ v0 v1).mono ?_
        rintro e w' ⟨rfl, rfl⟩
        go_wp2_with fail
        refine (implTA _ _ _).mono ?_
        rintro e w' ⟨rfl, rfl⟩
        have hok := txAdd_ok ⟨ht0, ht1⟩ ⟨v0, v1⟩
        go_wp2
        go_round
        case rel => exact ⟨k + 1, by omega, by go_num, by rw [hsn.out]; exact hok.1, by rw [hsn.out]⟩
        case measure => simp [intOf]; omega
      · have hv' : z < 0 ∨ 2147483646 < z := by omega
        clear hv
        go_wp2_with fail
        refine (saidValid_no _ _ hv').mono ?_
        rintro e w' ⟨rfl, rfl⟩
        go_wp2
        go_ret
        refine ⟨?_, rfl⟩
        have h1 : txFold (zs.take (k + 1)) < 0 := by rw [hsn.out, txAdd_no (by omega)]; omega
        rw [txFold_stuck h1]
        rfl
    · have hkl : k = zs.length := by omega
      subst hkl
      rw [txFold_take_full]
      go_wp2
      go_ret
      exact ⟨rfl, rfl⟩

theorem specTO (A : Option Addr) (c B : Nat) (zs : List Int) (w : World) (hs : Sl w B A zs) (hn : zs.length ≤ 4611686018427387904) :
    Calls Try.prog 13 #[.slice A zs.length c] w fun e w' => e = .returned (.int .i64 (txOf zs)) ∧ w = w' := by
  have HS := Lib.hid hs
  clear hs
  have fin : ∀ k, k ≤ zs.length → (txFold (zs.take k) < 0 ∨ k = zs.length) → txFold (zs.take k) = txFold zs := fun k _ h => by
    rcases h with h | h
    · rw [txFold_stuck h]
      have := (txFold_range (zs.take k)).1
      omega
    · subst h; exact txFold_take_full zs
  have FIN := Lib.hid fin
  clear fin
  go_enter Try.func13, Try.ntmps13
  go_wp2
  go_loop [3, 4] (fun t i => ∃ k : Nat, k ≤ zs.length ∧ i = .int .i64 k ∧ t = .int .i64 (txFold (zs.take k))) (fun _ i => zs.length - (intOf i).toNat)
  case atStart => exact ⟨0, Nat.zero_le _, rfl, by rw [txFold_take_zero]⟩
  case round =>
    obtain ⟨k, hk, rfl, rfl⟩ := hrel
    have ht1 := (txFold_range (zs.take k)).2
    by_cases hgo : k < zs.length ∧ 0 ≤ txFold (zs.take k)
    · obtain ⟨hlt, ht0⟩ := hgo
      have hsn := Lib.hid (txFold_take_succ zs k hlt)
      obtain ⟨b, off, rfl, _, hc⟩ := HS.out.at_ hlt
      obtain ⟨z, hz⟩ : ∃ z, zs.getD k 0 = z := ⟨_, rfl⟩
      rw [hz] at hc hsn
      clear hz
      obtain ⟨t, ht⟩ : ∃ t, txFold (zs.take k) = t := ⟨_, rfl⟩
      rw [ht] at hsn ht0 ht1 ⊢
      clear ht
      go_wp2_with fail
      refine (specTA _ _ _).mono ?_
      rintro e w' ⟨rfl, rfl⟩
      go_wp2
      go_round
      case rel => exact ⟨k + 1, by omega, by go_num, by rw [hsn.out]⟩
      case measure => simp [intOf]; omega
    · have hF := Lib.hid (FIN.out k hk (by omega))
      have hO : txOf zs = if 2000 < zs.length then -1 else txFold zs := rfl
      have HO := Lib.hid hO
      clear hO
      by_cases hlt : k < zs.length
      · have ht0 : txFold (zs.take k) < 0 := by omega
        clear hgo
        obtain ⟨t, ht⟩ : ∃ t, txFold (zs.take k) = t := ⟨_, rfl⟩
        rw [ht] at hF ht0 ht1 ⊢
        clear ht
        by_cases hl : 2000 < zs.length
        · go_wp2
          go_ret
          exact ⟨by rw [HO.out, if_pos hl]; rfl, rfl⟩
        · go_wp2
          go_ret
          exact ⟨by rw [HO.out, if_neg hl, ← hF.out]; rfl, rfl⟩
      · clear hgo
        obtain ⟨t, ht⟩ : ∃ t, txFold (zs.take k) = t := ⟨_, rfl⟩
        rw [ht] at hF ht1 ⊢
        clear ht
        by_cases hl : 2000 < zs.length
        · go_wp2
          go_ret
          exact ⟨by rw [HO.out, if_pos hl]; rfl, rfl⟩
        · go_wp2
          go_ret
          exact ⟨by rw [HO.out, if_neg hl, ← hF.out]; rfl, rfl⟩
theorem implTO_n (A : Option Addr) (c B n : Nat) (zs : List Int) (w : World) (hs : Sl w B A zs) (hl : zs.length = n) (hn : n ≤ 4611686018427387904) :
    Calls Try.prog 15 #[.slice A n c] w fun e w' => e = .returned (.int .i64 (txOf zs)) ∧ w = w' := by
  subst hl
  exact implTO A c B zs w hs hn
end Go.Proofs.Ytjmchblfihnhjaa
