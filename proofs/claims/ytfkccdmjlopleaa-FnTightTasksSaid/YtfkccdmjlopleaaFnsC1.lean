/- Contracts: valid tasks. -/
import Derived.Test.YtfkccdmjlopleaaScal
import Derived.Test.YtfkccdmjlopleaaLists4
import Derived.Test.YtfkccdmjlopleaaPlainC
namespace Go.Proofs.Ytfkccdmjlopleaa
open Go.RowKit

set_option maxHeartbeats 400000 in
theorem implTV_any (A : Option Addr) (c B : Nat) (zss : List (List Int)) (w : World) (hs : SS w B A zss) (hn : Small 2000000 zss) (ob : Bool) (hob : ob = true ↔ OkT zss) :
    Calls Try.prog 14 #[.slice A zss.length c] w fun e w' => e = .returned (.bool ob) ∧ w = w' := by
  have HS := Lib.hid hs
  have HN := Lib.hid hn
  have hn1 := hn.1
  have obT := Lib.hid (fun h : OkT zss => hob.2 h)
  have obF := Lib.hid (fun h : ¬ OkT zss => show ob = false by cases ob; rfl; exact absurd (hob.1 rfl) h)
  clear hob hs hn
  by_cases hl : 12 < zss.length
  · go_enter Try.func14, Try.ntmps14
    go_wp2
    go_ret
    exact ⟨by rw [obF.out (fun h => by have := h.1; omega)]; rfl, rfl⟩
  go_enter Try.func14, Try.ntmps14
  go_wp2
  go_loop [12] (fun i => ∃ k : Nat, k ≤ zss.length ∧ i = .int .i64 k ∧ okTTo zss k) (fun i => zss.length - (intOf i).toNat)
  case atStart => exact ⟨0, Nat.zero_le _, rfl, okTTo_zero _⟩
  case round =>
    obtain ⟨k, hk, rfl, hok⟩ := hrel
    have HOK := Lib.hid hok
    clear hok
    by_cases hlt : k < zss.length
    · obtain ⟨b, off, A', c', rfl, _, hc, _, _, hsl⟩ := HS.out.at_ hlt
      have hsm := HN.out.2 k hlt
      have HN1 := Lib.hid (fun h => not_okT_len (zss := zss) hlt h)
      have HN2 := Lib.hid (fun j hj h => not_okT_in (zss := zss) (j := j) hlt hj h)
      have HSU := Lib.hid (fun h => okTTo_succ (zss := zss) HOK.out h)
      obtain ⟨zs, hzs⟩ : ∃ zs, at2 zss k = zs := ⟨_, rfl⟩
      rw [hzs] at hc hsl hsm HN1 HN2 HSU
      have HSL := Lib.hid hsl
      clear hzs hsl
      by_cases h4 : 4 < zs.length
      · go_wp2
        go_ret
        exact ⟨by rw [obF.out (HN1.out h4)]; rfl, rfl⟩
      go_wp2
      go_loop [22] (fun i => ∃ j : Nat, j ≤ zs.length ∧ i = .int .i64 j ∧ okIn zs k j) (fun i => zs.length - (intOf i).toNat)
      case atStart => exact ⟨0, Nat.zero_le _, rfl, okIn_zero _ _⟩
      case round =>
        obtain ⟨j, hj, rfl, hin⟩ := hrel
        have HIN := Lib.hid hin
        clear hin
        by_cases hjl : j < zs.length
        · obtain ⟨b2, off2, rfl, _, hc2⟩ := HSL.out.at_ hjl
          have HN3 := Lib.hid (HN2.out j hjl)
          have HSI := Lib.hid (fun a b => okIn_succ (j := j) HIN.out a b)
          obtain ⟨z, hz⟩ : ∃ z, zs.getD j 0 = z := ⟨_, rfl⟩
          rw [hz] at hc2 HN3 HSI
          clear hz
          by_cases h0 : z < 0
          · go_wp2
            go_ret
            exact ⟨by rw [obF.out (HN3.out (.inl h0))]; rfl, rfl⟩
          by_cases h1 : (k : Int) ≤ z
          · go_wp2
            go_ret
            exact ⟨by rw [obF.out (HN3.out (.inr h1))]; rfl, rfl⟩
          go_wp2
          go_round
          case rel => exact ⟨j + 1, by omega, by go_num, HSI.out (by omega) (by omega)⟩
          case measure => simp [intOf]; omega
        · have e : j = zs.length := by omega
          subst e
          go_wp2
          go_round
          case rel => exact ⟨k + 1, by omega, by go_num, HSU.out ⟨by omega, HIN.out⟩⟩
          case measure => simp [intOf]; omega
    · have e : k = zss.length := by omega
      subst e
      go_wp2
      go_ret
      exact ⟨by rw [obT.out ⟨by omega, HOK.out⟩]; rfl, rfl⟩

set_option maxHeartbeats 400000 in
theorem specTV_any (A : Option Addr) (c B : Nat) (zss : List (List Int)) (w : World) (hs : SS w B A zss) (hn : Small 2000000 zss) (ob : Bool) (hob : ob = true ↔ OkT zss) :
    Calls Try.prog 12 #[.slice A zss.length c] w fun e w' => e = .returned (.bool ob) ∧ w = w' := by
  have HS := Lib.hid hs
  have HN := Lib.hid hn
  have hn1 := hn.1
  have obT := Lib.hid (fun h : OkT zss => hob.2 h)
  have obF := Lib.hid (fun h : ¬ OkT zss => show ob = false by cases ob; rfl; exact absurd (hob.1 rfl) h)
  clear hob hs hn
  go_enter Try.func12, Try.ntmps12
  go_wp2
  go_loop [3] (fun i => ∃ k : Nat, k ≤ zss.length ∧ i = .int .i64 k ∧ okTTo zss k) (fun i => zss.length - (intOf i).toNat)
  case atStart => exact ⟨0, Nat.zero_le _, rfl, okTTo_zero _⟩
  case round =>
    obtain ⟨k, hk, rfl, hok⟩ := hrel
    have HOK := Lib.hid hok
    clear hok
    by_cases hlt : k < zss.length
    · obtain ⟨b, off, A', c', rfl, _, hc, _, _, hsl⟩ := HS.out.at_ hlt
      have hsm := HN.out.2 k hlt
      have HN1 := Lib.hid (fun h => not_okT_len (zss := zss) hlt h)
      have HN2 := Lib.hid (fun j hj h => not_okT_in (zss := zss) (j := j) hlt hj h)
      have HSU := Lib.hid (fun h => okTTo_succ (zss := zss) HOK.out h)
      obtain ⟨zs, hzs⟩ : ∃ zs, at2 zss k = zs := ⟨_, rfl⟩
      rw [hzs] at hc hsl hsm HN1 HN2 HSU
      have HSL := Lib.hid hsl
      clear hzs hsl
      go_wp2
      go_loop [4] (fun i => ∃ j : Nat, j ≤ zs.length ∧ i = .int .i64 j ∧ okIn zs k j ∧ (zs.length ≤ 4 ∨ j = 0)) (fun i => zs.length - (intOf i).toNat)
      case atStart => exact ⟨0, Nat.zero_le _, rfl, okIn_zero _ _, .inr rfl⟩
      case round =>
        obtain ⟨j, hj, rfl, hin, h4j⟩ := hrel
        have HIN := Lib.hid hin
        clear hin
        by_cases hjl : j < zs.length
        · obtain ⟨b2, off2, rfl, _, hc2⟩ := HSL.out.at_ hjl
          have HN3 := Lib.hid (HN2.out j hjl)
          have HSI := Lib.hid (fun a b => okIn_succ (j := j) HIN.out a b)
          obtain ⟨z, hz⟩ : ∃ z, zs.getD j 0 = z := ⟨_, rfl⟩
          rw [hz] at hc2 HN3 HSI
          clear hz
          by_cases hin : 0 ≤ z ∧ z ≤ (k : Int) - 1
          · by_cases h4 : 4 < zs.length
            · go_wp2_with fail
              refine (l1In_yes _ _ _ _ hin.1 hin.2).mono ?_
              rintro e w' ⟨rfl, rfl⟩
              go_wp2
              go_ret
              exact ⟨by rw [obF.out (HN1.out h4)]; rfl, rfl⟩
            · go_wp2_with fail
              refine (l1In_yes _ _ _ _ hin.1 hin.2).mono ?_
              rintro e w' ⟨rfl, rfl⟩
              go_wp2
              go_round
              case rel => exact ⟨j + 1, by omega, by go_num, HSI.out (by omega) (by omega), .inl (by omega)⟩
              case measure => simp [intOf]; omega
          · have hin' : z < 0 ∨ (k : Int) - 1 < z := by omega
            clear hin
            go_wp2_with fail
            refine (l1In_no _ _ _ _ hin').mono ?_
            rintro e w' ⟨rfl, rfl⟩
            go_wp2
            go_ret
            exact ⟨by rw [obF.out (HN3.out (by omega))]; rfl, rfl⟩
        · have e : j = zs.length := by omega
          subst e
          go_wp2
          go_round
          case rel => exact ⟨k + 1, by omega, by go_num, HSU.out ⟨by omega, HIN.out⟩⟩
          case measure => simp [intOf]; omega
    · have e : k = zss.length := by omega
      subst e
      by_cases hl : zss.length ≤ 12
      · have hd : decide ((zss.length : Int) ≤ 12) = true := by simp; omega
        go_wp2
        go_ret
        exact ⟨by rw [obT.out ⟨hl, HOK.out⟩]; rfl, rfl⟩
      · have hd : decide ((zss.length : Int) ≤ 12) = false := by simp; omega
        go_wp2
        go_ret
        exact ⟨by rw [obF.out (fun h => by have := h.1; omega)]; rfl, rfl⟩
end Go.Proofs.Ytfkccdmjlopleaa
