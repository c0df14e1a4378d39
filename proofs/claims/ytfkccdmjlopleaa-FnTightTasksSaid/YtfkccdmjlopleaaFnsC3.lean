/- Contracts: rounds, as early as possible, the reference's. -/
import Derived.Test.YtfkccdmjlopleaaFnsC2
namespace Go.Proofs.Ytfkccdmjlopleaa
open Go.RowKit

theorem lit0 (w : World) : Row (w.alloc (.cells #[] 3)) w.heap.size (w.heap.size + 1) (.slice (some ⟨w.heap.size, 0, none⟩) 0 0) [] := ⟨World.ownsRow_lit w #[] 0 (Nat.le_refl _) (by simp [maxLen]) rfl, fun g hg => by simp [Value.ownBlock] at hg; omega⟩
section
variable (A : Option Addr) (c : Nat) (zss : List (List Int)) (w : World) (hs : SS w w.heap.size A zss) (hn : Small 2000000 zss)
include hs hn
theorem specTR_no (h : ¬ OkT zss) : Calls Try.prog 18 #[.slice A zss.length c] w fun e w' => ∃ v, e = .returned v ∧ Row w' w.heap.size w'.heap.size v [] ∧ Below w.heap.size w w' := by
  have HS := Lib.hid hs
  have HN := Lib.hid hn
  have hn1 := hn.1
  have HV := Lib.hid h
  have h0 := lit0 w
  have hb0 : Below w.heap.size w (w.alloc (.cells #[] 3)) := (Below.refl _ _).alloc (Nat.le_refl _) _
  clear hs h hn
  go_enter Try.func18, Try.ntmps18
  go_wp2
  go_loop [3, 4] (fun v i => ∃ k : Nat, k ≤ zss.length ∧ i = .int .i64 k ∧ v = .slice (some ⟨w.heap.size, 0, none⟩) 0 0) (fun _ i => zss.length - (intOf i).toNat)
  case atStart => exact ⟨0, Nat.zero_le _, rfl, rfl⟩
  case round =>
    obtain ⟨k, hk, rfl, rfl⟩ := hrel
    by_cases hlt : k < zss.length
    · go_wp2_with fail
      refine (specTV_no A c w.heap.size zss _ (HS.out.below hb0 (Nat.le_refl _)) HN.out HV.out).mono ?_
      rintro e w' ⟨rfl, rfl⟩
      go_wp2
      go_ret
      exact ⟨_, rfl, h0.wider (Nat.le_refl _) (by simp), hb0⟩
    · go_wp2
      go_ret
      exact ⟨_, rfl, h0.wider (Nat.le_refl _) (by simp), hb0⟩
set_option maxHeartbeats 1600000 in
theorem specTR_yes (h : OkT zss) : Calls Try.prog 18 #[.slice A zss.length c] w fun e w' => ∃ v, e = .returned v ∧ Row w' w.heap.size w'.heap.size v (rdsTo zss zss.length) ∧ Below w.heap.size w w' := by
  have HS := Lib.hid hs
  have HN := Lib.hid hn
  have hn1 := hn.1
  have HV := Lib.hid h
  have hl := h.1
  have h0 := lit0 w
  have hb0 : Below w.heap.size w (w.alloc (.cells #[] 3)) := (Below.refl _ _).alloc (Nat.le_refl _) _
  clear hs h hn
  go_enter Try.func18, Try.ntmps18
  go_wp2
  go_loopw [3, 4] (fun v i wr => ∃ k : Nat, k ≤ zss.length ∧ i = .int .i64 k ∧ Row wr w.heap.size wr.heap.size v (rdsTo zss k) ∧ Below w.heap.size w wr) (fun _ i _ => zss.length - (intOf i).toNat)
  case atStart => exact ⟨0, Nat.zero_le _, rfl, h0.wider (Nat.le_refl _) (by simp), hb0⟩
  case round =>
    obtain ⟨k, hk, rfl, hown, hnx⟩ := hrel
    clear h0 hb0
    by_cases hlt : k < zss.length
    · obtain ⟨b, off, A', c', rfl, hbB, hc, _, _, hsl⟩ := (HS.out.below hnx (Nat.le_refl _)).at_ hlt
      have hVal := specTV_yes (some ⟨b, off, none⟩) c w.heap.size zss wr (HS.out.below hnx (Nat.le_refl _)) HN.out HV.out
      have hW := HV.out.2 k hlt
      have hbd := rdsTo_bound k (fun t ht => HV.out.2 t (by omega))
      have hin0 := inTo_bound hW.2 hbd
      have HSUC := Lib.hid (show rdsTo zss (k + 1) = rdsTo zss k ++ [inTo (at2 zss k) (rdsTo zss k) (at2 zss k).length] from rfl)
      have HSU := Lib.hid (fun j hj => inTo_succ (at2 zss k) (rdsTo zss k) j hj)
      have hw4 := hW.1
      have HIN := Lib.hid hW.2
      have HZ := Lib.hid (inTo_zero (at2 zss k) (rdsTo zss k))
      obtain ⟨zs, hzs⟩ : ∃ zs, at2 zss k = zs := ⟨_, rfl⟩
      rw [hzs] at hc hsl HSU hw4 HIN HZ hin0 HSUC
      have hlen := rdsTo_length zss k
      obtain ⟨rd, hrd⟩ : ∃ rd, rdsTo zss k = rd := ⟨_, rfl⟩
      rw [hrd] at hown HSU HZ hin0 hlen hbd HSUC
      have HSL := Lib.hid hsl
      have HBD := Lib.hid hbd
      have HI0 := Lib.hid hin0
      have HOWN := Lib.hid hown
      have HLEN := Lib.hid hlen
      obtain ⟨Ar, cr, rfl, hr1, hr2, _⟩ := hown.form
      clear hzs hsl hown hW hbd hin0 hrd hlen
      go_wp2_with fail
      refine hVal.mono ?_
      rintro e w' ⟨rfl, rfl⟩
      clear hVal
      go_wp2
      go_loop [5, 6] (fun r i => ∃ j : Nat, j ≤ zs.length ∧ i = .int .i64 j ∧ r = .int .i64 (inTo zs rd j - 1)) (fun _ i => zs.length - (intOf i).toNat)
      case atStart => exact ⟨0, Nat.zero_le _, rfl, by rw [HZ.out]; rfl⟩
      case round =>
        obtain ⟨j, hj, rfl, rfl⟩ := hrel
        have hib := HI0.out j hj
        by_cases hjl : j < zs.length
        · obtain ⟨b2, off2, rfl, hb2, hc2⟩ := HSL.out.at_ hjl
          have hrange := HIN.out j hjl
          have HSN := Lib.hid (HSU.out j hjl)
          obtain ⟨z, hz⟩ : ∃ z, zs.getD j 0 = z := ⟨_, rfl⟩
          rw [hz] at hc2 HSN hrange
          clear hz
          obtain ⟨m, rfl⟩ := Int.eq_ofNat_of_zero_le hrange.1
          have hmk : m < k := by omega
          have hrb := HBD.out m hmk
          have hrl : m < rd.length := by have := HLEN.out; omega
          obtain ⟨g2, hg2, _, _, hc4, hf4⟩ := HOWN.out.cell_ (j := m) hrl
          subst hg2
          rw [show ((m : Int)).toNat = m from rfl] at HSN
          obtain ⟨x, hx⟩ : ∃ x, rd.getD m 0 = x := ⟨_, rfl⟩
          rw [hx] at hc4 HSN hrb
          clear hx
          obtain ⟨q, hq⟩ : ∃ q, inTo zs rd j = q := ⟨_, rfl⟩
          rw [hq] at HSN hib ⊢
          clear hq hrange
          go_wp2
          go_round
          case rel => exact ⟨j + 1, by omega, by go_num, by rw [HSN.out]; congr 1; split <;> omega⟩
          case measure => simp [intOf]; omega
        · have e : j = zs.length := by omega
          subst e
          obtain ⟨q, hq⟩ : ∃ q, inTo zs rd zs.length = q := ⟨_, rfl⟩
          rw [hq] at hib HSUC ⊢
          clear hq
          have hsz := hnx.size
          have hlow := Lib.hid HOWN.out.block_lt
          have hal := (World.grownBy_alloc wr (.cells #[.int .i64 q] 3) none)
          have hownA := (HOWN.out.grown hal (fun g e => by cases e)).wider (Nat.le_refl _) (hi' := wr.heap.size + 1) (by omega)
          have hl3 : rd.length ≤ 2000000 := by have := HLEN.out; omega
          have hq1 : q - 1 + 1 = q := by omega
          go_wp2_with (at_builtin; go_loud (refine wpList_app1 rfl (.tmp 39) (.tmp 42) rfl w.heap.size (wr.heap.size + 1) _ rd rfl hownA wr.heap.size q rfl (World.cell?_alloc_at _ _ _ _ rfl) hl3 (by simp; omega) ?_); intro v' w3 hown3 hgrow3)
          go_roundw
          case rel =>
            refine ⟨k + 1, by omega, by go_num, ?_, ?_⟩
            · rw [HSUC.out]
              exact hown3
            · exact (hnx.alloc hsz _).grown hgrow3 (by simp; omega) (fun g e => (hlow.out g e).1)
          case measure => simp [intOf]; omega
    · have e : k = zss.length := by omega
      subst e
      go_wp2
      go_ret
      exact ⟨_, rfl, hown, hnx⟩
end

open Classical in
noncomputable def roundsP (zss : List (List Int)) : List Int := if OkT zss then rdsTo zss zss.length else []
theorem roundsP_len (zss : List (List Int)) (h : zss.length ≤ 1048576) : (roundsP zss).length ≤ 1048576 := by
  unfold roundsP
  split
  · rw [rdsTo_length]; exact h
  · simp
theorem RowSS.ss_now {w : World} {lo hi : Nat} {A : Option Addr} {c : Nat} {zss : List (List Int)} (h : RowSS w lo hi (.slice A zss.length c) zss) : SS w hi A zss := by
  obtain ⟨A', c', hv, _, _, hs⟩ := h.form
  injection hv with h1
  subst h1
  exact hs
section
variable (A : Option Addr) (c : Nat) (zss : List (List Int)) (w : World) (hs : SS w w.heap.size A zss) (hn : Small 2000000 zss)
include hs hn
theorem implTR_any : Calls Try.prog 19 #[.slice A zss.length c] w fun e w' => ∃ v, e = .returned v ∧ Row w' w.heap.size w'.heap.size v (roundsP zss) ∧ Below w.heap.size w w' := by
  unfold roundsP
  split
  · rename_i h
    exact implTR_yes A c zss w hs hn h
  · rename_i h
    exact (implTR_no A c zss w hs hn h).mono fun e w' ⟨h1, h2⟩ => ⟨_, h1, Row.nil_ _ _ _, h2 ▸ Below.refl _ _⟩
theorem specTR_any : Calls Try.prog 18 #[.slice A zss.length c] w fun e w' => ∃ v, e = .returned v ∧ Row w' w.heap.size w'.heap.size v (roundsP zss) ∧ Below w.heap.size w w' := by
  unfold roundsP
  split
  · rename_i h
    exact specTR_yes A c zss w hs hn h
  · rename_i h
    exact specTR_no A c zss w hs hn h
end
end Go.Proofs.Ytfkccdmjlopleaa
