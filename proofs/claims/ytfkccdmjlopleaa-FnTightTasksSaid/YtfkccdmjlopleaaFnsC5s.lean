/- Contracts: rounds, as late as possible, the reference's. -/
import Derived.Test.YtfkccdmjlopleaaFnsC3
import Derived.Test.YtfkccdmjlopleaaPlainC4
import Derived.StillTailTactics
import Derived.BigRegion
import Derived.Deep.RegionHeld3
import Derived.Deep.Cut
namespace Go.Proofs.Ytfkccdmjlopleaa
open Go.RowKit

theorem lateP_rounds (zss : List (List Int)) : lateP zss = lateSt zss (roundsP zss).length (maxTo (roundsP zss) (roundsP zss).length) (roundsP zss).length := by
  unfold lateP roundsP
  split
  · rw [rdsTo_length]; rfl
  · simp [lateSt]
theorem roundsP_ok (zss : List (List Int)) (h : 0 < (roundsP zss).length) : OkT zss ∧ roundsP zss = rdsTo zss zss.length := by
  unfold roundsP at *
  split
  · exact ⟨by assumption, rfl⟩
  · rename_i hh
    rw [if_neg hh] at h
    simp at h
theorem roundsP_12 (zss : List (List Int)) : (roundsP zss).length ≤ 12 := by
  unfold roundsP
  split
  · rename_i h; rw [rdsTo_length]; exact h.1
  · simp
/-- The state of the rounds while task k's waits are gone through: what the walks want of it. -/
theorem late_all {zss : List (List Int)} {es : List Int} (he : roundsP zss = es) {L : Nat} (hL : es.length = L) {q : Int} (hq : maxTo es L = q) (t : Nat) (ht : t < L) (k : Nat) (hk : k = L - 1 - t) :
    zss.length = L ∧ k < L ∧ okW (at2 zss k) k ∧ (inL (at2 zss k) k (lateSt zss L q t) (at2 zss k).length = lateSt zss L q (t + 1)) ∧
    ∀ j, j ≤ (at2 zss k).length → (inL (at2 zss k) k (lateSt zss L q t) j).length = L ∧ ∀ i, i < L → 1 ≤ (inL (at2 zss k) k (lateSt zss L q t) j).getD i 0 ∧ (inL (at2 zss k) k (lateSt zss L q t) j).getD i 0 ≤ 12 := by
  obtain ⟨h, he2⟩ := roundsP_ok zss (by rw [he]; omega)
  rw [he] at he2
  subst he2
  rw [rdsTo_length] at hL
  subst hL
  subst hq
  subst hk
  have hk : zss.length - 1 - t < zss.length := by omega
  refine ⟨rfl, hk, h.2 _ hk, rfl, fun j hj => late_mid h t ht j hj⟩
section
variable (A : Option Addr) (c : Nat) (zss : List (List Int)) (w : World) (hs : SS w w.heap.size A zss) (hn : Small 2000000 zss)
include hs hn
set_option maxHeartbeats 1600000 in
theorem specLR_any : Calls Try.prog 26 #[.slice A zss.length c] w fun e w' => ∃ v, e = .returned v ∧ Row w' w.heap.size w'.heap.size v (lateP zss) ∧ Below w.heap.size w w' := by
  have hcall := specTR_any A c zss w hs hn
  have HP := Lib.hid (lateP_rounds zss)
  have h12 := roundsP_12 zss
  obtain ⟨es, hes⟩ : ∃ es, roundsP zss = es := ⟨_, rfl⟩
  rw [hes] at hcall h12 HP
  obtain ⟨L, hL⟩ : ∃ L, es.length = L := ⟨_, rfl⟩
  obtain ⟨q, hq⟩ : ∃ q, maxTo es L = q := ⟨_, rfl⟩
  have HALL := Lib.hid (fun t ht k hk => late_all hes hL hq t ht k hk)
  have HSU := Lib.hid (fun k hk => maxTo_succ es k hk)
  have HZ := Lib.hid (maxTo_zero es)
  have HQ := Lib.hid hq
  have HL := Lib.hid hL
  rw [hL] at h12 HP
  rw [hq] at HP
  have HS := Lib.hid hs
  have HN := Lib.hid hn
  have hn1 := hn.1
  clear hs hn hes hq
  go_enter Try.func26, Try.ntmps26
  go_wp2_with fail
  refine hcall.mono ?_
  rintro e w1 ⟨v1, rfl, hr1, hb1⟩
  clear hcall
  obtain ⟨Ae, ce, rfl, he1, he2, hsl1⟩ := hr1.form
  have HSL1 := Lib.hid hsl1
  have HB1 := Lib.hid hb1
  rw [hL] at he1 ⊢
  clear hr1 hsl1 hb1 hL
  go_wp2
  go_loop [3, 5] (fun r i => ∃ k : Nat, k ≤ L ∧ i = .int .i64 k ∧ r = .int .i64 (maxTo es k)) (fun _ i => L - (intOf i).toNat)
  case atStart => exact ⟨0, Nat.zero_le _, rfl, by rw [HZ.out]⟩
  case round =>
    obtain ⟨k, hk, rfl, rfl⟩ := hrel
    by_cases hlt : k < L
    · obtain ⟨b2, off2, rfl, hb2, hc2⟩ := HSL1.out.at_ (k := k) (by rw [HL.out]; exact hlt)
      have HNN := Lib.hid (HSU.out k (by rw [HL.out]; exact hlt))
      obtain ⟨z, hz⟩ : ∃ z, es.getD k 0 = z := ⟨_, rfl⟩
      rw [hz] at hc2 HNN
      obtain ⟨p, hp⟩ : ∃ p, maxTo es k = p := ⟨_, rfl⟩
      rw [hp] at HNN ⊢
      clear hz hp
      go_wp2
      go_round
      case rel => exact ⟨k + 1, by omega, by go_num, by rw [HNN.out]; congr 1; split <;> omega⟩
      case measure => simp [intOf]; omega
    · have e : k = L := by omega
      subst e
      rw [HQ.out]
      have h0 := (lit0 w1).wider (Nat.le_refl _) (hi' := (w1.alloc (.cells #[] 3)).heap.size) (by simp)
      have hb0 : Below w1.heap.size w1 (w1.alloc (.cells #[] 3)) := (Below.refl _ _).alloc (Nat.le_refl _) _
      go_wp2
      go_loopw [6, 7] (fun v i wr => ∃ t : Nat, t ≤ k ∧ i = .int .i64 t ∧ Row wr w1.heap.size wr.heap.size v (List.replicate t q) ∧ Below w1.heap.size w1 wr) (fun _ i _ => k - (intOf i).toNat)
      case atStart => exact ⟨0, Nat.zero_le _, rfl, h0, hb0⟩
      case round =>
        obtain ⟨t, ht, rfl, hown, hnx⟩ := hrel
        clear h0 hb0
        by_cases htl : t < k
        · have hsz := hnx.size
          have HOWN := Lib.hid hown
          have hlow := Lib.hid hown.block_lt
          have hal := (World.grownBy_alloc wr (.cells #[.int .i64 q] 3) none)
          have hownA := (hown.grown hal (fun g e => by cases e)).wider (Nat.le_refl _) (hi' := wr.heap.size + 1) (by omega)
          have hl3 : (List.replicate t q).length ≤ 2000000 := by simp; omega
          have HRS := Lib.hid (show List.replicate t q ++ [q] = List.replicate (t + 1) q by rw [List.replicate_succ'])
          obtain ⟨ys, hys⟩ : ∃ ys, List.replicate t q = ys := ⟨_, rfl⟩
          rw [hys] at hown HOWN hownA hl3 HRS
          obtain ⟨Ar, cr, rfl, hr1, hr2, _⟩ := hown.form
          clear hown hys
          go_wp2_with (at_builtin; go_loud (refine wpList_app1 rfl (.tmp 31) (.tmp 33) rfl w1.heap.size (wr.heap.size + 1) _ ys rfl hownA wr.heap.size q rfl (World.cell?_alloc_at _ _ _ _ rfl) hl3 (by simp; omega) ?_); intro v' w3 hown3 hgrow3)
          go_roundw
          case rel =>
            refine ⟨t + 1, by omega, by go_num, ?_, ?_⟩
            · rw [← HRS.out]; exact hown3
            · exact (hnx.alloc hsz _).grown hgrow3 (by simp; omega) (fun g e => (hlow.out g e).1)
          case measure => simp [intOf]; omega
        · have e : t = k := by omega
          subst e
          have hst : List.replicate t q = lateSt zss t q 0 := rfl
          rw [hst] at hown
          have hlen := lateSt_length zss t q 0
          obtain ⟨Ar, cr, rfl, hr1, hr2, _⟩ := hown.form
          rw [hlen] at hown hr1 ⊢
          have hbw := HB1.out.trans (hnx.mono HB1.out.size)
          have hsz1 := hnx.size
          have hsz0 := HB1.out.size
          obtain ⟨W, rfl⟩ : ∃ W, W = wr := ⟨_, rfl⟩
          clear hst hlen
          go_wp2
          go_loopw [8] (fun i wr => ∃ d : Nat, d ≤ t ∧ i = .int .i64 ((t : Int) - 1 - d) ∧ Row wr w1.heap.size W.heap.size (.slice Ar t cr) (lateSt zss t q d) ∧ Below w.heap.size w wr ∧ W.heap.size ≤ wr.heap.size) (fun i _ => (intOf i + 1).toNat)
          case atStart => exact ⟨0, Nat.zero_le _, by congr 1; omega, hown, hbw, Nat.le_refl _⟩
          case round =>
            obtain ⟨d, hd, rfl, hown, hnx, hsz⟩ := hrel
            clear hbw
            by_cases hdl : d < t
            · obtain ⟨k, hk⟩ : ∃ k, k = t - 1 - d := ⟨_, rfl⟩
              obtain ⟨a1, a2, a3, a4, a5⟩ := HALL.out d hdl k hk
              have hv : (t : Int) - 1 - d = (k : Int) := by omega
              rw [hv]
              obtain ⟨b, off, A', c', rfl, hbB, hc, _, _, hsl⟩ := (HS.out.below hnx (Nat.le_refl _)).at_ (k := k) (by omega)
              have HSUC := Lib.hid (fun j hj => inL_succ (at2 zss k) k (lateSt zss t q d) j hj)
              have HI0 := Lib.hid (inL_zero (at2 zss k) k (lateSt zss t q d))
              have HA4 := Lib.hid a4
              have HA5 := Lib.hid a5
              have hw4 := a3.1
              have HIN := Lib.hid a3.2
              have hkz : (k : Int) < (zss.length : Int) := by omega
              have hkt : (k : Int) < (t : Int) := by omega
              have hk0 : (0 : Int) ≤ (k : Int) := by omega
              obtain ⟨zs, hzs⟩ : ∃ zs, at2 zss k = zs := ⟨_, rfl⟩
              rw [hzs] at hc hsl HSUC HI0 HA4 HA5 hw4 HIN
              obtain ⟨st, hst⟩ : ∃ st, lateSt zss t q d = st := ⟨_, rfl⟩
              rw [hst] at hown HSUC HI0 HA4 HA5
              have HSL := Lib.hid (hsl.keep (w' := w) (fun _ hp => (hnx.cell hp).symm))
              have HC := Lib.hid ((hnx.cell (p := ⟨b, off + k, none⟩) hbB).symm.trans hc)
              have hk12 : k ≤ 11 := by omega
              have HKD := Lib.hid hk
              clear a1 a3 a4 a5 hzs hst hsl hc hk hv
              go_wp2
              go_loopw [9] (fun i wq => ∃ j : Nat, j ≤ zs.length ∧ i = .int .i64 j ∧ Row wq w1.heap.size W.heap.size (.slice Ar t cr) (inL zs k st j) ∧ Below w.heap.size w wq ∧ W.heap.size ≤ wq.heap.size) (fun i _ => zs.length - (intOf i).toNat)
              case atStart => exact ⟨0, Nat.zero_le _, rfl, by rw [HI0.out]; exact hown, hnx, hsz⟩
              case round =>
                obtain ⟨j, hj, rfl, hown, hnq, hsq⟩ := hrel
                clear hnx hsz
                obtain ⟨hln, hbd⟩ := HA5.out j hj
                have hc := (hnq.cell (p := ⟨b, off + k, none⟩) hbB).trans HC.out
                by_cases hjl : j < zs.length
                · obtain ⟨b2, off2, rfl, hb2, hc2⟩ := ((HSL.out.below hnq (Nat.le_refl _))).at_ hjl
                  have hrange := HIN.out j hjl
                  have HSN := Lib.hid (HSUC.out j hjl)
                  obtain ⟨z, hz⟩ : ∃ z, zs.getD j 0 = z := ⟨_, rfl⟩
                  rw [hz] at hc2 HSN hrange
                  clear hz
                  obtain ⟨m, rfl⟩ := Int.eq_ofNat_of_zero_le hrange.1
                  have hmk : m < k := by omega
                  have hrb := hbd m (by omega)
                  have hrk := hbd k (by omega)
                  obtain ⟨sj, hsj⟩ : ∃ sj, inL zs k st j = sj := ⟨_, rfl⟩
                  rw [hsj] at hown HSN hrb hrk hln
                  rw [show ((m : Int)).toNat = m from rfl] at HSN
                  clear hsj hbd
                  obtain ⟨g1, hg1, gl1, gl2, hc3, hf3⟩ := hown.cell_ (j := k) (by rw [hln]; omega)
                  cases hg1
                  obtain ⟨g2, hg2, _, _, hc4, hf4⟩ := hown.cell_ (j := m) (by rw [hln]; omega)
                  cases hg2
                  obtain ⟨x, hx⟩ : ∃ x, sj.getD m 0 = x := ⟨_, rfl⟩
                  rw [hx] at hc4 HSN hrb
                  obtain ⟨y, hy⟩ : ∃ y, sj.getD k 0 = y := ⟨_, rfl⟩
                  rw [hy] at hc3 HSN hrk
                  have S2 := Lib.hid ((hown.stored m (min x (y - 1))).1)
                  have hmn : (m : Int) < (t : Int) := by omega
                  have hjz : (j : Int) < (zs.length : Int) := by omega
                  obtain ⟨r1, r2⟩ := hrb
                  obtain ⟨r3, r4⟩ := hrk
                  clear hx hy hown hrange hln
                  go_upto_region 18 with fail
                  refine wp_region_still_tail 25 (by kernel_rfl) (by kernel_rfl) ?_
                  simp only [List.take_succ_cons, List.take_zero, List.drop_succ_cons, List.drop_zero]
                  change wpStill Try.prog _ wr.drew (fun a' => wpList Try.prog _ _ _ a' wr.drew) _ _
                  repeat still_step
                  refine wpStill_nil ?_
                  go_wp2
                  have hmx : (if y - 1 < x then y - 1 else x) = min x (y - 1) := by split <;> omega
                  rw [hmx]
                  have hD : Drew (wr.setCell ⟨g1, m, none⟩ (.int .i64 (min x (y - 1)))) (wr.setCell ⟨g1, m, none⟩ (.int .i64 (min x (y - 1)))).drew := ⟨1, rfl⟩
                  have HB2 := Lib.hid ((hnq.setCell (p := ⟨g1, m, none⟩) (by show w.heap.size ≤ g1; omega) (.int .i64 (min x (y - 1)))).trans (hD.below _))
                  have HS2 := Lib.hid (hD.row S2.out)
                  have HZ2 := Lib.hid (show W.heap.size ≤ (wr.setCell ⟨g1, m, none⟩ (.int .i64 (min x (y - 1)))).drew.heap.size by rw [hD.size]; simpa using hsq)
                  clear hD
                  go_roundw
                  case rel => exact ⟨j + 1, by omega, by go_num, by rw [HSN.out]; exact HS2.out, HB2.out, HZ2.out⟩
                  case measure => simp [intOf]; omega
                · have e : j = zs.length := by omega
                  subst e
                  rw [HA4.out] at hown
                  go_wp2
                  go_roundw
                  case rel => exact ⟨d + 1, by omega, by rw [show (t : Int) - 1 - ((d + 1 : Nat) : Int) = (k : Int) - 1 by have := HKD.out; omega], hown, hnq, hsq⟩
                  case measure => simp [intOf] <;> omega
            · have e : d = t := by omega
              subst e
              have hv : (d : Int) - 1 - d = -1 := by omega
              rw [hv]
              go_wp2
              go_ret
              exact ⟨_, rfl, by rw [HP.out]; exact hown.wider (by omega) hsz, hnx⟩
end
end Go.Proofs.Ytfkccdmjlopleaa
