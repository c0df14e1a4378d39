/- The walks of the laws: means are in the middle; ranges do not depend on signs. -/
import Derived.Test.YtdmgaemplhcfmaaDrawP2
import Derived.Test.YtdmgaemplhcfmaaPlainB2
namespace Go.Proofs.Ytdmgaemplhcfmaa
open Go.RowKit

set_option maxHeartbeats 1600000 in
theorem law_FnMeanOf (w : World) (A : Option Addr) (n c : Nat) (h0 : Code8 w A n ∧ n ≤ c ∧ c ≤ maxLen) :
    Calls Try.prog 4 #[.slice A n c] w fun e w' => e = .returned (.bool true) ∧ Below w.heap.size w w' := by
  obtain ⟨hc, hnc, hcm⟩ := h0
  have hcm' := hcm
  unfold maxLen at hcm'
  by_cases hn : 1048576 < n
  · go_enter Try.func4, Try.ntmps4
    go_wp2
    go_ret
    exact ⟨rfl, Below.refl _ _⟩
  have hd1 : decide ((1048576 : Int) < (n : Int)) = false := by simp; omega
  go_enter Try.func4, Try.ntmps4
  go_wp2_with fail
  refine (drawMeanOf A n c w (by omega) hnc hcm hc).mono ?_
  rintro e w1 ⟨v, zs, rfl, hrow, hlen, hb⟩
  obtain ⟨A1, c1, rfl, hl1, hcm1, hs1⟩ := hrow.form
  have HS1 := Lib.hid hs1
  clear hrow hs1
  go_wp2_with fail
  refine (implMean_any A1 c1 zs w1 HS1.out (by omega)).mono ?_
  rintro e w1' ⟨rfl, rfl⟩
  go_wp2_with fail
  refine (specMean_any A1 c1 zs w1 HS1.out (by omega)).mono ?_
  rintro e w1' ⟨rfl, rfl⟩
  rcases meanP_cases zs with ⟨hok, hm⟩ | ⟨hok, hm⟩
  · rw [hm]
    have hmb := meanV_wide hok
    have hbt := mean_between hok
    have hl := hok.1
    have hms := mean_shift hok 3
    obtain ⟨m, hme⟩ : ∃ m, meanV zs = m := ⟨_, rfl⟩
    rw [hme] at hmb hbt hms ⊢
    have HM := Lib.hid hme
    have HOK := Lib.hid hok
    have HMS := Lib.hid hms
    clear hm hme hok hms
    obtain ⟨b, off, rfl, hbB, hc0⟩ := HS1.out.at_ (k := 0) (by omega)
    have HZ1 := Lib.hid (lowTo_zero zs)
    have HZ2 := Lib.hid (highTo_zero zs)
    obtain ⟨z0, hz0⟩ : ∃ z, zs.getD 0 0 = z := ⟨_, rfl⟩
    rw [hz0, Nat.add_zero] at hc0
    rw [hz0] at HZ1 HZ2
    clear hz0
    have hown0 := lit0 w1
    have hb0 : Below w1.heap.size w1 (w1.alloc (.cells #[] 3)) := (Below.refl _ _).alloc (Nat.le_refl _) _
    go_wp2
    go_loopw [8, 9, 10, 11] (fun lo hi v i wr => ∃ k : Nat, k ≤ zs.length ∧ i = .int .i64 k ∧ lo = .int .i64 (lowTo zs k) ∧ hi = .int .i64 (highTo zs k) ∧ Row wr w1.heap.size wr.heap.size v ((zs.take k).map fun z => z + 3) ∧ Below w1.heap.size w1 wr) (fun _ _ _ i _ => zs.length - (intOf i).toNat)
    case atStart => exact ⟨0, Nat.zero_le _, rfl, by rw [HZ1.out], by rw [HZ2.out], hown0.wider (Nat.le_refl _) (by simp), hb0⟩
    case round =>
      obtain ⟨k, hk, rfl, rfl, rfl, hown, hnx⟩ := hrel
      clear hown0 hb0
      by_cases hlt : k < zs.length
      · obtain ⟨b', off', h3, _, hc1⟩ := (HS1.out.below hnx (Nat.le_refl _)).at_ hlt
        cases h3
        have HT := Lib.hid (map_take_succ (fun z => z + 3) zs k hlt)
        have HSU := Lib.hid (lowTo_succ zs k hlt)
        have HSU2 := Lib.hid (highTo_succ zs k hlt)
        have hz2 := HOK.out.getD hlt
        obtain ⟨z, hz⟩ : ∃ z, zs.getD k 0 = z := ⟨_, rfl⟩
        rw [hz] at hc1 HT hz2 HSU HSU2
        clear hz
        obtain ⟨s, hse⟩ : ∃ s, lowTo zs k = s := ⟨_, rfl⟩
        rw [hse] at HSU ⊢
        clear hse
        obtain ⟨t, hte⟩ : ∃ s, highTo zs k = s := ⟨_, rfl⟩
        rw [hte] at HSU2 ⊢
        clear hte
        have hylen : ((zs.take k).map fun z => z + 3).length = k := by simp; omega
        obtain ⟨ys, hys⟩ : ∃ ys, ((zs.take k).map fun z => z + 3) = ys := ⟨_, rfl⟩
        rw [hys] at HT hown hylen
        clear hys
        have hsz := hnx.size
        have hlow := Lib.hid (fun g' (hg' : u10.ownBlock = some g') => hown.block_lt g' hg')
        have hal := (World.grownBy_alloc wr (.cells #[.int .i64 (z + 3)] 3) none)
        have hownA := (hown.grown hal (fun g e => by cases e)).wider (Nat.le_refl _) (hi' := wr.heap.size + 1) (by omega)
        clear hown
        go_wp2_with (at_builtin; go_loud (refine wpList_app1 rfl (.tmp 69) (.tmp 75) rfl w1.heap.size (wr.heap.size + 1) u10 ys rfl hownA wr.heap.size (z + 3) rfl (World.cell?_alloc_at _ _ _ _ rfl) (by omega) (by simp; omega) ?_); intro v' w3 hown3 hgrow3)
        go_roundw
        case rel =>
          refine ⟨k + 1, by omega, by go_num, by rw [HSU.out]; congr 1; split <;> omega, by rw [HSU2.out]; congr 1; split <;> omega, ?_, ?_⟩
          · rw [HT.out]
            exact hown3
          · exact (hnx.alloc hsz _).grown hgrow3 (by simp; omega) (fun g e => (hlow.out g e).1)
        case measure => simp [intOf]; omega
      · have e : k = zs.length := by omega
        subst e
        rw [List.take_of_length_le (Nat.le_refl _)] at hown
        have hxl : (zs.map fun z => z + 3).length = zs.length := List.length_map ..
        have hxc := meanP_cases (zs.map fun z => z + 3)
        have hms := HMS.out
        obtain ⟨xs, hxs⟩ : ∃ xs, (zs.map fun z => z + 3) = xs := ⟨_, rfl⟩
        rw [hxs] at hown hxl hxc hms
        clear hxs
        obtain ⟨A2, c2, rfl, _, _, hs2⟩ := hown.form
        have hM := implMean_any A2 c2 xs wr hs2 (by omega)
        rw [hxl] at hM ⊢
        clear hs2 hown
        obtain ⟨lo, hlo⟩ : ∃ s, lowTo zs zs.length = s := ⟨_, rfl⟩
        obtain ⟨hi, hhi⟩ : ∃ s, highTo zs zs.length = s := ⟨_, rfl⟩
        rw [hlo, hhi] at hbt ⊢
        clear hlo hhi
        go_wp2_with fail
        refine hM.mono ?_
        rintro e w' ⟨rfl, rfl⟩
        rcases hxc with ⟨_, hx⟩ | ⟨_, hx⟩
        · rw [hx, hms]
          clear hM hx
          go_wp2
          go_ret
          exact ⟨rfl, hb.trans (hnx.mono hb.size)⟩
        · rw [hx]
          clear hM hx
          go_wp2
          go_ret
          exact ⟨rfl, hb.trans (hnx.mono hb.size)⟩
  · rw [hm]
    clear hm
    go_wp2_with fail
    refine (alive_any _).mono ?_
    rintro e w' ⟨rfl, rfl⟩
    go_wp2
    go_ret
    exact ⟨rfl, hb⟩
end Go.Proofs.Ytdmgaemplhcfmaa
