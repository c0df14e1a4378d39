/- The walks of the laws: ranges do not depend on signs; centered numbers are near 0. -/
import Derived.Test.YtdmgaemplhcfmaaDrawP2
import Derived.Test.YtdmgaemplhcfmaaPlainB2
namespace Go.Proofs.Ytdmgaemplhcfmaa
open Go.RowKit

theorem Sl.take {w : World} {B : Nat} {A : Option Addr} {zs : List Int} (h : Sl w B A zs) (n : Nat) (hn : n ≤ zs.length) : Sl w B A (zs.take n) := by
  obtain ⟨b, off, h1, h2⟩ := h
  refine ⟨b, off, fun hp => h1 (by simp at hp; omega), fun j hj => ?_⟩
  have hj' : j < n := by simp at hj; omega
  rw [h2 j (by omega)]
  simp [List.getElem?_take, hj']

set_option maxHeartbeats 1600000 in
theorem law_FnRangeOf (w : World) (A : Option Addr) (n c : Nat) (h0 : Code8 w A n ∧ n ≤ c ∧ c ≤ maxLen) :
    Calls Try.prog 8 #[.slice A n c] w fun e w' => e = .returned (.bool true) ∧ Below w.heap.size w w' := by
  obtain ⟨hc, hnc, hcm⟩ := h0
  have hcm' := hcm
  unfold maxLen at hcm'
  by_cases hn : 1048576 < n
  · go_enter Try.func8, Try.ntmps8
    go_wp2
    go_ret
    exact ⟨rfl, Below.refl _ _⟩
  have hd1 : decide ((1048576 : Int) < (n : Int)) = false := by simp; omega
  go_enter Try.func8, Try.ntmps8
  go_wp2_with fail
  refine (drawRangeOf A n c w (by omega) hnc hcm hc).mono ?_
  rintro e w1 ⟨v, zs, rfl, hrow, hlen, hb⟩
  obtain ⟨A1, c1, rfl, hl1, hcm1, hs1⟩ := hrow.form
  have HS1 := Lib.hid hs1
  clear hrow hs1
  go_wp2_with fail
  refine (implRange_any A1 c1 zs w1 HS1.out (by omega)).mono ?_
  rintro e w1' ⟨rfl, rfl⟩
  go_wp2_with fail
  refine (specRange_any A1 c1 zs w1 HS1.out (by omega)).mono ?_
  rintro e w1' ⟨rfl, rfl⟩
  rcases rangeP_cases zs with ⟨hok, hr⟩ | ⟨hok, hr⟩
  · have hl := hok.1
    have HNEG := Lib.hid (rangeP_neg hok)
    have HONE := Lib.hid (range_one hok)
    have HOK := Lib.hid hok
    obtain ⟨r, hre⟩ : ∃ r, rangeP zs = r := ⟨_, rfl⟩
    rw [hre] at hr HNEG ⊢
    have HRE := Lib.hid hre
    clear hre hok
    have hown0 := lit0 w1
    have hb0 : Below w1.heap.size w1 (w1.alloc (.cells #[] 3)) := (Below.refl _ _).alloc (Nat.le_refl _) _
    have dr : decide (r < 0) = false := by simp; omega
    go_wp2
    go_loopw [5, 6] (fun v i wr => ∃ k : Nat, k ≤ zs.length ∧ i = .int .i64 k ∧ Row wr w1.heap.size wr.heap.size v ((zs.take k).map fun z => -z) ∧ Below w1.heap.size w1 wr) (fun _ i _ => zs.length - (intOf i).toNat)
    case atStart => exact ⟨0, Nat.zero_le _, rfl, hown0.wider (Nat.le_refl _) (by simp), hb0⟩
    case round =>
      obtain ⟨k, hk, rfl, hown, hnx⟩ := hrel
      clear hown0 hb0
      by_cases hlt : k < zs.length
      · obtain ⟨b', off', rfl, _, hc1⟩ := (HS1.out.below hnx (Nat.le_refl _)).at_ hlt
        have HT := Lib.hid (map_take_succ (fun z => -z) zs k hlt)
        have hz2 := HOK.out.getD hlt
        obtain ⟨z, hz⟩ : ∃ z, zs.getD k 0 = z := ⟨_, rfl⟩
        rw [hz] at hc1 HT hz2
        clear hz
        have hylen : ((zs.take k).map fun z => -z).length = k := by simp; omega
        obtain ⟨ys, hys⟩ : ∃ ys, ((zs.take k).map fun z => -z) = ys := ⟨_, rfl⟩
        rw [hys] at HT hown hylen
        clear hys
        have hsz := hnx.size
        have hlow := Lib.hid (fun g' (hg' : u5.ownBlock = some g') => hown.block_lt g' hg')
        have hal := (World.grownBy_alloc wr (.cells #[.int .i64 (-z)] 3) none)
        have hownA := (hown.grown hal (fun g e => by cases e)).wider (Nat.le_refl _) (hi' := wr.heap.size + 1) (by omega)
        clear hown
        go_wp2_with (at_builtin; go_loud (refine wpList_app1 rfl (.tmp 32) (.tmp 38) rfl w1.heap.size (wr.heap.size + 1) u5 ys rfl hownA wr.heap.size (-z) rfl (World.cell?_alloc_at _ _ _ _ rfl) (by omega) (by simp; omega) ?_); intro v' w3 hown3 hgrow3)
        go_roundw
        case rel =>
          refine ⟨k + 1, by omega, by go_num, ?_, ?_⟩
          · rw [HT.out]
            exact hown3
          · exact (hnx.alloc hsz _).grown hgrow3 (by simp; omega) (fun g e => (hlow.out g e).1)
        case measure => simp [intOf]; omega
      · have e : k = zs.length := by omega
        subst e
        rw [List.take_of_length_le (Nat.le_refl _)] at hown
        have hxl : (zs.map fun z => -z).length = zs.length := List.length_map ..
        obtain ⟨xs, hxs⟩ : ∃ xs, (zs.map fun z => -z) = xs := ⟨_, rfl⟩
        rw [hxs] at hown hxl HNEG
        clear hxs
        obtain ⟨A2, c2, rfl, _, _, hs2⟩ := hown.form
        have hM := implRange_any A2 c2 xs wr hs2 (by omega)
        have hT := implRange_any A1 c1 (zs.take 1) wr (((HS1.out.below hnx (Nat.le_refl _)).take 1 (by omega)).more hnx.size) (by simp; omega)
        rw [show (zs.take 1).length = 1 by simp; omega, HONE.out] at hT
        rw [hxl, HNEG.out] at hM
        rw [hxl]
        obtain ⟨b', off', rfl, _, _⟩ := HS1.out.at_ (k := 0) (by omega)
        clear hs2 hown
        go_wp2_with fail
        refine hM.mono ?_
        rintro e w' ⟨rfl, rfl⟩
        go_wp2_with fail
        refine hT.mono ?_
        rintro e w' ⟨rfl, rfl⟩
        clear hM hT
        go_wp2
        go_ret
        exact ⟨rfl, hb.trans (hnx.mono hb.size)⟩
  · rw [hr]
    clear hr
    go_wp2_with fail
    refine (alive_any _).mono ?_
    rintro e w' ⟨rfl, rfl⟩
    go_wp2
    go_ret
    exact ⟨rfl, hb⟩
end Go.Proofs.Ytdmgaemplhcfmaa
