/- Contracts: centered lists. -/
import Derived.Test.YtdmgaemplhcfmaaFnsB2
namespace Go.Proofs.Ytdmgaemplhcfmaa
open Go.RowKit

theorem map_getD (f : Int → Int) (zs : List Int) (k : Nat) (hk : k < zs.length) : (zs.map f).getD k 0 = f (zs.getD k 0) := by simp [hk]
theorem map_take_succ (f : Int → Int) (zs : List Int) (k : Nat) (hk : k < zs.length) : (zs.take (k + 1)).map f = (zs.take k).map f ++ [f (zs.getD k 0)] := by
  have e3 : zs.take (k + 1) = zs.take k ++ [zs.getD k 0] := by rw [List.take_add_one, List.getElem?_eq_getElem hk]; simp [hk]
  rw [e3, List.map_append]
  rfl
theorem made_row (w : World) (n : Nat) (hn : n ≤ 2000000) : Row (w.alloc (.cells (madeCells #[Value.int .i64 0] n) 3)) w.heap.size (w.heap.size + 1) (.slice (some ⟨w.heap.size, 0, none⟩) n n) (List.replicate n 0) := by
  refine ⟨?_, fun g hg => by simp [Value.ownBlock] at hg; omega⟩
  rw [List.length_replicate, ← madeCells_ints]
  exact World.ownsRow_lit w _ _ (Nat.le_refl _) (by simp only [maxLen]; omega) (by simp [madeCells])
theorem fill_stored {w : World} {lo hi g n c k : Nat} {ys : List Int} (hk : k < ys.length) (h : Row w lo hi (.slice (some ⟨g, 0, none⟩) n c) (fillTo ys k)) :
    Row (w.setCell ⟨g, k, none⟩ (.int .i64 (ys.getD k 0))) lo hi (.slice (some ⟨g, 0, none⟩) n c) (fillTo ys (k + 1)) := by
  rw [fillTo_succ ys k hk]
  exact (h.stored k _).1

theorem meanV_wide {zs : List Int} (h : OkL zs) : -200000 ≤ meanV zs ∧ meanV zs ≤ 200000 := by
  have hl := h.1
  obtain ⟨l0, l1⟩ := hl
  have hsb := sumL_bound h
  unfold meanV
  refine ⟨Int.le_ediv_of_mul_le (by omega) ?_, Int.ediv_le_of_le_mul (by omega) ?_⟩
  · have : (-200000 : Int) * zs.length ≤ -200000 * 1 := Int.mul_le_mul_of_nonpos_left (by omega) (by omega)
    omega
  · have : (200000 : Int) * 1 ≤ 200000 * zs.length := Int.mul_le_mul_of_nonneg_left (by omega) (by omega)
    omega

section
variable (A : Option Addr) (c B : Nat) (zs : List Int) (w : World) (hs : Sl w w.heap.size A zs) (hn : zs.length ≤ 4611686018427387904)
include hs hn
theorem implCenter_no (h : ¬ OkL zs) : Calls Try.prog 22 #[.slice A zs.length c] w fun e w' => e = .returned (.slice none 0 0) ∧ w = w' := by
  have HS := Lib.hid hs
  clear hs
  go_enter Try.func22, Try.ntmps22
  go_wp2_with fail
  refine (implMean_no A c _ zs w HS.out hn h).mono ?_
  rintro e w' ⟨rfl, rfl⟩
  go_wp2
  go_ret
  exact ⟨rfl, rfl⟩
set_option maxHeartbeats 400000 in
theorem implCenter_yes (h : OkL zs) : Calls Try.prog 22 #[.slice A zs.length c] w fun e w' => ∃ v, e = .returned v ∧ Row w' w.heap.size w'.heap.size v (zs.map (fun z => z - meanV zs)) ∧ Below w.heap.size w w' := by
  have HS := Lib.hid hs
  have HV := Lib.hid h
  have hl := h.1
  obtain ⟨l0, l1⟩ := hl
  have hmb := meanV_wide h
  have hM := implMean_yes A c _ zs w hs hn h
  obtain ⟨m, hm⟩ : ∃ m, meanV zs = m := ⟨_, rfl⟩
  rw [hm] at hmb hM
  have HM := Lib.hid hm
  rw [hm]
  clear hs h hm
  have hmk := run_make_row' (P := Try.prog) 22 3 (.int .i64 0) 8 Try.underlying22 info_int rfl .i64 .i64 zs.length (by omega) (by omega)
  go_enter Try.func22, Try.ntmps22
  go_wp2_with fail
  refine hM.mono ?_
  rintro e w' ⟨rfl, rfl⟩
  clear hM
  go_wp2
  clear hmk
  have h0 := made_row w zs.length (by omega)
  go_loopw [20] (fun i wr => ∃ k : Nat, k ≤ zs.length ∧ i = .int .i64 k ∧ Row wr w.heap.size (w.heap.size + 1) (.slice (some ⟨w.heap.size, 0, none⟩) zs.length zs.length) (fillTo (zs.map fun z => z - m) k) ∧ Below w.heap.size w wr ∧ w.heap.size + 1 ≤ wr.heap.size) (fun i _ => zs.length - (intOf i).toNat)
  case atStart => exact ⟨0, Nat.zero_le _, rfl, by rw [fillTo_zero, List.length_map]; exact h0, (Below.refl _ _).alloc (Nat.le_refl _) _, by simp⟩
  case round =>
    obtain ⟨k, hk, rfl, hown, hnx, hsz⟩ := hrel
    clear h0
    by_cases hlt : k < zs.length
    · obtain ⟨b, off, rfl, hbB, hc⟩ := (HS.out.below hnx (Nat.le_refl _)).at_ hlt
      have S := Lib.hid (fill_stored (by rw [List.length_map]; exact hlt) hown)
      rw [map_getD _ zs k hlt] at S
      obtain ⟨g, hg, _, _, hu, hf⟩ := hown.cell_ (j := k) (by rw [fillTo_length _ _ (by rw [List.length_map]; exact hk), List.length_map]; exact hlt)
      cases hg
      obtain ⟨u, hu'⟩ : ∃ u, (fillTo (zs.map fun z => z - m) k).getD k 0 = u := ⟨_, rfl⟩
      rw [hu'] at hu
      have hz2 := HV.out.getD hlt
      obtain ⟨z, hz⟩ : ∃ z, zs.getD k 0 = z := ⟨_, rfl⟩
      rw [hz] at hc S hz2
      clear hown hz hu'
      go_wp2
      go_roundw
      case rel => exact ⟨k + 1, by omega, by go_num, S.out, hnx.setCell (Nat.le_refl _) _, by simpa using hsz⟩
      case measure => simp [intOf]; omega
    · have hkl : k = zs.length := by omega
      have HK := Lib.hid hkl
      clear hkl
      go_wp2
      go_ret
      have e := HK.out
      rw [e, show zs.length = (zs.map fun z => z - m).length by simp, fillTo_full] at hown
      simp only [List.length_map] at hown
      exact ⟨_, rfl, hown.wider (Nat.le_refl _) hsz, hnx⟩
theorem specCenter_no (h : ¬ OkL zs) : Calls Try.prog 21 #[.slice A zs.length c] w fun e w' => ∃ v, e = .returned v ∧ Row w' w.heap.size w'.heap.size v [] ∧ Below w.heap.size w w' := by
  have HS := Lib.hid hs
  clear hs
  go_enter Try.func21, Try.ntmps21
  go_wp2_with fail
  have hown0 : (w.alloc (.cells #[] 3)).ownsRow w.heap.size 3 1 (.slice (some ⟨w.heap.size, 0, none⟩) 0 0) 0 [] := World.ownsRow_lit w #[] 0 (Nat.le_refl _) (by simp [maxLen]) rfl
  have hb0 : Below w.heap.size w (w.alloc (.cells #[] 3)) := (Below.refl _ _).alloc (Nat.le_refl _) _
  refine (specMean_no A c w.heap.size zs _ (HS.out.below hb0 (Nat.le_refl _)) hn h).mono ?_
  rintro e w' ⟨rfl, rfl⟩
  go_wp2
  go_loop [3, 6] (fun v i => ∃ k : Nat, k ≤ zs.length ∧ i = .int .i64 k ∧ v = .slice (some ⟨w.heap.size, 0, none⟩) 0 0) (fun _ i => zs.length - (intOf i).toNat)
  case atStart => exact ⟨0, Nat.zero_le _, rfl, rfl⟩
  case round =>
    obtain ⟨k, hk, rfl, rfl⟩ := hrel
    by_cases hlt : k < zs.length
    · go_wp2
      go_ret
      exact ⟨_, rfl, ⟨hown0, fun g hg => by simp [Value.ownBlock] at hg; simp; omega⟩, hb0⟩
    · go_wp2
      go_ret
      exact ⟨_, rfl, ⟨hown0, fun g hg => by simp [Value.ownBlock] at hg; simp; omega⟩, hb0⟩
set_option maxHeartbeats 800000 in
theorem specCenter_yes (h : OkL zs) : Calls Try.prog 21 #[.slice A zs.length c] w fun e w' => ∃ v, e = .returned v ∧ Row w' w.heap.size w'.heap.size v (zs.map (fun z => z - meanV zs)) ∧ Below w.heap.size w w' := by
  obtain ⟨i0, hi, hz0, hz1, hz2⟩ := info_parts info_int
  have HS := Lib.hid hs
  have HV := Lib.hid h
  have hl := h.1
  obtain ⟨l0, l1⟩ := hl
  have hmb := meanV_wide h
  have hown0 : Row (w.alloc (.cells #[] 3)) w.heap.size (w.heap.size + 1) (.slice (some ⟨w.heap.size, 0, none⟩) 0 0) [] := ⟨World.ownsRow_lit w #[] 0 (Nat.le_refl _) (by simp [maxLen]) rfl, fun g hg => by simp [Value.ownBlock] at hg; omega⟩
  have hb0 : Below w.heap.size w (w.alloc (.cells #[] 3)) := (Below.refl _ _).alloc (Nat.le_refl _) _
  have hM := specMean_yes A c w.heap.size zs _ (HS.out.below hb0 (Nat.le_refl _)) hn h
  obtain ⟨m, hm⟩ : ∃ m, meanV zs = m := ⟨_, rfl⟩
  rw [hm] at hmb hM
  have HM := Lib.hid hm
  rw [hm]
  clear hs h hm
  go_enter Try.func21, Try.ntmps21
  go_wp2_with fail
  refine hM.mono ?_
  rintro e w' ⟨rfl, rfl⟩
  clear hM
  go_wp2
  go_loopw [3, 6] (fun v i wr => ∃ k : Nat, k ≤ zs.length ∧ i = .int .i64 k ∧ Row wr w.heap.size wr.heap.size v ((zs.take k).map fun z => z - m) ∧ Below w.heap.size w wr) (fun _ i _ => zs.length - (intOf i).toNat)
  case atStart => exact ⟨0, Nat.zero_le _, rfl, hown0.wider (Nat.le_refl _) (by simp), hb0⟩
  case round =>
    obtain ⟨k, hk, rfl, hown, hnx⟩ := hrel
    clear hown0 hb0
    by_cases hlt : k < zs.length
    · obtain ⟨b, off, rfl, hbB, hc⟩ := (HS.out.below hnx (Nat.le_refl _)).at_ hlt
      have HT := Lib.hid (map_take_succ (fun z => z - m) zs k hlt)
      have hz2 := HV.out.getD hlt
      obtain ⟨z, hz⟩ : ∃ z, zs.getD k 0 = z := ⟨_, rfl⟩
      rw [hz] at hc HT hz2
      clear hz
      have hlen : ((zs.take k).map fun z => z - m).length = k := by simp; omega
      obtain ⟨ys, hys⟩ : ∃ ys, ((zs.take k).map fun z => z - m) = ys := ⟨_, rfl⟩
      rw [hys] at HT hown hlen
      clear hys
      have hsz := hnx.size
      have hlow := Lib.hid (fun g' (hg' : u3.ownBlock = some g') => hown.block_lt g' hg')
      have hal := (World.grownBy_alloc wr (.cells #[.int .i64 (z - m)] 3) none)
      have hownA := (hown.grown hal (fun g e => by cases e)).wider (Nat.le_refl _) (hi' := wr.heap.size + 1) (by omega)
      clear hown
      go_wp2_with (at_builtin; go_loud (refine wpList_app1 rfl (.tmp 22) (.tmp 29) rfl w.heap.size (wr.heap.size + 1) u3 ys rfl hownA wr.heap.size (z - m) rfl (World.cell?_alloc_at _ _ _ _ rfl) (by omega) (by simp; omega) ?_); intro v' w3 hown3 hgrow3)
      go_roundw
      case rel =>
        refine ⟨k + 1, by omega, by go_num, ?_, ?_⟩
        · rw [HT.out]
          exact hown3
        · exact (hnx.alloc hsz _).grown hgrow3 (by simp; omega) (fun g e => (hlow.out g e).1)
      case measure => simp [intOf]; omega
    · have e : k = zs.length := by omega
      subst e
      rw [List.take_of_length_le (Nat.le_refl _)] at hown
      go_wp2
      go_ret
      exact ⟨_, rfl, hown, hnx⟩
end
end Go.Proofs.Ytdmgaemplhcfmaa
