/- Contracts: steps and what they stand for. (Printed by gen_FnsB4.py.) -/
import Derived.Test.YtdmgaemplhcfmaaFnsB3
namespace Go.Proofs.Ytdmgaemplhcfmaa
open Go.RowKit

theorem stepValid_yes (s : Int) (w : World) (h1 : 1 ≤ s) (h2 : s ≤ 100) : Calls Try.prog 49 #[.int .i64 s] w fun e w' => e = .returned (.bool true) ∧ w = w' := by
  go_enter Try.func49, Try.ntmps49
  go_wp2
  go_ret
  exact ⟨rfl, rfl⟩
theorem stepValid_no (s : Int) (w : World) (h : s < 1 ∨ 100 < s) : Calls Try.prog 49 #[.int .i64 s] w fun e w' => e = .returned (.bool false) ∧ w = w' := by
  rcases h with h | h
  · go_enter Try.func49, Try.ntmps49
    go_wp2
    go_ret
    exact ⟨rfl, rfl⟩
  · go_enter Try.func49, Try.ntmps49
    go_wp2
    go_ret
    exact ⟨by rw [show decide (s ≤ 100) = false by simp; omega]; rfl, rfl⟩
def stepF (s z : Int) : Int := (2 * z + s) / (2 * s)
def unstepF (s z : Int) : Int := z * s
theorem mul_bound {z s : Int} (h1 : -10000 ≤ z) (h2 : z ≤ 10000) (h3 : 1 ≤ s) (h4 : s ≤ 100) : -1000000 ≤ z * s ∧ z * s ≤ 1000000 := by
  have a1 : -10000 * s ≤ z * s := Int.mul_le_mul_of_nonneg_right h1 (by omega)
  have a2 : z * s ≤ 10000 * s := Int.mul_le_mul_of_nonneg_right h2 (by omega)
  omega
def OkS (zs : List Int) (s : Int) : Prop := OkL zs ∧ 1 ≤ s ∧ s ≤ 100

section
variable (A : Option Addr) (c : Nat) (s : Int) (zs : List Int) (w : World) (hs : Sl w w.heap.size A zs) (hn : zs.length ≤ 4611686018427387904)
include hs hn
theorem implStep_no (h : ¬ OkS zs s) : Calls Try.prog 31 #[.slice A zs.length c, .int .i64 s] w fun e w' => e = .returned (.slice none 0 0) ∧ w = w' := by
  have HS := Lib.hid hs
  clear hs
  by_cases hv : OkL zs
  · have hb : s < 1 ∨ 100 < s := by
      apply Classical.byContradiction
      intro hh
      exact h ⟨hv, by omega, by omega⟩
    clear h
    have HV := Lib.hid hv
    clear hv
    go_enter Try.func31, Try.ntmps31
    go_wp2_with fail
    refine (plainList_yes A c _ _ zs w HS.out rfl hn HV.out).mono ?_
    rintro e w' ⟨rfl, rfl⟩
    go_wp2_with fail
    refine (stepValid_no _ _ hb).mono ?_
    rintro e w' ⟨rfl, rfl⟩
    go_wp2
    go_ret
    exact ⟨rfl, rfl⟩
  · clear h
    have HV := Lib.hid hv
    clear hv
    go_enter Try.func31, Try.ntmps31
    go_wp2_with fail
    refine (plainList_no A c _ _ zs w HS.out rfl hn HV.out).mono ?_
    rintro e w' ⟨rfl, rfl⟩
    go_wp2
    go_ret
    exact ⟨rfl, rfl⟩
set_option maxHeartbeats 400000 in
theorem implStep_yes (h : OkS zs s) : Calls Try.prog 31 #[.slice A zs.length c, .int .i64 s] w fun e w' => ∃ v, e = .returned v ∧ Row w' w.heap.size w'.heap.size v (zs.map (stepF s)) ∧ Below w.heap.size w w' := by
  have HS := Lib.hid hs
  obtain ⟨h, s1, s2⟩ := h
  have HV := Lib.hid h
  have hl := h.1
  obtain ⟨l0, l1⟩ := hl
  clear hs h
  have hmk := run_make_row' (P := Try.prog) 22 3 (.int .i64 0) 8 Try.underlying22 info_int rfl .i64 .i64 zs.length (by omega) (by omega)
  go_enter Try.func31, Try.ntmps31
  go_wp2_with fail
  refine (plainList_yes A c _ _ zs w HS.out rfl hn HV.out).mono ?_
  rintro e w' ⟨rfl, rfl⟩
  go_wp2_with fail
  refine (stepValid_yes _ _ s1 s2).mono ?_
  rintro e w' ⟨rfl, rfl⟩
  go_wp2
  clear hmk
  have h0 := made_row w zs.length (by omega)
  go_loopw [21] (fun i wr => ∃ k : Nat, k ≤ zs.length ∧ i = .int .i64 k ∧ Row wr w.heap.size (w.heap.size + 1) (.slice (some ⟨w.heap.size, 0, none⟩) zs.length zs.length) (fillTo (zs.map (stepF s)) k) ∧ Below w.heap.size w wr ∧ w.heap.size + 1 ≤ wr.heap.size) (fun i _ => zs.length - (intOf i).toNat)
  case atStart => exact ⟨0, Nat.zero_le _, rfl, by rw [fillTo_zero, List.length_map]; exact h0, (Below.refl _ _).alloc (Nat.le_refl _) _, by simp⟩
  case round =>
    obtain ⟨k, hk, rfl, hown, hnx, hsz⟩ := hrel
    clear h0
    by_cases hlt : k < zs.length
    · obtain ⟨b, off, rfl, hbB, hc⟩ := (HS.out.below hnx (Nat.le_refl _)).at_ hlt
      have S := Lib.hid (fill_stored (by rw [List.length_map]; exact hlt) hown)
      rw [map_getD _ zs k hlt] at S
      obtain ⟨g, hg, _, _, hu, hf⟩ := hown.cell_ (j := k) (by rw [fillTo_length _ _ (by rw [List.length_map]; exact hk), List.length_map]; exact hlt)
      cases hg
      obtain ⟨u, hu'⟩ : ∃ u, (fillTo (zs.map (stepF s)) k).getD k 0 = u := ⟨_, rfl⟩
      rw [hu'] at hu
      have hz2 := HV.out.getD hlt
      obtain ⟨z, hz⟩ : ∃ z, zs.getD k 0 = z := ⟨_, rfl⟩
      rw [hz] at hc S hz2
      have hm := mul_bound hz2.1 hz2.2 s1 s2
      clear hown hz hu'
      go_wp2_with fail
      refine (floorQ_any _ _ _ (by omega) (by omega) (by omega) (by omega)).mono ?_
      rintro e w' ⟨rfl, rfl⟩
      go_wp2
      go_roundw
      case rel => exact ⟨k + 1, by omega, by go_num, S.out, hnx.setCell (Nat.le_refl _) _, by simpa using hsz⟩
      case measure => simp [intOf]; omega
    · have hkl : k = zs.length := by omega
      have HK := Lib.hid hkl
      clear hkl
      go_wp2
      go_ret
      have e := HK.out
      rw [e, show zs.length = (zs.map (stepF s)).length by simp, fillTo_full] at hown
      simp only [List.length_map] at hown
      exact ⟨_, rfl, hown.wider (Nat.le_refl _) hsz, hnx⟩
theorem specStep_no (h : ¬ OkS zs s) : Calls Try.prog 30 #[.slice A zs.length c, .int .i64 s] w fun e w' => ∃ v, e = .returned v ∧ Row w' w.heap.size w'.heap.size v [] ∧ Below w.heap.size w w' := by
  have HS := Lib.hid hs
  clear hs
  have HH := Lib.hid h
  clear h
  have hown0 : (w.alloc (.cells #[] 3)).ownsRow w.heap.size 3 1 (.slice (some ⟨w.heap.size, 0, none⟩) 0 0) 0 [] := World.ownsRow_lit w #[] 0 (Nat.le_refl _) (by simp [maxLen]) rfl
  have hb0 : Below w.heap.size w (w.alloc (.cells #[] 3)) := (Below.refl _ _).alloc (Nat.le_refl _) _
  go_enter Try.func30, Try.ntmps30
  go_wp2
  go_loop [5, 6] (fun v i => ∃ k : Nat, k ≤ zs.length ∧ i = .int .i64 k ∧ v = .slice (some ⟨w.heap.size, 0, none⟩) 0 0) (fun _ i => zs.length - (intOf i).toNat)
  case atStart => exact ⟨0, Nat.zero_le _, rfl, rfl⟩
  case round =>
    obtain ⟨k, hk, rfl, rfl⟩ := hrel
    by_cases hlt : k < zs.length
    · by_cases hv : OkL zs
      · have hb : s < 1 ∨ 100 < s := by
          apply Classical.byContradiction
          intro hh
          exact HH.out ⟨hv, by omega, by omega⟩
        have HV := Lib.hid hv
        clear hv
        go_wp2_with fail
        refine (l33Valid_yes A c w.heap.size _ zs _ (HS.out.below hb0 (Nat.le_refl _)) rfl hn HV.out).mono ?_
        rintro e w' ⟨rfl, rfl⟩
        go_wp2_with fail
        refine (l1In_no _ _ _ _ hb).mono ?_
        rintro e w' ⟨rfl, rfl⟩
        go_wp2
        go_ret
        exact ⟨_, rfl, ⟨hown0, fun g hg => by simp [Value.ownBlock] at hg; simp; omega⟩, hb0⟩
      · have HV := Lib.hid hv
        clear hv
        go_wp2_with fail
        refine (l33Valid_no A c w.heap.size _ zs _ (HS.out.below hb0 (Nat.le_refl _)) rfl hn HV.out).mono ?_
        rintro e w' ⟨rfl, rfl⟩
        go_wp2
        go_ret
        exact ⟨_, rfl, ⟨hown0, fun g hg => by simp [Value.ownBlock] at hg; simp; omega⟩, hb0⟩
    · go_wp2
      go_ret
      exact ⟨_, rfl, ⟨hown0, fun g hg => by simp [Value.ownBlock] at hg; simp; omega⟩, hb0⟩
set_option maxHeartbeats 800000 in
theorem specStep_yes (h : OkS zs s) : Calls Try.prog 30 #[.slice A zs.length c, .int .i64 s] w fun e w' => ∃ v, e = .returned v ∧ Row w' w.heap.size w'.heap.size v (zs.map (stepF s)) ∧ Below w.heap.size w w' := by
  have HS := Lib.hid hs
  obtain ⟨h, s1, s2⟩ := h
  have HV := Lib.hid h
  have hl := h.1
  obtain ⟨l0, l1⟩ := hl
  have hown0 : Row (w.alloc (.cells #[] 3)) w.heap.size (w.heap.size + 1) (.slice (some ⟨w.heap.size, 0, none⟩) 0 0) [] := ⟨World.ownsRow_lit w #[] 0 (Nat.le_refl _) (by simp [maxLen]) rfl, fun g hg => by simp [Value.ownBlock] at hg; omega⟩
  have hb0 : Below w.heap.size w (w.alloc (.cells #[] 3)) := (Below.refl _ _).alloc (Nat.le_refl _) _
  clear hs h
  go_enter Try.func30, Try.ntmps30
  go_wp2
  go_loopw [5, 6] (fun v i wr => ∃ k : Nat, k ≤ zs.length ∧ i = .int .i64 k ∧ Row wr w.heap.size wr.heap.size v ((zs.take k).map (stepF s)) ∧ Below w.heap.size w wr) (fun _ i _ => zs.length - (intOf i).toNat)
  case atStart => exact ⟨0, Nat.zero_le _, rfl, hown0.wider (Nat.le_refl _) (by simp), hb0⟩
  case round =>
    obtain ⟨k, hk, rfl, hown, hnx⟩ := hrel
    clear hown0 hb0
    by_cases hlt : k < zs.length
    · have hS := HS.out.below hnx (Nat.le_refl _)
      obtain ⟨b, off, rfl, hbB, hc⟩ := hS.at_ hlt
      have HT := Lib.hid (map_take_succ (stepF s) zs k hlt)
      have hz2 := HV.out.getD hlt
      obtain ⟨z, hz⟩ : ∃ z, zs.getD k 0 = z := ⟨_, rfl⟩
      rw [hz] at hc HT hz2
      clear hz
      have hm := mul_bound hz2.1 hz2.2 s1 s2
      have hlen : ((zs.take k).map (stepF s)).length = k := by simp; omega
      obtain ⟨ys, hys⟩ : ∃ ys, ((zs.take k).map (stepF s)) = ys := ⟨_, rfl⟩
      rw [hys] at HT hown hlen
      clear hys
      have hsz := hnx.size
      have hlow := Lib.hid (fun g' (hg' : u5.ownBlock = some g') => hown.block_lt g' hg')
      have hal := (World.grownBy_alloc wr (.cells #[.int .i64 (stepF s z)] 3) none)
      have hownA := (hown.grown hal (fun g e => by cases e)).wider (Nat.le_refl _) (hi' := wr.heap.size + 1) (by omega)
      have hVal := l33Valid_yes (some ⟨b, off, none⟩) c w.heap.size _ zs wr hS rfl hn HV.out
      clear hown hS
      go_wp2_with fail
      refine hVal.mono ?_
      rintro e w' ⟨rfl, rfl⟩
      clear hVal
      go_wp2_with fail
      refine (l1In_yes _ _ _ _ s1 s2).mono ?_
      rintro e w' ⟨rfl, rfl⟩
      go_wp2_with fail
      refine (floorL_any _ _ _ (by omega) (by omega) (by omega) (by omega)).mono ?_
      rintro e w' ⟨rfl, rfl⟩
      rw [show (2 * z + s) / (2 * s) = stepF s z from rfl]
      go_wp2_with (at_builtin; go_loud (refine wpList_app1 rfl (.tmp 22) (.tmp 33) rfl w.heap.size (wr.heap.size + 1) u5 ys rfl hownA wr.heap.size (stepF s z) rfl (World.cell?_alloc_at _ _ _ _ rfl) (by omega) (by simp; omega) ?_); intro v' w3 hown3 hgrow3)
      go_roundw
      case rel =>
        refine ⟨k + 1, by omega, by go_num, ?_, ?_⟩
        · rw [HT.out]
          exact hown3
        · exact (hnx.alloc hsz _).grown hgrow3 (by simp; omega) (fun g e => (hlow.out g e).1)
      case measure => simp [intOf]; omega
    · have e : k = zs.length := by omega
      subst e
      rw [List.take_of_length_le (Nat.le_refl _)] at hown
      go_wp2
      go_ret
      exact ⟨_, rfl, hown, hnx⟩
theorem implUnstep_no (h : ¬ OkS zs s) : Calls Try.prog 33 #[.slice A zs.length c, .int .i64 s] w fun e w' => e = .returned (.slice none 0 0) ∧ w = w' := by
  have HS := Lib.hid hs
  clear hs
  by_cases hv : OkL zs
  · have hb : s < 1 ∨ 100 < s := by
      apply Classical.byContradiction
      intro hh
      exact h ⟨hv, by omega, by omega⟩
    clear h
    have HV := Lib.hid hv
    clear hv
    go_enter Try.func33, Try.ntmps33
    go_wp2_with fail
    refine (plainList_yes A c _ _ zs w HS.out rfl hn HV.out).mono ?_
    rintro e w' ⟨rfl, rfl⟩
    go_wp2_with fail
    refine (stepValid_no _ _ hb).mono ?_
    rintro e w' ⟨rfl, rfl⟩
    go_wp2
    go_ret
    exact ⟨rfl, rfl⟩
  · clear h
    have HV := Lib.hid hv
    clear hv
    go_enter Try.func33, Try.ntmps33
    go_wp2_with fail
    refine (plainList_no A c _ _ zs w HS.out rfl hn HV.out).mono ?_
    rintro e w' ⟨rfl, rfl⟩
    go_wp2
    go_ret
    exact ⟨rfl, rfl⟩
set_option maxHeartbeats 400000 in
theorem implUnstep_yes (h : OkS zs s) : Calls Try.prog 33 #[.slice A zs.length c, .int .i64 s] w fun e w' => ∃ v, e = .returned v ∧ Row w' w.heap.size w'.heap.size v (zs.map (unstepF s)) ∧ Below w.heap.size w w' := by
  have HS := Lib.hid hs
  obtain ⟨h, s1, s2⟩ := h
  have HV := Lib.hid h
  have hl := h.1
  obtain ⟨l0, l1⟩ := hl
  clear hs h
  have hmk := run_make_row' (P := Try.prog) 22 3 (.int .i64 0) 8 Try.underlying22 info_int rfl .i64 .i64 zs.length (by omega) (by omega)
  go_enter Try.func33, Try.ntmps33
  go_wp2_with fail
  refine (plainList_yes A c _ _ zs w HS.out rfl hn HV.out).mono ?_
  rintro e w' ⟨rfl, rfl⟩
  go_wp2_with fail
  refine (stepValid_yes _ _ s1 s2).mono ?_
  rintro e w' ⟨rfl, rfl⟩
  go_wp2
  clear hmk
  have h0 := made_row w zs.length (by omega)
  go_loopw [21] (fun i wr => ∃ k : Nat, k ≤ zs.length ∧ i = .int .i64 k ∧ Row wr w.heap.size (w.heap.size + 1) (.slice (some ⟨w.heap.size, 0, none⟩) zs.length zs.length) (fillTo (zs.map (unstepF s)) k) ∧ Below w.heap.size w wr ∧ w.heap.size + 1 ≤ wr.heap.size) (fun i _ => zs.length - (intOf i).toNat)
  case atStart => exact ⟨0, Nat.zero_le _, rfl, by rw [fillTo_zero, List.length_map]; exact h0, (Below.refl _ _).alloc (Nat.le_refl _) _, by simp⟩
  case round =>
    obtain ⟨k, hk, rfl, hown, hnx, hsz⟩ := hrel
    clear h0
    by_cases hlt : k < zs.length
    · obtain ⟨b, off, rfl, hbB, hc⟩ := (HS.out.below hnx (Nat.le_refl _)).at_ hlt
      have S := Lib.hid (fill_stored (by rw [List.length_map]; exact hlt) hown)
      rw [map_getD _ zs k hlt] at S
      obtain ⟨g, hg, _, _, hu, hf⟩ := hown.cell_ (j := k) (by rw [fillTo_length _ _ (by rw [List.length_map]; exact hk), List.length_map]; exact hlt)
      cases hg
      obtain ⟨u, hu'⟩ : ∃ u, (fillTo (zs.map (unstepF s)) k).getD k 0 = u := ⟨_, rfl⟩
      rw [hu'] at hu
      have hz2 := HV.out.getD hlt
      obtain ⟨z, hz⟩ : ∃ z, zs.getD k 0 = z := ⟨_, rfl⟩
      rw [hz] at hc S hz2
      have hm := mul_bound hz2.1 hz2.2 s1 s2
      clear hown hz hu'

      go_wp2
      go_roundw
      case rel => exact ⟨k + 1, by omega, by go_num, S.out, hnx.setCell (Nat.le_refl _) _, by simpa using hsz⟩
      case measure => simp [intOf]; omega
    · have hkl : k = zs.length := by omega
      have HK := Lib.hid hkl
      clear hkl
      go_wp2
      go_ret
      have e := HK.out
      rw [e, show zs.length = (zs.map (unstepF s)).length by simp, fillTo_full] at hown
      simp only [List.length_map] at hown
      exact ⟨_, rfl, hown.wider (Nat.le_refl _) hsz, hnx⟩
theorem specUnstep_no (h : ¬ OkS zs s) : Calls Try.prog 34 #[.slice A zs.length c, .int .i64 s] w fun e w' => ∃ v, e = .returned v ∧ Row w' w.heap.size w'.heap.size v [] ∧ Below w.heap.size w w' := by
  have HS := Lib.hid hs
  clear hs
  have HH := Lib.hid h
  clear h
  have hown0 : (w.alloc (.cells #[] 3)).ownsRow w.heap.size 3 1 (.slice (some ⟨w.heap.size, 0, none⟩) 0 0) 0 [] := World.ownsRow_lit w #[] 0 (Nat.le_refl _) (by simp [maxLen]) rfl
  have hb0 : Below w.heap.size w (w.alloc (.cells #[] 3)) := (Below.refl _ _).alloc (Nat.le_refl _) _
  go_enter Try.func34, Try.ntmps34
  go_wp2
  go_loop [5, 6] (fun v i => ∃ k : Nat, k ≤ zs.length ∧ i = .int .i64 k ∧ v = .slice (some ⟨w.heap.size, 0, none⟩) 0 0) (fun _ i => zs.length - (intOf i).toNat)
  case atStart => exact ⟨0, Nat.zero_le _, rfl, rfl⟩
  case round =>
    obtain ⟨k, hk, rfl, rfl⟩ := hrel
    by_cases hlt : k < zs.length
    · by_cases hv : OkL zs
      · have hb : s < 1 ∨ 100 < s := by
          apply Classical.byContradiction
          intro hh
          exact HH.out ⟨hv, by omega, by omega⟩
        have HV := Lib.hid hv
        clear hv
        go_wp2_with fail
        refine (l33Valid_yes A c w.heap.size _ zs _ (HS.out.below hb0 (Nat.le_refl _)) rfl hn HV.out).mono ?_
        rintro e w' ⟨rfl, rfl⟩
        go_wp2_with fail
        refine (l1In_no _ _ _ _ hb).mono ?_
        rintro e w' ⟨rfl, rfl⟩
        go_wp2
        go_ret
        exact ⟨_, rfl, ⟨hown0, fun g hg => by simp [Value.ownBlock] at hg; simp; omega⟩, hb0⟩
      · have HV := Lib.hid hv
        clear hv
        go_wp2_with fail
        refine (l33Valid_no A c w.heap.size _ zs _ (HS.out.below hb0 (Nat.le_refl _)) rfl hn HV.out).mono ?_
        rintro e w' ⟨rfl, rfl⟩
        go_wp2
        go_ret
        exact ⟨_, rfl, ⟨hown0, fun g hg => by simp [Value.ownBlock] at hg; simp; omega⟩, hb0⟩
    · go_wp2
      go_ret
      exact ⟨_, rfl, ⟨hown0, fun g hg => by simp [Value.ownBlock] at hg; simp; omega⟩, hb0⟩
set_option maxHeartbeats 800000 in
theorem specUnstep_yes (h : OkS zs s) : Calls Try.prog 34 #[.slice A zs.length c, .int .i64 s] w fun e w' => ∃ v, e = .returned v ∧ Row w' w.heap.size w'.heap.size v (zs.map (unstepF s)) ∧ Below w.heap.size w w' := by
  have HS := Lib.hid hs
  obtain ⟨h, s1, s2⟩ := h
  have HV := Lib.hid h
  have hl := h.1
  obtain ⟨l0, l1⟩ := hl
  have hown0 : Row (w.alloc (.cells #[] 3)) w.heap.size (w.heap.size + 1) (.slice (some ⟨w.heap.size, 0, none⟩) 0 0) [] := ⟨World.ownsRow_lit w #[] 0 (Nat.le_refl _) (by simp [maxLen]) rfl, fun g hg => by simp [Value.ownBlock] at hg; omega⟩
  have hb0 : Below w.heap.size w (w.alloc (.cells #[] 3)) := (Below.refl _ _).alloc (Nat.le_refl _) _
  clear hs h
  go_enter Try.func34, Try.ntmps34
  go_wp2
  go_loopw [5, 6] (fun v i wr => ∃ k : Nat, k ≤ zs.length ∧ i = .int .i64 k ∧ Row wr w.heap.size wr.heap.size v ((zs.take k).map (unstepF s)) ∧ Below w.heap.size w wr) (fun _ i _ => zs.length - (intOf i).toNat)
  case atStart => exact ⟨0, Nat.zero_le _, rfl, hown0.wider (Nat.le_refl _) (by simp), hb0⟩
  case round =>
    obtain ⟨k, hk, rfl, hown, hnx⟩ := hrel
    clear hown0 hb0
    by_cases hlt : k < zs.length
    · have hS := HS.out.below hnx (Nat.le_refl _)
      obtain ⟨b, off, rfl, hbB, hc⟩ := hS.at_ hlt
      have HT := Lib.hid (map_take_succ (unstepF s) zs k hlt)
      have hz2 := HV.out.getD hlt
      obtain ⟨z, hz⟩ : ∃ z, zs.getD k 0 = z := ⟨_, rfl⟩
      rw [hz] at hc HT hz2
      clear hz
      have hm := mul_bound hz2.1 hz2.2 s1 s2
      have hlen : ((zs.take k).map (unstepF s)).length = k := by simp; omega
      obtain ⟨ys, hys⟩ : ∃ ys, ((zs.take k).map (unstepF s)) = ys := ⟨_, rfl⟩
      rw [hys] at HT hown hlen
      clear hys
      have hsz := hnx.size
      have hlow := Lib.hid (fun g' (hg' : u5.ownBlock = some g') => hown.block_lt g' hg')
      have hal := (World.grownBy_alloc wr (.cells #[.int .i64 (unstepF s z)] 3) none)
      have hownA := (hown.grown hal (fun g e => by cases e)).wider (Nat.le_refl _) (hi' := wr.heap.size + 1) (by omega)
      have hVal := l33Valid_yes (some ⟨b, off, none⟩) c w.heap.size _ zs wr hS rfl hn HV.out
      clear hown hS
      go_wp2_with fail
      refine hVal.mono ?_
      rintro e w' ⟨rfl, rfl⟩
      clear hVal
      go_wp2_with fail
      refine (l1In_yes _ _ _ _ s1 s2).mono ?_
      rintro e w' ⟨rfl, rfl⟩
      have hun : z * s = unstepF s z := rfl
      obtain ⟨y, hy⟩ : ∃ y, unstepF s z = y := ⟨_, rfl⟩
      rw [hy] at hun hal hownA HT
      clear hy
      go_wp2_with (at_builtin; go_loud (refine wpList_app1 rfl (.tmp 22) (.tmp 29) rfl w.heap.size (wr.heap.size + 1) u5 ys rfl hownA wr.heap.size y rfl (World.cell?_alloc_at _ _ _ _ rfl) (by omega) (by simp; omega) ?_); intro v' w3 hown3 hgrow3)
      go_roundw
      case rel =>
        refine ⟨k + 1, by omega, by go_num, ?_, ?_⟩
        · rw [HT.out]
          exact hown3
        · exact (hnx.alloc hsz _).grown hgrow3 (by simp; omega) (fun g e => (hlow.out g e).1)
      case measure => simp [intOf]; omega
    · have e : k = zs.length := by omega
      subst e
      rw [List.take_of_length_le (Nat.le_refl _)] at hown
      go_wp2
      go_ret
      exact ⟨_, rfl, hown, hnx⟩
end
end Go.Proofs.Ytdmgaemplhcfmaa
