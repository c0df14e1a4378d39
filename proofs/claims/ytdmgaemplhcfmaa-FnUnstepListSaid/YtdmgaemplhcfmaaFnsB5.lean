/- Contracts: errors of steps. -/
import Derived.Test.YtdmgaemplhcfmaaFnsB4
namespace Go.Proofs.Ytdmgaemplhcfmaa
open Go.RowKit

theorem take_foldl_succ' {α : Type} (f : α → Int → α) (zs : List Int) (k : Nat) (hk : k < zs.length) (a : α) : (zs.take (k + 1)).foldl f a = f ((zs.take k).foldl f a) (zs.getD k 0) := by
  have e3 : zs.take (k + 1) = zs.take k ++ [zs.getD k 0] := by rw [List.take_add_one, List.getElem?_eq_getElem hk]; simp [hk]
  rw [e3, List.foldl_append]
  rfl
theorem stepF_ok {s z : Int} (h1 : -10000 ≤ z) (h2 : z ≤ 10000) (h3 : 1 ≤ s) (h4 : s ≤ 100) : -10000 ≤ stepF s z ∧ stepF s z ≤ 10000 := by
  unfold stepF
  refine ⟨Int.le_ediv_of_mul_le (by omega) (by omega), ?_⟩
  have : (2 * z + s) / (2 * s) < 10001 := Int.ediv_lt_of_lt_mul (by omega) (by omega)
  omega
theorem stepF_near {s z : Int} (h3 : 1 ≤ s) : 2 * (stepF s z * s) ≤ 2 * z + s ∧ 2 * z < 2 * (stepF s z * s) + s := by
  unfold stepF
  have h1 := Int.mul_ediv_add_emod (2 * z + s) (2 * s)
  have h2 := Int.emod_nonneg (2 * z + s) (show 2 * s ≠ 0 by omega)
  have h4 := Int.emod_lt_of_pos (2 * z + s) (show 0 < 2 * s by omega)
  have e : 2 * s * ((2 * z + s) / (2 * s)) = 2 * ((2 * z + s) / (2 * s) * s) := by rw [Int.mul_assoc, Int.mul_comm s]
  rw [e] at h1
  omega
theorem steps_ok {s : Int} {zs : List Int} (h : OkS zs s) : OkS (zs.map (stepF s)) s := by
  obtain ⟨⟨h1, h2⟩, h3, h4⟩ := h
  refine ⟨⟨by simpa using h1, fun y hy => ?_⟩, h3, h4⟩
  obtain ⟨z, hz, rfl⟩ := List.mem_map.1 hy
  exact stepF_ok (h2 z hz).1 (h2 z hz).2 h3 h4
def errF (s z : Int) : Int := max (z - stepF s z * s) (stepF s z * s - z)
def errTo (s : Int) (zs : List Int) (k : Nat) : Int := (zs.take k).foldl (fun a z => max a (errF s z)) 0
def errV (s : Int) (zs : List Int) : Int := errTo s zs zs.length
theorem errTo_zero (s : Int) (zs : List Int) : errTo s zs 0 = 0 := by simp [errTo]
theorem errTo_succ (s : Int) (zs : List Int) (k : Nat) (hk : k < zs.length) : errTo s zs (k + 1) = max (errTo s zs k) (errF s (zs.getD k 0)) := take_foldl_succ' _ zs k hk _
theorem errTo_bound {s : Int} {zs : List Int} (h3 : 1 ≤ s) (h4 : s ≤ 100) (k : Nat) (hk : k ≤ zs.length) : 0 ≤ errTo s zs k ∧ 2 * errTo s zs k ≤ s := by
  induction k with
  | zero => rw [errTo_zero]; omega
  | succ k ih =>
    have h1 := ih (by omega)
    have h2 := stepF_near (z := zs.getD k 0) h3
    rw [errTo_succ s zs k (by omega)]
    unfold errF
    omega

section
variable (A : Option Addr) (c : Nat) (s : Int) (zs : List Int) (w : World) (hs : Sl w w.heap.size A zs) (hn : zs.length ≤ 4611686018427387904)
include hs hn
theorem implErr_no (h : ¬ OkS zs s) : Calls Try.prog 37 #[.slice A zs.length c, .int .i64 s] w fun e w' => e = .returned (.int .i64 (-1)) ∧ w = w' := by
  have HS := Lib.hid hs
  clear hs
  by_cases hv : OkL zs
  · have hb : s < 1 ∨ 100 < s := by
      apply Classical.byContradiction
      intro hh
      exact h ⟨hv, by omega, by omega⟩
    clear h
    have HV := Lib.hid hv
    clear hv
    go_enter Try.func37, Try.ntmps37
    go_wp2_with fail
    refine (plainList_yes A c _ _ zs w HS.out rfl hn HV.out).mono ?_
    rintro e w' ⟨rfl, rfl⟩
    go_wp2_with fail
    refine (stepValid_no _ _ hb).mono ?_
    rintro e w' ⟨rfl, rfl⟩
    go_wp2
    go_ret
    exact ⟨rfl, rfl⟩
  · clear h
    have HV := Lib.hid hv
    clear hv
    go_enter Try.func37, Try.ntmps37
    go_wp2_with fail
    refine (plainList_no A c _ _ zs w HS.out rfl hn HV.out).mono ?_
    rintro e w' ⟨rfl, rfl⟩
    go_wp2
    go_ret
    exact ⟨rfl, rfl⟩
theorem specErr_no (h : ¬ OkS zs s) : Calls Try.prog 36 #[.slice A zs.length c, .int .i64 s] w fun e w' => e = .returned (.int .i64 (-1)) ∧ w = w' := by
  have HS := Lib.hid hs
  clear hs
  by_cases hv : OkL zs
  · have hb : s < 1 ∨ 100 < s := by
      apply Classical.byContradiction
      intro hh
      exact h ⟨hv, by omega, by omega⟩
    clear h
    have HV := Lib.hid hv
    clear hv
    go_enter Try.func36, Try.ntmps36
    go_wp2_with fail
    refine (l33Valid_yes A c _ _ zs w HS.out rfl hn HV.out).mono ?_
    rintro e w' ⟨rfl, rfl⟩
    go_wp2_with fail
    refine (l1In_no _ _ _ _ hb).mono ?_
    rintro e w' ⟨rfl, rfl⟩
    go_wp2
    go_ret
    exact ⟨rfl, rfl⟩
  · clear h
    have HV := Lib.hid hv
    clear hv
    go_enter Try.func36, Try.ntmps36
    go_wp2_with fail
    refine (l33Valid_no A c _ _ zs w HS.out rfl hn HV.out).mono ?_
    rintro e w' ⟨rfl, rfl⟩
    go_wp2
    go_ret
    exact ⟨rfl, rfl⟩
set_option maxHeartbeats 800000 in
theorem implErr_yes (h : OkS zs s) : Calls Try.prog 37 #[.slice A zs.length c, .int .i64 s] w fun e w' => e = .returned (.int .i64 (errV s zs)) ∧ Below w.heap.size w w' := by
  have HS := Lib.hid hs
  have HH := Lib.hid h
  obtain ⟨h, s1, s2⟩ := h
  have HV := Lib.hid h
  have hl := h.1
  obtain ⟨l0, l1⟩ := hl
  clear hs h
  go_enter Try.func37, Try.ntmps37
  go_wp2_with fail
  refine (plainList_yes A c _ _ zs w HS.out rfl hn HV.out).mono ?_
  rintro e w' ⟨rfl, rfl⟩
  go_wp2_with fail
  refine (stepValid_yes _ _ s1 s2).mono ?_
  rintro e w' ⟨rfl, rfl⟩
  go_wp2_with fail
  refine (implStep_yes A c s zs w HS.out hn HH.out).mono ?_
  rintro e w1 ⟨v1, rfl, hr1, hb1⟩
  have hok := Lib.hid (steps_ok HH.out)
  have hyl : (zs.map (stepF s)).length = zs.length := List.length_map ..
  have hyg := Lib.hid (fun k (hk : k < zs.length) => map_getD (stepF s) zs k hk)
  obtain ⟨ys, hys⟩ : ∃ ys, zs.map (stepF s) = ys := ⟨_, rfl⟩
  rw [hys] at hr1 hok hyl hyg
  clear hys
  obtain ⟨A1, c1, rfl, _, _, hs1⟩ := hr1.form
  have HS1 := Lib.hid hs1
  clear hr1 hs1
  have hU := implUnstep_yes A1 c1 s ys w1 HS1.out (by omega) hok.out
  rw [hyl] at hU
  go_wp2_with fail
  refine hU.mono ?_
  rintro e w2 ⟨v2, rfl, hr2, hb2⟩
  have hxl : (ys.map (unstepF s)).length = zs.length := by rw [List.length_map]; exact hyl
  have hxg := Lib.hid (fun k (hk : k < ys.length) => map_getD (unstepF s) ys k hk)
  obtain ⟨xs, hxs⟩ : ∃ xs, ys.map (unstepF s) = xs := ⟨_, rfl⟩
  rw [hxs] at hr2 hxl hxg
  clear hxs
  obtain ⟨A2, c2, rfl, _, _, hs2⟩ := hr2.form
  have hb := hb1.trans (hb2.mono hb1.size)
  have HS2 := Lib.hid hs2
  clear hs2 hr2 hb1 hb2 hU
  rw [hxl]
  go_wp2
  go_loopw [5, 22] (fun m i wr => ∃ k : Nat, k ≤ zs.length ∧ i = .int .i64 k ∧ m = .int .i64 (errTo s zs k) ∧ Drew w2 wr) (fun _ i _ => zs.length - (intOf i).toNat)
  case atStart => exact ⟨0, Nat.zero_le _, rfl, by rw [errTo_zero], Drew.refl _⟩
  case round =>
    obtain ⟨k, hk, rfl, rfl, hd⟩ := hrel
    by_cases hlt : k < zs.length
    · obtain ⟨b, off, rfl, _, hc⟩ := (hd.sl (HS.out.below hb (Nat.le_refl _))).at_ hlt
      obtain ⟨b2, off2, rfl, _, hc2⟩ := (hd.sl HS2.out).at_ (k := k) (by omega)
      rw [hxg.out k (by omega), hyg.out k hlt] at hc2
      have HE := Lib.hid (errTo_succ s zs k hlt)
      have hz2 := HV.out.getD hlt
      have hbd := errTo_bound (zs := zs) s1 s2 k hk
      obtain ⟨z, hz⟩ : ∃ z, zs.getD k 0 = z := ⟨_, rfl⟩
      rw [hz] at hc hc2 HE hz2
      clear hz
      have hnr := stepF_near (z := z) s1
      unfold errF at HE
      unfold unstepF at hc2
      obtain ⟨y, hy⟩ : ∃ y, stepF s z * s = y := ⟨_, rfl⟩
      rw [hy] at hc2 HE hnr
      clear hy
      obtain ⟨m, hm⟩ : ∃ m, errTo s zs k = m := ⟨_, rfl⟩
      rw [hm] at HE hbd ⊢
      clear hm
      go_wp2
      go_quiet (fail)
      go_wp2
      go_roundw
      case rel => exact ⟨k + 1, by omega, by go_num, by rw [HE.out]; congr 1; repeat' split <;> omega, hd.more _⟩
      case measure => simp [intOf]; omega
    · have e : k = zs.length := by omega
      subst e
      go_wp2
      go_ret
      exact ⟨rfl, hb.trans (hd.below _)⟩
set_option maxHeartbeats 800000 in
theorem specErr_yes (h : OkS zs s) : Calls Try.prog 36 #[.slice A zs.length c, .int .i64 s] w fun e w' => e = .returned (.int .i64 (errV s zs)) ∧ Below w.heap.size w w' := by
  have HS := Lib.hid hs
  have HH := Lib.hid h
  obtain ⟨h, s1, s2⟩ := h
  have HV := Lib.hid h
  have hl := h.1
  obtain ⟨l0, l1⟩ := hl
  clear hs h
  go_enter Try.func36, Try.ntmps36
  go_wp2_with fail
  refine (l33Valid_yes A c _ _ zs w HS.out rfl hn HV.out).mono ?_
  rintro e w' ⟨rfl, rfl⟩
  go_wp2_with fail
  refine (l1In_yes _ _ _ _ s1 s2).mono ?_
  rintro e w' ⟨rfl, rfl⟩
  go_wp2_with fail
  refine (specStep_yes A c s zs w HS.out hn HH.out).mono ?_
  rintro e w1 ⟨v1, rfl, hr1, hb⟩
  have hok := Lib.hid (steps_ok HH.out)
  have hyl : (zs.map (stepF s)).length = zs.length := List.length_map ..
  have hyg := Lib.hid (fun k (hk : k < zs.length) => map_getD (stepF s) zs k hk)
  obtain ⟨ys, hys⟩ : ∃ ys, zs.map (stepF s) = ys := ⟨_, rfl⟩
  rw [hys] at hr1 hok hyl hyg
  clear hys
  obtain ⟨A1, c1, rfl, _, _, hs1⟩ := hr1.form
  have HS1 := Lib.hid hs1
  clear hr1 hs1
  rw [hyl]
  go_wp2
  go_loopw [5, 7] (fun m i wr => ∃ k : Nat, k ≤ zs.length ∧ i = .int .i64 k ∧ m = .int .i64 (errTo s zs k) ∧ Drew w1 wr) (fun _ i _ => zs.length - (intOf i).toNat)
  case atStart => exact ⟨0, Nat.zero_le _, rfl, by rw [errTo_zero], Drew.refl _⟩
  case round =>
    obtain ⟨k, hk, rfl, rfl, hd⟩ := hrel
    by_cases hlt : k < zs.length
    · obtain ⟨b, off, rfl, _, hc⟩ := (hd.sl (HS.out.below hb (Nat.le_refl _))).at_ hlt
      obtain ⟨b2, off2, rfl, _, hc2⟩ := (hd.sl HS1.out).at_ (k := k) (by omega)
      rw [hyg.out k hlt] at hc2
      have HE := Lib.hid (errTo_succ s zs k hlt)
      have hz2 := HV.out.getD hlt
      have hbd := errTo_bound (zs := zs) s1 s2 k hk
      obtain ⟨z, hz⟩ : ∃ z, zs.getD k 0 = z := ⟨_, rfl⟩
      rw [hz] at hc hc2 HE hz2
      clear hz
      have hnr := stepF_near (z := z) s1
      have hso := stepF_ok hz2.1 hz2.2 s1 s2
      unfold errF at HE
      obtain ⟨y, hy⟩ : ∃ y, stepF s z = y := ⟨_, rfl⟩
      rw [hy] at hc2 HE hnr hso
      clear hy
      obtain ⟨m, hm⟩ : ∃ m, errTo s zs k = m := ⟨_, rfl⟩
      rw [hm] at HE hbd ⊢
      clear hm
      obtain ⟨q, hq⟩ : ∃ q, y * s = q := ⟨_, rfl⟩
      rw [hq] at HE hnr
      go_wp2
      go_quiet (fail)
      go_wp2
      go_roundw
      case rel => exact ⟨k + 1, by omega, by go_num, by rw [HE.out]; congr 1; repeat' split <;> omega, hd.more _⟩
      case measure => simp [intOf]; omega
    · have e : k = zs.length := by omega
      subst e
      go_wp2
      go_ret
      exact ⟨rfl, hb.trans (hd.below _)⟩
end
end Go.Proofs.Ytdmgaemplhcfmaa
