/- Plain laws: rounds as late as possible, and the tasks whose rounds are fixed. No program in sight. -/
import Derived.Test.YtfkccdmjlopleaaPlainC4
namespace Go.Proofs.Ytfkccdmjlopleaa
open Go.RowKit

theorem getD_set_le (l : List Int) (i x : Nat) (v : Int) (hi : i < l.length) (hv : v ≤ l.getD i 0) : (l.set i v).getD x 0 ≤ l.getD x 0 := by
  by_cases e : i = x
  · subst e; rw [getD_set_at _ _ _ hi]; exact hv
  · rw [getD_set_ne _ _ _ _ e]; exact Int.le_refl _
theorem inL_le {zs st : List Int} {k n : Nat} (hz : okIn zs k zs.length) (hk : k < n) (hl : st.length = n) (x j : Nat) (hj : j < zs.length) : (inL zs k st (j + 1)).getD x 0 ≤ (inL zs k st j).getD x 0 := by
  have h3 := hz j hj
  rw [inL_succ _ _ _ _ hj]
  exact getD_set_le _ _ _ _ (by rw [inL_length _ _ _ _ (by omega)]; omega) (by omega)
theorem inL_mono {zs st : List Int} {k n : Nat} (hz : okIn zs k zs.length) (hk : k < n) (hl : st.length = n) (x : Nat) : ∀ j, j ≤ zs.length → (inL zs k st j).getD x 0 ≤ st.getD x 0
  | 0, _ => by rw [inL_zero]; exact Int.le_refl _
  | j + 1, h => Int.le_trans (inL_le hz hk hl x j (by omega)) (inL_mono hz hk hl x j (by omega))
theorem inL_done {zs st : List Int} {k n : Nat} (hz : okIn zs k zs.length) (hk : k < n) (hl : st.length = n) (i : Nat) : ∀ j, j ≤ zs.length → i < j → (inL zs k st j).getD (zs.getD i 0).toNat 0 ≤ st.getD k 0 - 1
  | 0, _, h => absurd h (by omega)
  | j + 1, h, hi => by
    by_cases e : i = j
    · subst e
      have h3 := hz i (by omega)
      rw [inL_succ _ _ _ _ (by omega), getD_set_at _ _ _ (by rw [inL_length _ _ _ _ (by omega)]; omega), inL_own hz k (Nat.le_refl _) i (by omega)]
      omega
    · exact Int.le_trans (inL_le hz hk hl _ j (by omega)) (inL_done hz hk hl i j (by omega) (by omega))
theorem lateSt_mono {zss : List (List Int)} (h : okTTo zss zss.length) (last : Int) (x t : Nat) : ∀ d, t + d ≤ zss.length → (lateSt zss zss.length last (t + d)).getD x 0 ≤ (lateSt zss zss.length last t).getD x 0
  | 0, _ => Int.le_refl _
  | d + 1, hd => by
    have h1 := lateSt_mono h last x t d (by omega)
    have h2 := inL_mono (h (zss.length - 1 - (t + d)) (by omega)).2 (show zss.length - 1 - (t + d) < zss.length by omega) (lateSt_length zss zss.length last (t + d)) x _ (Nat.le_refl _)
    exact Int.le_trans h2 h1
theorem lateSt_own {zss : List (List Int)} (h : okTTo zss zss.length) (last : Int) (x t : Nat) (hx : zss.length - 1 - t ≤ x) : ∀ d, t + d ≤ zss.length → (lateSt zss zss.length last (t + d)).getD x 0 = (lateSt zss zss.length last t).getD x 0
  | 0, _ => rfl
  | d + 1, hd => by
    have h1 := lateSt_own h last x t hx d (by omega)
    have h2 := inL_own (st := lateSt zss zss.length last (t + d)) (h (zss.length - 1 - (t + d)) (by omega)).2 x (by omega) _ (Nat.le_refl _)
    exact h2.trans h1
theorem late_before {zss : List (List Int)} (h : okTTo zss zss.length) (last : Int) (k : Nat) (hk : k < zss.length) (j : Nat) (hj : j < (at2 zss k).length) :
    (lateSt zss zss.length last zss.length).getD ((at2 zss k).getD j 0).toNat 0 ≤ (lateSt zss zss.length last zss.length).getD k 0 - 1 := by
  obtain ⟨t, ht⟩ : ∃ t, t = zss.length - 1 - k := ⟨_, rfl⟩
  have hkt : k = zss.length - 1 - t := by omega
  have h1 := inL_done (st := lateSt zss zss.length last t) (h k hk).2 hk (lateSt_length _ _ _ _) j _ (Nat.le_refl _) hj
  have h2 : inL (at2 zss k) k (lateSt zss zss.length last t) (at2 zss k).length = lateSt zss zss.length last (t + 1) := by rw [hkt]; rfl
  rw [h2] at h1
  have h3 := lateSt_mono h last ((at2 zss k).getD j 0).toNat (t + 1) (zss.length - (t + 1)) (by omega)
  have h4 := lateSt_own h last k t (by omega) (zss.length - t) (by omega)
  rw [show t + 1 + (zss.length - (t + 1)) = zss.length by omega] at h3
  rw [show t + (zss.length - t) = zss.length by omega] at h4
  omega
theorem late_rng {zss : List (List Int)} (h : OkT zss) (i : Nat) (hi : i < zss.length) : (rdsTo zss zss.length).getD i 0 ≤ (lateSt zss zss.length (lastOf zss) zss.length).getD i 0 ∧ (lateSt zss zss.length (lastOf zss) zss.length).getD i 0 ≤ lastOf zss :=
  (lateSt_LB rfl h.2 (lastOf_ge zss) zss.length (Nat.le_refl _)).2 i hi
theorem chain {zss : List (List Int)} (h : OkT zss) (h0 : 0 < zss.length) : ∀ d : Nat, (d : Int) < lastOf zss → ∃ i, i < zss.length ∧ (rdsTo zss zss.length).getD i 0 = lastOf zss - d ∧ (lateSt zss zss.length (lastOf zss) zss.length).getD i 0 = lastOf zss - d
  | 0, _ => by
    have h1 := rdsTo_bound _ h.2 0 h0
    have h2 := lastOf_ge zss 0 h0
    rcases maxTo_from (rdsTo zss zss.length) zss.length (by rw [rdsTo_length]; exact Nat.le_refl _) with h3 | ⟨i, hi, h3⟩
    · have h4 : lastOf zss = 0 := h3
      omega
    · have h4 : (rdsTo zss zss.length).getD i 0 = lastOf zss := h3
      have h5 := late_rng h i hi
      exact ⟨i, hi, by omega, by omega⟩
  | d + 1, hd => by
    obtain ⟨i, hi, h1, h2⟩ := chain h h0 d (by omega)
    have h3 := rdsTo_same zss i zss.length hi
    rcases inTo_from (at2 zss i) (rdsTo zss i) (at2 zss i).length (Nat.le_refl _) with h4 | ⟨j, hj, h4⟩
    · omega
    · have h5 := (h.2 i hi).2 j hj
      have h6 := late_before h.2 (lastOf zss) i hi j hj
      have h7 := late_rng h ((at2 zss i).getD j 0).toNat (by omega)
      rw [rdsTo_same zss _ i (by omega)] at h4
      rw [rdsTo_same zss _ zss.length (by omega)] at h7
      refine ⟨((at2 zss i).getD j 0).toNat, by omega, ?_, by omega⟩
      rw [rdsTo_same zss _ zss.length (by omega)]
      omega
theorem counted (f : Int → Int) : ∀ (m : Nat) (l : List Int), (∀ r : Nat, 1 ≤ r → r ≤ m → ∃ x, x ∈ l ∧ f x = r) → m ≤ l.length
  | 0, _, _ => Nat.zero_le _
  | m + 1, l, h => by
    obtain ⟨x, hx, hfx⟩ := h (m + 1) (by omega) (Nat.le_refl _)
    have h1 := counted f m (l.filter fun y => decide (f y ≠ ((m + 1 : Nat) : Int))) (fun r hr hrm => by
      obtain ⟨y, hy, hfy⟩ := h r hr (by omega)
      exact ⟨y, List.mem_filter.2 ⟨hy, by simp only [decide_eq_true_eq]; omega⟩, hfy⟩)
    have h2 : (l.filter fun y => decide (f y ≠ ((m + 1 : Nat) : Int))).length < l.length :=
      List.length_filter_lt_length_iff_exists.2 ⟨x, hx, by simp only [decide_eq_true_eq]; omega⟩
    omega
/-- There are at least as many of them as rounds, and one of them is in the last round. -/
theorem tight_law {zss : List (List Int)} (h : OkT zss) (h0 : 0 < zss.length) :
    lastOf zss ≤ ((tightTo (rdsTo zss zss.length) (lateSt zss zss.length (lastOf zss) zss.length) zss.length).length : Int) ∧
    ∃ i, i < (tightTo (rdsTo zss zss.length) (lateSt zss zss.length (lastOf zss) zss.length) zss.length).length ∧ (rdsTo zss zss.length).getD ((tightTo (rdsTo zss zss.length) (lateSt zss zss.length (lastOf zss) zss.length) zss.length).getD i 0).toNat 0 = lastOf zss := by
  have hb := lastOf_bound h
  constructor
  · have h1 := counted (fun x => (rdsTo zss zss.length).getD x.toNat 0) (lastOf zss).toNat (tightTo (rdsTo zss zss.length) (lateSt zss zss.length (lastOf zss) zss.length) zss.length) (fun r hr hrm => by
      obtain ⟨i, hi, h2, h3⟩ := chain h h0 ((lastOf zss).toNat - r) (by omega)
      exact ⟨(i : Int), tightTo_mem _ _ _ i hi (by omega), by simp only [Int.toNat_natCast]; omega⟩)
    omega
  · have h1 := rdsTo_bound _ h.2 0 h0
    have h2 := lastOf_ge zss 0 h0
    obtain ⟨i, hi, h3, h4⟩ := chain h h0 0 (by omega)
    obtain ⟨p, hp, he⟩ := List.mem_iff_getElem.1 (tightTo_mem _ _ zss.length i hi (h3.trans h4.symm))
    refine ⟨p, hp, ?_⟩
    rw [show (tightTo (rdsTo zss zss.length) (lateSt zss zss.length (lastOf zss) zss.length) zss.length).getD p 0 = (i : Int) by rw [List.getD_eq_getElem?_getD, List.getElem?_eq_getElem hp]; exact he]
    simp only [Int.toNat_natCast]
    omega
end Go.Proofs.Ytfkccdmjlopleaa
