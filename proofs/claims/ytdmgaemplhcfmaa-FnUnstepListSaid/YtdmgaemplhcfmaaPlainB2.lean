/- Plain laws: means are in the middle; ranges do not depend on signs; centered numbers are near 0; steps are near. -/
import Derived.Test.YtdmgaemplhcfmaaLawB1
namespace Go.Proofs.Ytdmgaemplhcfmaa
open Go.RowKit

theorem lowTo_le (zs : List Int) (k : Nat) (hk : k ≤ zs.length) : ∀ j, j < k → lowTo zs k ≤ zs.getD j 0 := by
  induction k with
  | zero => intro j hj; omega
  | succ k ih =>
    intro j hj
    rw [lowTo_succ zs k (by omega)]
    by_cases e : j = k
    · subst e; omega
    · have := ih (by omega) j (by omega); omega
theorem highTo_ge (zs : List Int) (k : Nat) (hk : k ≤ zs.length) : ∀ j, j < k → zs.getD j 0 ≤ highTo zs k := by
  induction k with
  | zero => intro j hj; omega
  | succ k ih =>
    intro j hj
    rw [highTo_succ zs k (by omega)]
    by_cases e : j = k
    · subst e; omega
    · have := ih (by omega) j (by omega); omega
theorem sumTo_between (zs : List Int) (lo hi : Int) (k : Nat) (hk : k ≤ zs.length) (h : ∀ j, j < k → lo ≤ zs.getD j 0 ∧ zs.getD j 0 ≤ hi) : lo * (k : Int) ≤ sumTo zs k ∧ sumTo zs k ≤ hi * (k : Int) := by
  induction k with
  | zero => simp [sumTo]
  | succ k ih =>
    have h1 := ih (by omega) (fun j hj => h j (by omega))
    have h2 := h k (by omega)
    rw [sumTo_succ zs k (by omega)]
    have e1 : lo * ((k + 1 : Nat) : Int) = lo * (k : Int) + lo := by rw [Int.natCast_add, Int.mul_add]; simp
    have e2 : hi * ((k + 1 : Nat) : Int) = hi * (k : Int) + hi := by rw [Int.natCast_add, Int.mul_add]; simp
    omega
theorem mean_between {zs : List Int} (h : OkL zs) : lowTo zs zs.length ≤ meanV zs ∧ meanV zs ≤ highTo zs zs.length := by
  have h0 := h.1
  have h1 := sumTo_between zs _ _ zs.length (Nat.le_refl _) (fun j hj => ⟨lowTo_le zs zs.length (Nat.le_refl _) j hj, highTo_ge zs zs.length (Nat.le_refl _) j hj⟩)
  rw [sumTo_full] at h1
  unfold meanV
  refine ⟨Int.le_ediv_of_mul_le (by omega) h1.1, ?_⟩
  have h2 := Int.ediv_le_ediv (show 0 < (zs.length : Int) by omega) h1.2
  rwa [Int.mul_ediv_cancel _ (by omega)] at h2
theorem sumTo_shift (zs : List Int) (d : Int) (k : Nat) (hk : k ≤ zs.length) : sumTo (zs.map (fun z => z + d)) k = sumTo zs k + d * (k : Int) := by
  induction k with
  | zero => simp [sumTo]
  | succ k ih =>
    rw [sumTo_succ _ k (by rw [List.length_map]; omega), sumTo_succ zs k (by omega), ih (by omega), map_getD _ zs k (by omega)]
    have e1 : d * ((k + 1 : Nat) : Int) = d * (k : Int) + d := by rw [Int.natCast_add, Int.mul_add]; simp
    omega
theorem sumL_shift (zs : List Int) (d : Int) : sumL (zs.map (fun z => z + d)) = sumL zs + d * (zs.length : Int) := by
  have h := sumTo_shift zs d zs.length (Nat.le_refl _)
  rw [sumTo_full] at h
  rw [← h, ← sumTo_full, List.length_map]
theorem mean_shift {zs : List Int} (h : OkL zs) (d : Int) : meanV (zs.map (fun z => z + d)) = meanV zs + d := by
  have h0 := h.1
  unfold meanV
  rw [sumL_shift, List.length_map, Int.add_mul_ediv_right _ _ (by omega)]
theorem lowTo_shift (zs : List Int) (d : Int) (k : Nat) (hk : k ≤ zs.length) (h0 : 0 < zs.length) : lowTo (zs.map (fun z => z + d)) k = lowTo zs k + d := by
  induction k with
  | zero => rw [lowTo_zero, lowTo_zero, map_getD _ zs 0 h0]
  | succ k ih =>
    rw [lowTo_succ _ k (by rw [List.length_map]; omega), lowTo_succ zs k (by omega), ih (by omega), map_getD _ zs k (by omega)]
    omega
theorem highTo_shift (zs : List Int) (d : Int) (k : Nat) (hk : k ≤ zs.length) (h0 : 0 < zs.length) : highTo (zs.map (fun z => z + d)) k = highTo zs k + d := by
  induction k with
  | zero => rw [highTo_zero, highTo_zero, map_getD _ zs 0 h0]
  | succ k ih =>
    rw [highTo_succ _ k (by rw [List.length_map]; omega), highTo_succ zs k (by omega), ih (by omega), map_getD _ zs k (by omega)]
    omega
theorem range_shift (zs : List Int) (d : Int) (h0 : 0 < zs.length) : rangeV (zs.map (fun z => z + d)) = rangeV zs := by
  unfold rangeV
  rw [List.length_map, lowTo_shift zs d _ (Nat.le_refl _) h0, highTo_shift zs d _ (Nat.le_refl _) h0]
  omega
theorem highTo_neg (zs : List Int) (k : Nat) (hk : k ≤ zs.length) (h0 : 0 < zs.length) : highTo (zs.map (fun z => -z)) k = -lowTo zs k := by
  induction k with
  | zero => rw [lowTo_zero, highTo_zero, map_getD _ zs 0 h0]
  | succ k ih =>
    rw [highTo_succ _ k (by rw [List.length_map]; omega), lowTo_succ zs k (by omega), ih (by omega), map_getD _ zs k (by omega)]
    omega
theorem lowTo_neg (zs : List Int) (k : Nat) (hk : k ≤ zs.length) (h0 : 0 < zs.length) : lowTo (zs.map (fun z => -z)) k = -highTo zs k := by
  induction k with
  | zero => rw [lowTo_zero, highTo_zero, map_getD _ zs 0 h0]
  | succ k ih =>
    rw [lowTo_succ _ k (by rw [List.length_map]; omega), highTo_succ zs k (by omega), ih (by omega), map_getD _ zs k (by omega)]
    omega
theorem ok_neg {zs : List Int} (h : OkL zs) : OkL (zs.map (fun z => -z)) := by
  refine ⟨by simpa using h.1, fun y hy => ?_⟩
  obtain ⟨z, hz, rfl⟩ := List.mem_map.1 hy
  have := h.2 z hz
  omega
theorem rangeP_neg {zs : List Int} (h : OkL zs) : rangeP (zs.map (fun z => -z)) = rangeP zs := by
  have h0 := h.1
  unfold rangeP
  rw [if_pos h, if_pos (ok_neg h)]
  unfold rangeV
  rw [List.length_map, lowTo_neg zs _ (Nat.le_refl _) (by omega), highTo_neg zs _ (Nat.le_refl _) (by omega)]
  omega
theorem range_one {zs : List Int} (h : OkL zs) : rangeP (zs.take 1) = 0 := by
  have h0 := h.1
  have hl : (zs.take 1).length = 1 := by simp; omega
  have hok : OkL (zs.take 1) := ⟨by omega, fun z hz => h.2 z (List.mem_of_mem_take hz)⟩
  unfold rangeP
  rw [if_pos hok]
  unfold rangeV
  rw [hl, lowTo_one _ (by omega), highTo_one _ (by omega)]
  omega
theorem low_le_high (zs : List Int) (k : Nat) (hk : k ≤ zs.length) : lowTo zs k ≤ highTo zs k := by
  induction k with
  | zero => rw [lowTo_zero, highTo_zero]; exact Int.le_refl _
  | succ k ih =>
    have := ih (by omega)
    rw [lowTo_succ _ k (by omega), highTo_succ zs k (by omega)]
    omega
theorem rangeP_cases (zs : List Int) : (OkL zs ∧ 0 ≤ rangeP zs) ∨ (¬ OkL zs ∧ rangeP zs = -1) := by
  unfold rangeP
  by_cases h : OkL zs
  · left
    rw [if_pos h]
    have := low_le_high zs zs.length (Nat.le_refl _)
    refine ⟨h, ?_⟩
    unfold rangeV
    omega
  · right
    rw [if_neg h]
    exact ⟨h, rfl⟩
theorem meanP_cases (zs : List Int) : (OkL zs ∧ meanP zs = (meanV zs, true)) ∨ (¬ OkL zs ∧ meanP zs = (0, false)) := by
  unfold meanP
  by_cases h : OkL zs
  · exact .inl ⟨h, if_pos h⟩
  · exact .inr ⟨h, if_neg h⟩
theorem centered_sum {zs : List Int} (h : OkL zs) : 0 ≤ sumL (zs.map (fun z => z - meanV zs)) ∧ sumL (zs.map (fun z => z - meanV zs)) < zs.length := by
  have h0 := h.1
  have e := sumL_shift zs (-meanV zs)
  have e2 : (zs.map (fun z => z - meanV zs)) = zs.map (fun z => z + -meanV zs) := rfl
  rw [e2, e]
  have h1 := Int.mul_ediv_add_emod (sumL zs) zs.length
  have h2 := Int.emod_nonneg (sumL zs) (show (zs.length : Int) ≠ 0 by omega)
  have h3 := Int.emod_lt_of_pos (sumL zs) (show 0 < (zs.length : Int) by omega)
  have e3 : -meanV zs * (zs.length : Int) = -((zs.length : Int) * (sumL zs / zs.length)) := by unfold meanV; rw [Int.neg_mul, Int.mul_comm]
  rw [e3]
  omega
theorem centered_range {zs : List Int} (h : OkL zs) : rangeP (zs.map (fun z => z - meanV zs)) = -1 ∨ rangeP (zs.map (fun z => z - meanV zs)) = rangeP zs := by
  have h0 := h.1
  have e2 : (zs.map (fun z => z - meanV zs)) = zs.map (fun z => z + -meanV zs) := rfl
  rw [e2]
  rcases rangeP_cases (zs.map (fun z => z + -meanV zs)) with ⟨h1, _⟩ | ⟨_, h1⟩
  · right
    unfold rangeP
    rw [if_pos h1, if_pos h, range_shift zs _ (by omega)]
  · exact .inl h1
theorem step_unstep {s y : Int} (h : 1 ≤ s) : stepF s (unstepF s y) = y := by
  unfold stepF unstepF
  have e : 2 * (y * s) + s = s + y * (2 * s) := by rw [← Int.mul_assoc, Int.mul_comm 2 y, Int.mul_assoc]; omega
  rw [e, Int.add_mul_ediv_right _ _ (by omega), Int.ediv_eq_zero_of_lt (by omega) (by omega)]
  omega
theorem steps_again {s : Int} {zs : List Int} (h : OkS zs s) : stepP s (unstepP s zs) = [] ∨ stepP s (unstepP s zs) = zs := by
  have e : unstepP s zs = zs.map (unstepF s) := if_pos h
  rw [e]
  unfold stepP
  split
  · right
    rw [List.map_map]
    have : (stepF s ∘ unstepF s) = id := funext fun y => step_unstep h.2.1
    rw [this, List.map_id]
  · exact .inl rfl
theorem unstep_one {zs : List Int} (h : OkL zs) : unstepP 1 zs = zs := by
  unfold unstepP
  rw [if_pos ⟨h, by omega, by omega⟩]
  have : unstepF 1 = id := funext fun y => by simp [unstepF]
  rw [this, List.map_id]
theorem step_one (z : Int) : errF 1 z = 0 := by
  have : stepF 1 z = z := by
    have := step_unstep (s := 1) (y := z) (by omega)
    unfold unstepF at this
    rwa [Int.mul_one] at this
  unfold errF
  rw [this]
  omega
theorem err_one {zs : List Int} (h : OkL zs) : errP 1 zs = 0 := by
  unfold errP
  rw [if_pos ⟨h, by omega, by omega⟩]
  unfold errV
  have key : ∀ k, k ≤ zs.length → errTo 1 zs k = 0 := by
    intro k
    induction k with
    | zero => intro _; exact errTo_zero _ _
    | succ k ih => intro hk; rw [errTo_succ _ _ _ (by omega), ih (by omega), step_one]; omega
  exact key _ (Nat.le_refl _)
theorem errP_cases (s : Int) (zs : List Int) : (OkS zs s ∧ 0 ≤ errP s zs ∧ 2 * errP s zs ≤ s) ∨ (¬ OkS zs s ∧ errP s zs = -1) := by
  unfold errP
  by_cases h : OkS zs s
  · left
    rw [if_pos h]
    exact ⟨h, errTo_bound h.2.1 h.2.2 _ (Nat.le_refl _)⟩
  · right
    rw [if_neg h]
    exact ⟨h, rfl⟩
end Go.Proofs.Ytdmgaemplhcfmaa
