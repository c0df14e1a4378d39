/- Plain laws of means, centered lists, ranges and steps. No program in sight. -/
import Derived.WalkKit
namespace Go.Proofs.Ytdmgaemplhcfmaa
open Go.RowKit

/-- A list of 1 to 20 numbers in -10000..10000. -/
def OkL (zs : List Int) : Prop := (1 ≤ zs.length ∧ zs.length ≤ 20) ∧ ∀ z ∈ zs, -10000 ≤ z ∧ z ≤ 10000
def okN (z : Int) : Prop := -10000 ≤ z ∧ z ≤ 10000
theorem OkL.getD {zs : List Int} (h : OkL zs) {k : Nat} (hk : k < zs.length) : -10000 ≤ zs.getD k 0 ∧ zs.getD k 0 ≤ 10000 := by
  rw [show zs.getD k 0 = zs[k] by simp [hk]]
  exact h.2 _ (List.getElem_mem hk)
/-- The first k numbers are in range. -/
def okTo (zs : List Int) (k : Nat) : Prop := ∀ j, j < k → -10000 ≤ zs.getD j 0 ∧ zs.getD j 0 ≤ 10000
theorem okTo_all {zs : List Int} (h : okTo zs zs.length) : ∀ z ∈ zs, -10000 ≤ z ∧ z ≤ 10000 := by
  intro z hz
  obtain ⟨j, hj, rfl⟩ := List.mem_iff_getElem.1 hz
  have := h j hj
  rwa [show zs.getD j 0 = zs[j] by simp [hj]] at this
theorem not_ok_of {zs : List Int} {k : Nat} (hk : k < zs.length) (h : zs.getD k 0 < -10000 ∨ 10000 < zs.getD k 0) : ¬ OkL zs := fun hh => by have := hh.getD hk; omega
theorem okTo_succ {zs : List Int} {k : Nat} (h : okTo zs k) (h1 : -10000 ≤ zs.getD k 0) (h2 : zs.getD k 0 ≤ 10000) : okTo zs (k + 1) := fun j hj => by
  by_cases e : j = k
  · subst e; exact ⟨h1, h2⟩
  · exact h j (by omega)
open Classical in
noncomputable def okB (zs : List Int) : Bool := decide (OkL zs)

def sumTo (zs : List Int) (k : Nat) : Int := (zs.take k).foldl (· + ·) 0
def sumL (zs : List Int) : Int := zs.foldl (· + ·) 0
theorem sumTo_zero (zs : List Int) : sumTo zs 0 = 0 := by simp [sumTo]
theorem sumTo_succ (zs : List Int) (k : Nat) (hk : k < zs.length) : sumTo zs (k + 1) = sumTo zs k + zs.getD k 0 := by
  unfold sumTo
  have e3 : zs.take (k + 1) = zs.take k ++ [zs.getD k 0] := by rw [List.take_add_one, List.getElem?_eq_getElem hk]; simp [hk]
  rw [e3, List.foldl_append]
  rfl
theorem sumTo_full (zs : List Int) : sumTo zs zs.length = sumL zs := by unfold sumTo sumL; rw [List.take_of_length_le (Nat.le_refl _)]
theorem sumTo_bound (zs : List Int) (k : Nat) (hk : k ≤ zs.length) (h : okTo zs k) : -10000 * (k : Int) ≤ sumTo zs k ∧ sumTo zs k ≤ 10000 * (k : Int) := by
  induction k with
  | zero => simp [sumTo]
  | succ k ih =>
    have h1 := ih (by omega) (fun j hj => h j (by omega))
    have h2 := h k (by omega)
    rw [sumTo_succ zs k (by omega)]
    omega
theorem OkL.okTo {zs : List Int} (h : OkL zs) (k : Nat) (hk : k ≤ zs.length) : okTo zs k := fun j hj => h.getD (by omega)
theorem sumL_bound {zs : List Int} (h : OkL zs) : -200000 ≤ sumL zs ∧ sumL zs ≤ 200000 := by
  have h1 := sumTo_bound zs zs.length (Nat.le_refl _) (h.okTo _ (Nat.le_refl _))
  rw [sumTo_full] at h1
  have := h.1
  omega
def meanV (zs : List Int) : Int := sumL zs / (zs.length : Int)

/-- Rounded down, by the quotient that is cut towards nought. -/
theorem floor_tmod {n b : Int} (hb : 0 < b) : (if n.tmod b < 0 then n.tdiv b - 1 else n.tdiv b) = n / b := by
  have h1 := Int.tmod_add_mul_tdiv n b
  have h2 := Int.emod_add_mul_ediv n b
  have h3 := Int.emod_nonneg n (show b ≠ 0 by omega)
  have h4 := Int.emod_lt_of_pos n hb
  have h5 : -b < n.tmod b := by have := Int.lt_tmod_of_pos n hb; omega
  have h6 : n.tmod b < b := Int.tmod_lt_of_pos n hb
  by_cases h0 : 0 ≤ n
  · rw [if_neg (by have := Int.tmod_nonneg b h0; omega), Int.tdiv_eq_ediv_of_nonneg h0]
  · have h7 : n.tmod b ≤ 0 := by
      have := Int.tmod_nonneg b (show 0 ≤ -n by omega)
      rw [Int.neg_tmod] at this
      omega
    have e1 : b * (n.tdiv b - n / b) = n % b - n.tmod b := by rw [Int.mul_sub]; omega
    split
    · rename_i hneg
      have : n.tdiv b - n / b = 1 := by
        have a1 : 0 < b * (n.tdiv b - n / b) := by omega
        have a2 : b * (n.tdiv b - n / b) < b * 2 := by omega
        have p1 : 0 < n.tdiv b - n / b := Int.pos_of_mul_pos_right a1 (by omega)
        have p2 : n.tdiv b - n / b < 2 := Int.lt_of_mul_lt_mul_left a2 (by omega)
        omega
      omega
    · rename_i hz
      have hz' : n.tmod b = 0 := by omega
      have : n.tdiv b - n / b = 0 := by
        rw [hz'] at e1
        have a1 : b * (n.tdiv b - n / b) < b * 1 := by omega
        have a2 : b * (-1) < b * (n.tdiv b - n / b) := by omega
        have p1 := Int.lt_of_mul_lt_mul_left a1 (by omega)
        have p2 := Int.lt_of_mul_lt_mul_left a2 (by omega)
        omega
      omega
theorem floor_mul {n b : Int} (hb : 0 < b) : (if n < n.tdiv b * b then n.tdiv b - 1 else n.tdiv b) = n / b := by
  rw [← floor_tmod hb]
  have h1 := Int.tmod_add_mul_tdiv n b
  rw [Int.mul_comm] at h1
  by_cases h : n.tmod b < 0
  · rw [if_pos h, if_pos (by omega)]
  · rw [if_neg h, if_neg (by omega)]
theorem tdiv_bound {n b m : Int} (hb : 0 < b) (h1 : -m ≤ n) (h2 : n ≤ m) : -m ≤ n.tdiv b ∧ n.tdiv b ≤ m := by
  by_cases h0 : 0 ≤ n
  · rw [Int.tdiv_eq_ediv_of_nonneg h0]
    have := Int.ediv_nonneg h0 (show 0 ≤ b by omega)
    have := Int.ediv_le_self b h0
    omega
  · have e : n.tdiv b = -((-n).tdiv b) := by rw [Int.neg_tdiv]; omega
    rw [e, Int.tdiv_eq_ediv_of_nonneg (show 0 ≤ -n by omega)]
    have := Int.ediv_nonneg (show 0 ≤ -n by omega) (show 0 ≤ b by omega)
    have := Int.ediv_le_self b (show 0 ≤ -n by omega)
    omega
end Go.Proofs.Ytdmgaemplhcfmaa
