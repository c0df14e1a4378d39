/- Plain laws of rounds, as early as possible. No program in sight. -/
import Derived.Test.YtfkccdmjlopleaaPlainC
namespace Go.Proofs.Ytfkccdmjlopleaa
open Go.RowKit

/-- One more than the latest of the rounds rd of the first j of the numbers zs; 1 if there is none. -/
def inTo (zs rd : List Int) (j : Nat) : Int := (zs.take j).foldl (fun a o => max a (rd.getD o.toNat 0 + 1)) 1
theorem inTo_zero (zs rd : List Int) : inTo zs rd 0 = 1 := by simp [inTo]
theorem inTo_succ (zs rd : List Int) (j : Nat) (hj : j < zs.length) : inTo zs rd (j + 1) = max (inTo zs rd j) (rd.getD (zs.getD j 0).toNat 0 + 1) := by
  unfold inTo
  have e3 : zs.take (j + 1) = zs.take j ++ [zs.getD j 0] := by rw [List.take_add_one, List.getElem?_eq_getElem hj]; simp [hj]
  rw [e3, List.foldl_append]
  rfl
def rdsTo (zss : List (List Int)) : Nat → List Int
  | 0 => []
  | k + 1 => rdsTo zss k ++ [inTo (at2 zss k) (rdsTo zss k) (at2 zss k).length]
theorem rdsTo_length (zss : List (List Int)) (k : Nat) : (rdsTo zss k).length = k := by
  induction k with
  | zero => rfl
  | succ k ih => simp [rdsTo, ih]
theorem rdsTo_old (zss : List (List Int)) (k i : Nat) (hi : i < k) : (rdsTo zss (k + 1)).getD i 0 = (rdsTo zss k).getD i 0 := by
  simp [rdsTo, List.getElem?_append, rdsTo_length, hi]
theorem rdsTo_at (zss : List (List Int)) (k : Nat) : (rdsTo zss (k + 1)).getD k 0 = inTo (at2 zss k) (rdsTo zss k) (at2 zss k).length := by
  simp [rdsTo, List.getElem?_append, rdsTo_length]
theorem rdsTo_same (zss : List (List Int)) (i k : Nat) (h : i < k) : (rdsTo zss k).getD i 0 = inTo (at2 zss i) (rdsTo zss i) (at2 zss i).length := by
  induction k with
  | zero => omega
  | succ k ih =>
    by_cases e : i = k
    · subst e; exact rdsTo_at _ _
    · rw [rdsTo_old _ _ _ (by omega)]; exact ih (by omega)
theorem inTo_bound {zs rd : List Int} {t : Nat} (hz : okIn zs t zs.length) (hr : ∀ i, i < t → 1 ≤ rd.getD i 0 ∧ rd.getD i 0 ≤ (i : Int) + 1) (j : Nat) (hj : j ≤ zs.length) : 1 ≤ inTo zs rd j ∧ inTo zs rd j ≤ (t : Int) + 1 := by
  induction j with
  | zero => rw [inTo_zero]; omega
  | succ j ih =>
    have h1 := ih (by omega)
    have h2 := hz j (by omega)
    have h3 := hr (zs.getD j 0).toNat (by omega)
    rw [inTo_succ _ _ _ (by omega)]
    omega
theorem rdsTo_bound {zss : List (List Int)} (k : Nat) (h : okTTo zss k) : ∀ i, i < k → 1 ≤ (rdsTo zss k).getD i 0 ∧ (rdsTo zss k).getD i 0 ≤ (i : Int) + 1 := by
  induction k with
  | zero => intro i hi; omega
  | succ k ih =>
    have ih' := ih (fun t ht => h t (by omega))
    intro i hi
    by_cases e : i = k
    · subst e
      rw [rdsTo_at]
      exact inTo_bound (h i (by omega)).2 ih' _ (Nat.le_refl _)
    · rw [rdsTo_old _ _ _ (by omega)]
      exact ih' i (by omega)
/-- Rounds under way: k of them reckoned, the next one so far m, the others 0. -/
def stR (zss : List (List Int)) (n k : Nat) (m : Int) : List Int := rdsTo zss k ++ m :: List.replicate (n - (k + 1)) 0
def stO (zss : List (List Int)) (n k : Nat) : List Int := rdsTo zss k ++ List.replicate (n - k) 0
theorem stO_zero (zss : List (List Int)) (n : Nat) : stO zss n 0 = List.replicate n 0 := by simp [stO, rdsTo]
theorem stO_full (zss : List (List Int)) (n : Nat) : stO zss n n = rdsTo zss n := by simp [stO]
theorem stO_length (zss : List (List Int)) (n k : Nat) (hk : k ≤ n) : (stO zss n k).length = n := by simp [stO, rdsTo_length]; omega
theorem stR_length (zss : List (List Int)) (n k : Nat) (m : Int) (hk : k < n) : (stR zss n k m).length = n := by simp [stR, rdsTo_length]; omega
theorem stO_set (zss : List (List Int)) (n k : Nat) (m : Int) (hk : k < n) : (stO zss n k).set k m = stR zss n k m := by
  unfold stO stR
  have e1 : n - k = (n - (k + 1)) + 1 := by omega
  rw [e1, List.replicate_succ, List.set_append_right _ _ (by rw [rdsTo_length]; omega), rdsTo_length, Nat.sub_self, List.set_cons_zero]
theorem stR_set (zss : List (List Int)) (n k : Nat) (m m' : Int) : (stR zss n k m).set k m' = stR zss n k m' := by
  unfold stR
  rw [List.set_append_right _ _ (by rw [rdsTo_length]; omega), rdsTo_length, Nat.sub_self, List.set_cons_zero]
theorem stR_at (zss : List (List Int)) (n k : Nat) (m : Int) : (stR zss n k m).getD k 0 = m := by
  unfold stR
  simp [List.getElem?_append, rdsTo_length]
theorem stR_old (zss : List (List Int)) (n k : Nat) (m : Int) (i : Nat) (hi : i < k) : (stR zss n k m).getD i 0 = (rdsTo zss k).getD i 0 := by
  unfold stR
  simp [List.getElem?_append, rdsTo_length, hi]
theorem stR_full (zss : List (List Int)) (n k : Nat) : stR zss n k (inTo (at2 zss k) (rdsTo zss k) (at2 zss k).length) = stO zss n (k + 1) := by
  simp [stR, stO, rdsTo]
end Go.Proofs.Ytfkccdmjlopleaa
