/- Plain laws of rounds, as late as possible. No program in sight. -/
import Derived.Test.YtfkccdmjlopleaaPlainC3
namespace Go.Proofs.Ytfkccdmjlopleaa
open Go.RowKit

theorem getD_set_at (l : List Int) (i : Nat) (v : Int) (h : i < l.length) : (l.set i v).getD i 0 = v := by
  simp [List.getD_eq_getElem?_getD, h]
theorem getD_set_ne (l : List Int) (i t : Nat) (v : Int) (h : i ≠ t) : (l.set i v).getD t 0 = l.getD t 0 := by
  rw [List.getD_eq_getElem?_getD, List.getD_eq_getElem?_getD, List.getElem?_set_ne h]
/-- The rounds st, those of the first j of the numbers zs brought below k's. -/
def inL (zs : List Int) (k : Nat) (st : List Int) (j : Nat) : List Int := (zs.take j).foldl (fun s o => s.set o.toNat (min (s.getD o.toNat 0) (s.getD k 0 - 1))) st
theorem inL_zero (zs : List Int) (k : Nat) (st : List Int) : inL zs k st 0 = st := by simp [inL]
theorem inL_succ (zs : List Int) (k : Nat) (st : List Int) (j : Nat) (hj : j < zs.length) :
    inL zs k st (j + 1) = (inL zs k st j).set (zs.getD j 0).toNat (min ((inL zs k st j).getD (zs.getD j 0).toNat 0) ((inL zs k st j).getD k 0 - 1)) := by
  unfold inL
  have e3 : zs.take (j + 1) = zs.take j ++ [zs.getD j 0] := by rw [List.take_add_one, List.getElem?_eq_getElem hj]; simp [hj]
  rw [e3, List.foldl_append]
  rfl
theorem inL_length (zs : List Int) (k : Nat) (st : List Int) (j : Nat) (hj : j ≤ zs.length) : (inL zs k st j).length = st.length := by
  induction j with
  | zero => rw [inL_zero]
  | succ j ih => rw [inL_succ _ _ _ _ (by omega), List.length_set]; exact ih (by omega)
/-- t of the n tasks are done with, from the last one down; all began with the round last. -/
def lateSt (zss : List (List Int)) (n : Nat) (last : Int) : Nat → List Int
  | 0 => List.replicate n last
  | t + 1 => inL (at2 zss (n - 1 - t)) (n - 1 - t) (lateSt zss n last t) (at2 zss (n - 1 - t)).length
theorem lateSt_length (zss : List (List Int)) (n : Nat) (last : Int) (t : Nat) : (lateSt zss n last t).length = n := by
  induction t with
  | zero => simp [lateSt]
  | succ t ih => rw [lateSt, inL_length _ _ _ _ (Nat.le_refl _), ih]
/-- Between the rounds rd and the round last. -/
def LB (n : Nat) (rd : List Int) (last : Int) (st : List Int) : Prop := st.length = n ∧ ∀ i, i < n → rd.getD i 0 ≤ st.getD i 0 ∧ st.getD i 0 ≤ last
theorem inL_LB {n : Nat} {rd : List Int} {last : Int} {st zs : List Int} {k : Nat} (h : LB n rd last st) (hz : okIn zs k zs.length) (hk : k < n)
    (hr : ∀ j, j < zs.length → rd.getD (zs.getD j 0).toNat 0 + 1 ≤ rd.getD k 0) (j : Nat) (hj : j ≤ zs.length) : LB n rd last (inL zs k st j) := by
  induction j with
  | zero => rw [inL_zero]; exact h
  | succ j ih =>
    obtain ⟨h1, h2⟩ := ih (by omega)
    have h3 := hz j (by omega)
    have h4 := hr j (by omega)
    rw [inL_succ _ _ _ _ (by omega)]
    refine ⟨by rw [List.length_set]; exact h1, fun i hi => ?_⟩
    by_cases e : (zs.getD j 0).toNat = i
    · subst e
      rw [getD_set_at _ _ _ (by omega)]
      have h5 := h2 _ hi
      have h6 := h2 _ hk
      omega
    · rw [getD_set_ne _ _ _ _ e]
      exact h2 i hi
theorem inL_own {zs st : List Int} {k : Nat} (hz : okIn zs k zs.length) (i : Nat) (hi : k ≤ i) (j : Nat) (hj : j ≤ zs.length) : (inL zs k st j).getD i 0 = st.getD i 0 := by
  induction j with
  | zero => rw [inL_zero]
  | succ j ih =>
    have h3 := hz j (by omega)
    rw [inL_succ _ _ _ _ (by omega), getD_set_ne _ _ _ _ (by omega)]
    exact ih (by omega)
theorem rds_above {zss : List (List Int)} (h : okTTo zss zss.length) (k : Nat) (hk : k < zss.length) (j : Nat) (hj : j < (at2 zss k).length) :
    (rdsTo zss zss.length).getD ((at2 zss k).getD j 0).toNat 0 + 1 ≤ (rdsTo zss zss.length).getD k 0 := by
  have h1 := (h k hk).2 j hj
  have h2 := inTo_above (at2 zss k) (rdsTo zss k) j hj
  rw [rdsTo_same zss k _ hk]
  rw [rdsTo_same zss _ k (by omega)] at h2
  rw [rdsTo_same zss _ _ (by omega)]
  exact h2
theorem lateSt_LB {zss : List (List Int)} {n : Nat} (hn : zss.length = n) (h : okTTo zss zss.length) {last : Int} (hl : ∀ i, i < n → (rdsTo zss n).getD i 0 ≤ last) (t : Nat) (ht : t ≤ n) : LB n (rdsTo zss n) last (lateSt zss n last t) := by
  subst hn
  induction t with
  | zero => exact ⟨by simp [lateSt], fun i hi => by simp [lateSt, List.getD_eq_getElem?_getD, hi]; simpa [List.getD_eq_getElem?_getD] using hl i hi⟩
  | succ t ih =>
    have hk : zss.length - 1 - t < zss.length := by omega
    exact inL_LB (ih (by omega)) (h _ hk).2 hk (fun j hj => rds_above h _ hk j hj) _ (Nat.le_refl _)
/-- The greatest of 0 and the first k of the numbers rd. -/
def maxTo (rd : List Int) (k : Nat) : Int := (rd.take k).foldl max 0
theorem maxTo_zero (rd : List Int) : maxTo rd 0 = 0 := by simp [maxTo]
theorem maxTo_succ (rd : List Int) (k : Nat) (hk : k < rd.length) : maxTo rd (k + 1) = max (maxTo rd k) (rd.getD k 0) := by
  unfold maxTo
  have e3 : rd.take (k + 1) = rd.take k ++ [rd.getD k 0] := by rw [List.take_add_one, List.getElem?_eq_getElem hk]; simp [hk]
  rw [e3, List.foldl_append]
  rfl
theorem maxTo_bound (rd : List Int) (B : Int) (hB : 0 ≤ B) (k : Nat) (hk : k ≤ rd.length) (h : ∀ i, i < rd.length → rd.getD i 0 ≤ B) : 0 ≤ maxTo rd k ∧ maxTo rd k ≤ B := by
  induction k with
  | zero => rw [maxTo_zero]; omega
  | succ k ih => rw [maxTo_succ _ _ (by omega)]; have := ih (by omega); have := h k (by omega); omega
theorem maxTo_ge (rd : List Int) (k : Nat) (hk : k ≤ rd.length) : ∀ i, i < k → rd.getD i 0 ≤ maxTo rd k := by
  induction k with
  | zero => intro i hi; omega
  | succ k ih =>
    intro i hi
    rw [maxTo_succ _ _ (by omega)]
    by_cases e : i = k
    · subst e; omega
    · have := ih (by omega) i (by omega); omega
theorem maxTo_from (rd : List Int) (k : Nat) (hk : k ≤ rd.length) : maxTo rd k = 0 ∨ ∃ i, i < k ∧ rd.getD i 0 = maxTo rd k := by
  induction k with
  | zero => left; exact maxTo_zero _
  | succ k ih =>
    rw [maxTo_succ _ _ (by omega)]
    rcases Int.le_total (maxTo rd k) (rd.getD k 0) with h | h
    · rw [Int.max_eq_right h]; exact .inr ⟨k, by omega, rfl⟩
    · rw [Int.max_eq_left h]
      rcases ih (by omega) with h | ⟨i, hi, h⟩
      · exact .inl h
      · exact .inr ⟨i, by omega, h⟩
def lastOf (zss : List (List Int)) : Int := maxTo (rdsTo zss zss.length) zss.length
theorem lastOf_ge (zss : List (List Int)) : ∀ i, i < zss.length → (rdsTo zss zss.length).getD i 0 ≤ lastOf zss := maxTo_ge _ _ (by rw [rdsTo_length]; exact Nat.le_refl _)
theorem lastOf_bound {zss : List (List Int)} (h : OkT zss) : 0 ≤ lastOf zss ∧ lastOf zss ≤ 12 :=
  maxTo_bound _ 12 (by omega) _ (by rw [rdsTo_length]; exact Nat.le_refl _) (fun i hi => by rw [rdsTo_length] at hi; have := rdsTo_bound _ h.2 i hi; have := h.1; omega)
theorem late_mid {zss : List (List Int)} (h : OkT zss) (t : Nat) (ht : t < zss.length) (j : Nat) (hj : j ≤ (at2 zss (zss.length - 1 - t)).length) :
    (inL (at2 zss (zss.length - 1 - t)) (zss.length - 1 - t) (lateSt zss zss.length (lastOf zss) t) j).length = zss.length ∧
    ∀ i, i < zss.length → 1 ≤ (inL (at2 zss (zss.length - 1 - t)) (zss.length - 1 - t) (lateSt zss zss.length (lastOf zss) t) j).getD i 0 ∧ (inL (at2 zss (zss.length - 1 - t)) (zss.length - 1 - t) (lateSt zss zss.length (lastOf zss) t) j).getD i 0 ≤ 12 := by
  have hk : zss.length - 1 - t < zss.length := by omega
  obtain ⟨h1, h2⟩ := inL_LB (lateSt_LB rfl h.2 (lastOf_ge zss) t (by omega)) (h.2 _ hk).2 hk (fun j hj => rds_above h.2 _ hk j hj) j hj
  refine ⟨h1, fun i hi => ?_⟩
  have h3 := h2 i hi
  have h4 := rdsTo_bound _ h.2 i hi
  have h5 := lastOf_bound h
  omega
open Classical in
noncomputable def lateP (zss : List (List Int)) : List Int := if OkT zss then lateSt zss zss.length (lastOf zss) zss.length else []
theorem lateP_len (zss : List (List Int)) (h : zss.length ≤ 1048576) : (lateP zss).length ≤ 1048576 := by
  unfold lateP
  split
  · rw [lateSt_length]; exact h
  · simp
/-- The numbers less than k at which the two lists agree. -/
def tightTo (xs bs : List Int) : Nat → List Int
  | 0 => []
  | k + 1 => if xs.getD k 0 = bs.getD k 0 then tightTo xs bs k ++ [(k : Int)] else tightTo xs bs k
theorem tightTo_len (xs bs : List Int) (k : Nat) : (tightTo xs bs k).length ≤ k := by
  induction k with
  | zero => simp [tightTo]
  | succ k ih =>
    rw [tightTo]
    split
    · simp; omega
    · omega
theorem tightTo_mem (xs bs : List Int) (k i : Nat) (hi : i < k) (h : xs.getD i 0 = bs.getD i 0) : (i : Int) ∈ tightTo xs bs k := by
  induction k with
  | zero => omega
  | succ k ih =>
    rw [tightTo]
    by_cases e : i = k
    · subst e; rw [if_pos h]; simp
    · have := ih (by omega)
      split
      · exact List.mem_append_left _ this
      · exact this
theorem tightTo_rng (xs bs : List Int) (k : Nat) : ∀ x ∈ tightTo xs bs k, 0 ≤ x ∧ x < (k : Int) := by
  induction k with
  | zero => intro x hx; simp [tightTo] at hx
  | succ k ih =>
    intro x hx
    rw [tightTo] at hx
    split at hx
    · rcases List.mem_append.1 hx with h | h
      · have := ih x h; omega
      · simp at h; omega
    · have := ih x hx; omega
end Go.Proofs.Ytfkccdmjlopleaa
