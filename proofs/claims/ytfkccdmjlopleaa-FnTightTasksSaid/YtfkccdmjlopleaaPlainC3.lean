/- Plain laws: rounds are as early as possible. No program in sight. -/
import Derived.Test.YtfkccdmjlopleaaPlainC2
namespace Go.Proofs.Ytfkccdmjlopleaa
open Go.RowKit

theorem inTo_mono (zs rd : List Int) : ∀ d j, j + d ≤ zs.length → inTo zs rd j ≤ inTo zs rd (j + d)
  | 0, _, _ => Int.le_refl _
  | d + 1, j, h => by
    have h1 := inTo_mono zs rd d j (by omega)
    have h2 := inTo_succ zs rd (j + d) (by omega)
    rw [show j + (d + 1) = j + d + 1 by omega, h2]
    omega
theorem inTo_above (zs rd : List Int) (j : Nat) (hj : j < zs.length) : rd.getD (zs.getD j 0).toNat 0 + 1 ≤ inTo zs rd zs.length := by
  have h1 := inTo_succ zs rd j hj
  have h2 := inTo_mono zs rd (zs.length - (j + 1)) (j + 1) (by omega)
  rw [show j + 1 + (zs.length - (j + 1)) = zs.length by omega] at h2
  omega
theorem inTo_from (zs rd : List Int) (j : Nat) (hj : j ≤ zs.length) : inTo zs rd j = 1 ∨ ∃ i, i < j ∧ rd.getD (zs.getD i 0).toNat 0 = inTo zs rd j - 1 := by
  induction j with
  | zero => left; exact inTo_zero _ _
  | succ j ih =>
    rw [inTo_succ _ _ _ (by omega)]
    rcases Int.le_total (inTo zs rd j) (rd.getD (zs.getD j 0).toNat 0 + 1) with h | h
    · rw [Int.max_eq_right h]
      right
      exact ⟨j, by omega, by omega⟩
    · rw [Int.max_eq_left h]
      rcases ih (by omega) with h | ⟨i, hi, h⟩
      · exact .inl h
      · exact .inr ⟨i, by omega, h⟩
end Go.Proofs.Ytfkccdmjlopleaa
