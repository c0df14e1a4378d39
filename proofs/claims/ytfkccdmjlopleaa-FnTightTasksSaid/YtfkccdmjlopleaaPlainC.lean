/- Plain laws of tasks that wait for earlier ones. No program in sight. -/
import Derived.Test.YtfkccdmjlopleaaMemSS
namespace Go.Proofs.Ytfkccdmjlopleaa
open Go.RowKit

/-- The first j numbers are earlier than t. -/
def okIn (zs : List Int) (t j : Nat) : Prop := ∀ i, i < j → 0 ≤ zs.getD i 0 ∧ zs.getD i 0 < (t : Int)
def okW (zs : List Int) (t : Nat) : Prop := zs.length ≤ 4 ∧ okIn zs t zs.length
/-- The first k tasks wait for few and for earlier ones. -/
def okTTo (zss : List (List Int)) (k : Nat) : Prop := ∀ t, t < k → okW (at2 zss t) t
def OkT (zss : List (List Int)) : Prop := zss.length ≤ 12 ∧ okTTo zss zss.length
theorem okIn_zero (zs : List Int) (t : Nat) : okIn zs t 0 := fun _ h => absurd h (by omega)
theorem okIn_succ {zs : List Int} {t j : Nat} (h : okIn zs t j) (h1 : 0 ≤ zs.getD j 0) (h2 : zs.getD j 0 < (t : Int)) : okIn zs t (j + 1) := fun i hi => by
  by_cases e : i = j
  · subst e; exact ⟨h1, h2⟩
  · exact h i (by omega)
theorem okTTo_zero (zss : List (List Int)) : okTTo zss 0 := fun _ h => absurd h (by omega)
theorem okTTo_succ {zss : List (List Int)} {k : Nat} (h : okTTo zss k) (hk : okW (at2 zss k) k) : okTTo zss (k + 1) := fun t ht => by
  by_cases e : t = k
  · subst e; exact hk
  · exact h t (by omega)
theorem not_okT_len {zss : List (List Int)} {k : Nat} (hk : k < zss.length) (h : 4 < (at2 zss k).length) : ¬ OkT zss := fun hh => by have := (hh.2 k hk).1; omega
theorem not_okT_in {zss : List (List Int)} {k j : Nat} (hk : k < zss.length) (hj : j < (at2 zss k).length) (h : (at2 zss k).getD j 0 < 0 ∨ (k : Int) ≤ (at2 zss k).getD j 0) : ¬ OkT zss := fun hh => by have := (hh.2 k hk).2 j hj; omega
open Classical in
noncomputable def okTB (zss : List (List Int)) : Bool := decide (OkT zss)
theorem okTB_iff (zss : List (List Int)) : okTB zss = true ↔ OkT zss := by simp [okTB]
end Go.Proofs.Ytfkccdmjlopleaa
