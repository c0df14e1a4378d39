/- Plain laws of orders. No program in sight. -/
import Derived.WalkKit
namespace Go.Proofs.Ytilmglockldddaa
open Go.RowKit

/-- Is j among the first k numbers? -/
def tk (zs : List Int) (k j : Nat) : Bool := decide ((j : Int) ∈ zs.take k)
def tks (zs : List Int) (k n : Nat) : List Bool := (List.range n).map (tk zs k)
theorem tks_length (zs : List Int) (k n : Nat) : (tks zs k n).length = n := by simp [tks]
theorem tks_zero (zs : List Int) (n : Nat) : tks zs 0 n = List.replicate n false := by
  apply List.ext_getElem
  · simp [tks]
  · intro j h1 h2
    simp [tks, tk]
theorem tks_get (zs : List Int) (k n j : Nat) (hj : j < n) : (tks zs k n)[j]? = some (tk zs k j) := by simp [tks, hj]
theorem tk_succ (zs : List Int) (k j : Nat) (hk : k < zs.length) : tk zs (k + 1) j = (tk zs k j || decide (zs.getD k 0 = (j : Int))) := by
  unfold tk
  have e3 : zs.take (k + 1) = zs.take k ++ [zs.getD k 0] := by rw [List.take_add_one, List.getElem?_eq_getElem hk]; simp [hk]
  rw [e3]
  generalize zs.getD k 0 = z
  by_cases h1 : (j : Int) ∈ zs.take k <;> by_cases h2 : z = (j : Int) <;> simp [h1, h2, eq_comm]
theorem tks_succ (zs : List Int) (k n m : Nat) (hk : k < zs.length) (hm : zs.getD k 0 = (m : Int)) : tks zs (k + 1) n = (tks zs k n).set m true := by
  apply List.ext_getElem
  · simp [tks]
  · intro j h1 h2
    have hj : j < n := by simpa [tks] using h1
    rw [List.getElem_set]
    simp only [tks, List.getElem_map, List.getElem_range]
    rw [tk_succ zs k j hk, hm]
    by_cases e : m = j
    · subst e; simp
    · rw [if_neg e, show decide ((m : Int) = (j : Int)) = false by simp; omega, Bool.or_false]
/-- The first k numbers are in range and each is there once. -/
def okOTo (zs : List Int) (k : Nat) : Prop := ∀ j, j < k → (0 ≤ zs.getD j 0 ∧ zs.getD j 0 < zs.length) ∧ ∀ i, i < j → zs.getD i 0 ≠ zs.getD j 0
def OkO (zs : List Int) : Prop := (1 ≤ zs.length ∧ zs.length ≤ 5) ∧ okOTo zs zs.length
theorem okOTo_zero (zs : List Int) : okOTo zs 0 := fun j hj => absurd hj (by omega)
theorem tk_iff (zs : List Int) (k j : Nat) (hk : k ≤ zs.length) : tk zs k j = true ↔ ∃ i, i < k ∧ zs.getD i 0 = (j : Int) := by
  unfold tk
  rw [decide_eq_true_iff, List.mem_iff_getElem]
  constructor
  · rintro ⟨i, hi, e⟩
    have hi' : i < k := by simp at hi; omega
    refine ⟨i, hi', ?_⟩
    rw [List.getElem_take] at e
    simpa [show i < zs.length by omega] using e
  · rintro ⟨i, hi, e⟩
    refine ⟨i, by simp; omega, ?_⟩
    rw [List.getElem_take]
    simpa [show i < zs.length by omega] using e
theorem okOTo_succ {zs : List Int} {k m : Nat} (h : okOTo zs k) (hk : k < zs.length) (hm : zs.getD k 0 = (m : Int)) (hlt : m < zs.length) (ht : tk zs k m = false) : okOTo zs (k + 1) := fun j hj => by
  by_cases e : j = k
  · subst e
    refine ⟨by omega, fun i hi he => ?_⟩
    have := (tk_iff zs j m (by omega)).2 ⟨i, hi, by rw [he, hm]⟩
    rw [ht] at this
    exact absurd this (by simp)
  · exact h j (by omega)
theorem not_okO_range {zs : List Int} {k : Nat} (hk : k < zs.length) (h : zs.getD k 0 < 0 ∨ (zs.length : Int) ≤ zs.getD k 0) : ¬ OkO zs := fun hh => by
  have := (hh.2 k hk).1
  omega
theorem not_okO_twice {zs : List Int} {k m : Nat} (hk : k < zs.length) (hm : zs.getD k 0 = (m : Int)) (ht : tk zs k m = true) : ¬ OkO zs := fun hh => by
  obtain ⟨i, hi, e⟩ := (tk_iff zs k m (by omega)).1 ht
  exact (hh.2 k hk).2 i hi (by rw [e, hm])
end Go.Proofs.Ytilmglockldddaa
