/- Plain laws of two lists, number by number. No program in sight. -/
import Derived.Test.YtilmglockldddaaPlainM2
namespace Go.Proofs.Ytilmglockldddaa

/-- What a step makes of two lists. -/
def pairZ (f : Int → Int → Int) (xs ys : List Int) : List Int := (List.range xs.length).map fun k => f (xs.getD k 0) (ys.getD k 0)
/-- The same, the first k numbers. -/
def pairTo (f : Int → Int → Int) (xs ys : List Int) (k : Nat) : List Int := (List.range xs.length).map fun p => if p < k then f (xs.getD p 0) (ys.getD p 0) else 0
theorem pairZ_len (f : Int → Int → Int) (xs ys : List Int) : (pairZ f xs ys).length = xs.length := by simp [pairZ]
theorem pairZ_get (f : Int → Int → Int) (xs ys : List Int) (p : Nat) (hp : p < xs.length) : (pairZ f xs ys).getD p 0 = f (xs.getD p 0) (ys.getD p 0) := by simp [pairZ, hp]
theorem pairTo_len (f : Int → Int → Int) (xs ys : List Int) (k : Nat) : (pairTo f xs ys k).length = xs.length := by simp [pairTo]
theorem pairTo_get (f : Int → Int → Int) (xs ys : List Int) (k p : Nat) (hp : p < xs.length) : (pairTo f xs ys k).getD p 0 = if p < k then f (xs.getD p 0) (ys.getD p 0) else 0 := by simp [pairTo, hp]
theorem pairTo_zero (f : Int → Int → Int) (xs ys : List Int) : pairTo f xs ys 0 = List.replicate xs.length 0 := by
  apply ext_getM
  · simp [pairTo]
  · intro p hp
    rw [pairTo_len] at hp
    rw [pairTo_get _ _ _ _ _ hp, if_neg (by omega)]
    simp [List.getD_eq_getElem?_getD, hp]
theorem pairTo_full (f : Int → Int → Int) (xs ys : List Int) : pairTo f xs ys xs.length = pairZ f xs ys := by
  apply ext_getM
  · rw [pairTo_len, pairZ_len]
  · intro p hp
    rw [pairTo_len] at hp
    rw [pairTo_get _ _ _ _ _ hp, if_pos hp, pairZ_get _ _ _ _ hp]
theorem pairTo_succ (f : Int → Int → Int) (xs ys : List Int) (k : Nat) : pairTo f xs ys (k + 1) = (pairTo f xs ys k).set k (f (xs.getD k 0) (ys.getD k 0)) := by
  symm
  apply ext_getM
  · rw [List.length_set, pairTo_len, pairTo_len]
  · intro p hp
    rw [List.length_set, pairTo_len] at hp
    rw [getM_set, pairTo_len, pairTo_get _ _ _ _ _ hp, pairTo_get _ _ _ _ _ hp]
    by_cases e : k = p
    · subst e
      rw [if_pos ⟨rfl, hp⟩, if_pos (by omega)]
    · rw [if_neg (fun h => e h.1)]
      by_cases h : p < k
      · rw [if_pos h, if_pos (by omega)]
      · rw [if_neg h, if_neg (by omega)]
def subF (a b : Int) : Int := (a - b) % 4096
theorem addZ_pair (xs ys : List Int) : pairZ addF xs ys = addZ xs ys := rfl
theorem addZ_self (ks : List Int) : addZ ks ks = ks.map fun k => (k + k) % 4096 := by
  apply ext_getM
  · rw [addZ_len, List.length_map]
  · intro p hp
    rw [addZ_len] at hp
    rw [addZ_get _ _ rfl]
    simp [List.getD_eq_getElem?_getD, List.getElem?_map, List.getElem?_eq_getElem hp]
theorem addZ_rng (xs ys : List Int) (h : xs.length = ys.length) (p : Nat) : 0 ≤ (addZ xs ys).getD p 0 ∧ (addZ xs ys).getD p 0 ≤ 4095 := by
  rw [addZ_get _ _ h]; omega
theorem pairTo_rng (f : Int → Int → Int) (hf : ∀ a b, 0 ≤ f a b ∧ f a b ≤ 4095) (xs ys : List Int) (k p : Nat) : 0 ≤ (pairTo f xs ys k).getD p 0 ∧ (pairTo f xs ys k).getD p 0 ≤ 4095 := by
  rcases Nat.lt_or_ge p xs.length with h | h
  · rw [pairTo_get _ _ _ _ _ h]
    split
    · exact hf _ _
    · omega
  · have : (pairTo f xs ys k).getD p 0 = 0 := by rw [List.getD_eq_getElem?_getD, List.getElem?_eq_none (by rw [pairTo_len]; exact h)]; rfl
    rw [this]; omega
end Go.Proofs.Ytilmglockldddaa
