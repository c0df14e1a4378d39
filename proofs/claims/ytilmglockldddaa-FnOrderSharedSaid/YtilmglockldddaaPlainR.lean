/- Plain laws of the random numbers. No program in sight. -/
import Derived.Test.YtilmglockldddaaPlainG
namespace Go.Proofs.Ytilmglockldddaa

/-- The next seed. -/
def rNx (s : Int) : Int := s * 48271 % 2147483647
/-- The ring number behind a seed. -/
def rNum (s : Int) : Int := s / 8 % 4096
/-- The seed after k steps. -/
def rSd (s : Int) : Nat → Int
  | 0 => s
  | k + 1 => rNx (rSd s k)
/-- The first k ring numbers. -/
def rLs (s : Int) (k : Nat) : List Int := (List.range k).map fun j => rNum (rSd s (j + 1))
theorem rLs_len (s : Int) (k : Nat) : (rLs s k).length = k := by simp [rLs]
theorem rLs_succ (s : Int) (k : Nat) : rLs s (k + 1) = rLs s k ++ [rNum (rSd s (k + 1))] := by simp [rLs, List.range_succ]
theorem rLs_zero (s : Int) : rLs s 0 = [] := rfl
theorem rNx_rng {s : Int} (h : 1 ≤ s ∧ s ≤ 2147483646) : 1 ≤ rNx s ∧ rNx s ≤ 2147483646 := by
  unfold rNx
  omega
theorem rSd_rng {s : Int} (h : 1 ≤ s ∧ s ≤ 2147483646) (k : Nat) : 1 ≤ rSd s k ∧ rSd s k ≤ 2147483646 := by
  induction k with
  | zero => exact h
  | succ k ih => exact rNx_rng ih
theorem rNum_rng (s : Int) : 0 ≤ rNum s ∧ rNum s ≤ 4095 := by
  unfold rNum
  omega
theorem rLs_rng (s : Int) (k p : Nat) (hp : p < k) : 0 ≤ (rLs s k).getD p 0 ∧ (rLs s k).getD p 0 ≤ 4095 := by
  have e : (rLs s k).getD p 0 = rNum (rSd s (p + 1)) := by simp [rLs, hp]
  rw [e]
  exact rNum_rng _
end Go.Proofs.Ytilmglockldddaa
