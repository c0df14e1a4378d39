/- Contracts of the functions of plain numbers that all seats share: the ring, ranges, the fixed answer. -/
import Derived.Test.YtjmchblfihnhjaaChecked
import Derived.WalkKit
import Derived.WalkSpells
import Derived.WalkLawsBesides
import Derived.Laws.BitsAllLaws
import Derived.Laws.BitsLemmas
import Derived.Outline
namespace Go.Proofs.Ytjmchblfihnhjaa
open Go.RowKit

theorem l1In_yes (n lo hi : Int) (w : World) (h1 : lo ≤ n) (h2 : n ≤ hi) : Calls Try.prog 24 #[.int .i64 n, .int .i64 lo, .int .i64 hi] w fun e w' => e = .returned (.bool true) ∧ w = w' := by
  go_enter Try.func24, Try.ntmps24
  go_wp2
  go_ret
  exact ⟨by first | rfl | (simp; omega), rfl⟩
theorem l1In_no (n lo hi : Int) (w : World) (h : n < lo ∨ hi < n) : Calls Try.prog 24 #[.int .i64 n, .int .i64 lo, .int .i64 hi] w fun e w' => e = .returned (.bool false) ∧ w = w' := by
  by_cases h1 : lo ≤ n
  · have h2 : hi < n := by omega
    go_enter Try.func24, Try.ntmps24
    go_wp2
    go_ret
    exact ⟨by first | rfl | (simp; omega), rfl⟩
  · go_enter Try.func24, Try.ntmps24
    go_wp2
    go_ret
    exact ⟨by first | rfl | (simp; omega), rfl⟩
theorem saidValid_yes (n : Int) (w : World) (h1 : 0 ≤ n) (h2 : n ≤ 2147483646) : Calls Try.prog 25 #[.int .i64 n] w fun e w' => e = .returned (.bool true) ∧ w = w' := by
  go_enter Try.func25, Try.ntmps25
  go_wp2
  go_ret
  exact ⟨by first | rfl | (simp; omega), rfl⟩
theorem saidValid_no (n : Int) (w : World) (h : n < 0 ∨ 2147483646 < n) : Calls Try.prog 25 #[.int .i64 n] w fun e w' => e = .returned (.bool false) ∧ w = w' := by
  by_cases h1 : 0 ≤ n
  · have h2 : 2147483646 < n := by omega
    go_enter Try.func25, Try.ntmps25
    go_wp2
    go_ret
    exact ⟨by first | rfl | (simp; omega), rfl⟩
  · go_enter Try.func25, Try.ntmps25
    go_wp2
    go_ret
    exact ⟨by first | rfl | (simp; omega), rfl⟩
/-- x & 4095: the remainder. -/
theorem and4095 (x : Int) : bits .and .i64 x 4095 = x % 4096 := by
  have h1 : (BitVec.ofInt 64 (4095 : Int)).toNat = 4095 := by decide
  have h2 : ∀ a : Nat, a &&& 4095 = a % 4096 := fun a => Nat.and_two_pow_sub_one_eq_mod a 12
  show IntKind.i64.wrap ((BitVec.ofInt 64 x &&& BitVec.ofInt 64 (4095 : Int)).toNat : Int) = _
  rw [BitVec.toNat_and, h1, h2, BitVec.toNat_ofInt, IntKind.wrap_i64]
  omega
theorem ringValid_any (x : Int) (w : World) : Calls Try.prog 28 #[.int .i64 x] w fun e w' => e = .returned (.bool (x % 4096 == x)) ∧ w = w' := by
  go_enter Try.func28, Try.ntmps28
  go_wp2
  go_ret
  exact ⟨by simp [and4095], rfl⟩
end Go.Proofs.Ytjmchblfihnhjaa
