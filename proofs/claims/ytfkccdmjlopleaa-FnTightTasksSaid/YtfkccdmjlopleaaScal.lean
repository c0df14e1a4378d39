/- Contracts of the functions of plain numbers that all seats share: the ring, ranges, the fixed answer. -/
import Derived.Test.YtfkccdmjlopleaaChecked
import Derived.WalkKit
import Derived.WalkSpells
import Derived.WalkLawsBesides
import Derived.Laws.BitsAllLaws
import Derived.Laws.BitsLemmas
import Derived.Outline
namespace Go.Proofs.Ytfkccdmjlopleaa
open Go.RowKit

theorem l1In_yes (n lo hi : Int) (w : World) (h1 : lo ≤ n) (h2 : n ≤ hi) : Calls Try.prog 33 #[.int .i64 n, .int .i64 lo, .int .i64 hi] w fun e w' => e = .returned (.bool true) ∧ w = w' := by
  go_enter Try.func33, Try.ntmps33
  go_wp2
  go_ret
  exact ⟨by first | rfl | (simp; omega), rfl⟩
theorem l1In_no (n lo hi : Int) (w : World) (h : n < lo ∨ hi < n) : Calls Try.prog 33 #[.int .i64 n, .int .i64 lo, .int .i64 hi] w fun e w' => e = .returned (.bool false) ∧ w = w' := by
  by_cases h1 : lo ≤ n
  · have h2 : hi < n := by omega
    go_enter Try.func33, Try.ntmps33
    go_wp2
    go_ret
    exact ⟨by first | rfl | (simp; omega), rfl⟩
  · go_enter Try.func33, Try.ntmps33
    go_wp2
    go_ret
    exact ⟨by first | rfl | (simp; omega), rfl⟩
/-- x & 4095: the remainder. -/
theorem and4095 (x : Int) : bits .and .i64 x 4095 = x % 4096 := by
  have h1 : (BitVec.ofInt 64 (4095 : Int)).toNat = 4095 := by decide
  have h2 : ∀ a : Nat, a &&& 4095 = a % 4096 := fun a => Nat.and_two_pow_sub_one_eq_mod a 12
  show IntKind.i64.wrap ((BitVec.ofInt 64 x &&& BitVec.ofInt 64 (4095 : Int)).toNat : Int) = _
  rw [BitVec.toNat_and, h1, h2, BitVec.toNat_ofInt, IntKind.wrap_i64]
  omega
theorem ringValid_any (x : Int) (w : World) : Calls Try.prog 37 #[.int .i64 x] w fun e w' => e = .returned (.bool (x % 4096 == x)) ∧ w = w' := by
  go_enter Try.func37, Try.ntmps37
  go_wp2
  go_ret
  exact ⟨by simp [and4095], rfl⟩
theorem ringValid_yes (x : Int) (w : World) (h1 : 0 ≤ x) (h2 : x ≤ 4095) : Calls Try.prog 37 #[.int .i64 x] w fun e w' => e = .returned (.bool true) ∧ w = w' :=
  (ringValid_any x w).mono fun _ _ ⟨he, hw⟩ => ⟨by rw [he, show (x % 4096 == x) = true by rw [beq_iff_eq]; omega], hw⟩
theorem ringValid_no (x : Int) (w : World) (h : x < 0 ∨ 4095 < x) : Calls Try.prog 37 #[.int .i64 x] w fun e w' => e = .returned (.bool false) ∧ w = w' :=
  (ringValid_any x w).mono fun _ _ ⟨he, hw⟩ => ⟨by rw [he, show (x % 4096 == x) = false by rw [beq_eq_false_iff_ne]; omega], hw⟩
theorem alive_any (w : World) : Calls Try.prog 17 #[] w fun e w' => e = .returned (.bool true) ∧ w = w' := by
  go_enter Try.func17, Try.ntmps17
  go_wp2_with fail
  refine (ringValid_any _ _).mono ?_
  rintro e w' ⟨rfl, rfl⟩
  go_wp2
  go_ret
  exact ⟨rfl, rfl⟩
end Go.Proofs.Ytfkccdmjlopleaa
