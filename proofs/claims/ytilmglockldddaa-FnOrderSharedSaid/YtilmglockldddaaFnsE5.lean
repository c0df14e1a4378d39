/- Contracts: ring numbers of numbers; sums of windows. -/
import Derived.Test.YtilmglockldddaaFnsE2
namespace Go.Proofs.Ytilmglockldddaa
open Go.RowKit

theorem implRing (x : Int) (w : World) : Calls Try.prog 80 #[.int .i64 x] w fun e w' => e = .returned (.int .i64 (x % 4096)) ∧ w = w' := by
  go_enter Try.func80, Try.ntmps80
  go_wp2
  go_ret
  exact ⟨by simp [and4095], rfl⟩
theorem nestMM (w : World) (r c r2 c2 : Int) (s s2 : Value) : ∀ W, W = (w.alloc (.cells #[.int .i64 r, .int .i64 c, s] 33)).alloc (.cells #[.int .i64 r2, .int .i64 c2, s2] 33) →
    Cell3 W w.heap.size (.int .i64 r) (.int .i64 c) s ∧ Cell3 W (w.heap.size + 1) (.int .i64 r2) (.int .i64 c2) s2 ∧ Below w.heap.size w W ∧ W.heap.size = w.heap.size + 2 := by
  rintro W rfl
  have a := Cell3.new w (.int .i64 r) (.int .i64 c) s 33
  have b := Cell3.new (w.alloc (.cells #[.int .i64 r, .int .i64 c, s] 33)) (.int .i64 r2) (.int .i64 c2) s2 33
  simp only [World.size_alloc] at b
  exact ⟨a.alloc _, b, ((Below.refl _ _).alloc (Nat.le_refl _) _).alloc (by simp) _, by simp⟩
theorem mul_rng {x y : Int} (hx : 0 ≤ x ∧ x ≤ 4095) (hy : 0 ≤ y ∧ y ≤ 4095) : 0 ≤ x * y ∧ x * y ≤ 16769025 :=
  ⟨Int.mul_nonneg hx.1 hy.1, Int.le_trans (Int.mul_le_mul hx.2 hy.2 hy.1 (by omega)) (by omega)⟩
theorem foldS_bound {kr kc c : Nat} {zs ks : List Int} {a b : Nat} (hz : ∀ p, 0 ≤ zs.getD p 0 ∧ zs.getD p 0 ≤ 4095) (hk : ∀ p, 0 ≤ ks.getD p 0 ∧ ks.getD p 0 ≤ 4095) (n : Nat) : 0 ≤ foldS kr kc c zs ks a b n ∧ foldS kr kc c zs ks a b n ≤ n * 16769025 := by
  unfold foldS
  induction n with
  | zero => simp [S]
  | succ n ih =>
    rw [S_succ]
    have := mul_rng (hz ((a + n / kc) * c + (b + n % kc))) (hk n)
    push_cast
    omega
theorem foldS_succ (kr kc c : Nat) (zs ks : List Int) (a b k j : Nat) (hj : j < kc) : foldS kr kc c zs ks a b (k * kc + j + 1) = foldS kr kc c zs ks a b (k * kc + j) + ks.getD (k * kc + j) 0 * zs.getD ((a + k) * c + (b + j)) 0 := by
  unfold foldS
  rw [S_succ, ix_div hj, ix_mod hj, Int.mul_comm (ks.getD _ 0)]

end Go.Proofs.Ytilmglockldddaa
