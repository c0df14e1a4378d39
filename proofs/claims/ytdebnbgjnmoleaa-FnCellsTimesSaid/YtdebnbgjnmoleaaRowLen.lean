/- Contract: rows of matrices, with their length. -/
import Derived.Test.YtdebnbgjnmoleaaFnsE1
namespace Go.Proofs.Ytdebnbgjnmoleaa
open Go.RowKit

theorem rowOf_lenF (r c k : Int) (b off n cap lo m : Nat) (w : World) (hlo : k * c = (lo : Int)) (hhi : c = (m : Int)) (h1 : 0 < m) (h2 : lo + m ≤ n) (h3 : n ≤ cap) (h4 : cap ≤ 9223372036854775807) (hk : 0 ≤ k ∧ k ≤ 1000) :
    Calls Try.prog 41 #[matV r c (.slice (some ⟨b, off, none⟩) n cap), .int .i64 k] w fun e w' => ∃ cp, e = .returned (.slice (some ⟨b, off + lo, none⟩) m cp) ∧ m ≤ cp ∧ cp ≤ 9223372036854775807 ∧ Below w.heap.size w w' := by
  refine (rowOf_any r c k b off n cap lo (lo + m) w hlo (by rw [Int.add_mul, hlo, hhi]; simp) (by omega) h2 h3 h4 hk).mono ?_
  rintro e w' ⟨h, hb⟩
  rw [Nat.add_sub_cancel_left] at h
  exact ⟨_, h, by omega, by omega, hb⟩
end Go.Proofs.Ytdebnbgjnmoleaa
