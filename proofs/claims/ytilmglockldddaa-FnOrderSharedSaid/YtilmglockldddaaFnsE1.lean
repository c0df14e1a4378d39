/- Contracts: rows of matrices. -/
import Derived.Test.YtilmglockldddaaMatV4
namespace Go.Proofs.Ytilmglockldddaa
open Go.RowKit

theorem rowOf_any (r c k : Int) (b off n cap lo hi : Nat) (w : World) (hlo : k * c = (lo : Int)) (hhi : (k + 1) * c = (hi : Int)) (h1 : lo < hi) (h2 : hi ≤ n) (h3 : n ≤ cap) (h4 : cap ≤ 9223372036854775807) (hk : 0 ≤ k ∧ k ≤ 1000) :
    Calls Try.prog 47 #[matV r c (.slice (some ⟨b, off, none⟩) n cap), .int .i64 k] w fun e w' => e = .returned (.slice (some ⟨b, off + lo, none⟩) (hi - lo) (cap - lo)) ∧ Below w.heap.size w w' := by
  have q0 := Cell3.new w (.int .i64 r) (.int .i64 c) (.slice (some ⟨b, off, none⟩) n cap) 33
  obtain ⟨W, hW⟩ : ∃ W, w.alloc (.cells #[.int .i64 r, .int .i64 c, .slice (some ⟨b, off, none⟩) n cap] 33) = W := ⟨_, rfl⟩
  have hb : Below w.heap.size w W := hW ▸ (Below.refl _ _).alloc (Nat.le_refl _) _
  rw [hW] at q0
  obtain ⟨a0, a1, a2, _, _, _, alt⟩ := q0
  have hlc : lo ≤ cap := by omega
  have hhc : hi ≤ cap := by omega
  have hnl : (lo : Int) ≤ (hi : Int) := by omega
  have hnc : (hi : Int) ≤ (cap : Int) := by omega
  go_enter Try.func47, Try.ntmps47
  go_wp2
  go_ret
  exact ⟨rfl, hb⟩
end Go.Proofs.Ytilmglockldddaa
