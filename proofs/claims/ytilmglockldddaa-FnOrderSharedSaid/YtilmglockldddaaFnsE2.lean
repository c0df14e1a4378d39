/- Contracts: matrices with edges, the program's. -/
import Derived.Test.YtilmglockldddaaFnsE1
import Derived.Test.YtilmglockldddaaApp1
import Derived.Test.YtilmglockldddaaPlainM2
namespace Go.Proofs.Ytilmglockldddaa
open Go.RowKit

theorem rowOf_len (r c k : Int) (b off n cap lo m : Nat) (w : World) (hlo : k * c = (lo : Int)) (hhi : c = (m : Int)) (h1 : 0 < m) (h2 : lo + m ≤ n) (h3 : n ≤ cap) (h4 : cap ≤ 9223372036854775807) (hk : 0 ≤ k ∧ k ≤ 1000) :
    Calls Try.prog 47 #[matV r c (.slice (some ⟨b, off, none⟩) n cap), .int .i64 k] w fun e w' => ∃ cp, e = .returned (.slice (some ⟨b, off + lo, none⟩) m cp) ∧ m ≤ cp ∧ cp ≤ 9223372036854775807 ∧ Below w.heap.size w w' := by
  refine (rowOf_any r c k b off n cap lo (lo + m) w hlo (by rw [Int.add_mul, hlo, hhi]; simp) (by omega) h2 h3 h4 hk).mono ?_
  rintro e w' ⟨h, hb⟩
  rw [Nat.add_sub_cancel_left] at h
  exact ⟨_, h, by omega, by omega, hb⟩

def OkE (r c : Int) (zs : List Int) (d : Int) : Prop := OkM r c zs ∧ (0 ≤ d ∧ d ≤ 5) ∧ r + 2 * d ≤ 5 ∧ c + 2 * d ≤ 5

section
variable (r c l : Int) (A : Option Addr) (cap n B : Nat) (zs : List Int) (w : World) (hs : Sl w B A zs) (hB : B ≤ w.heap.size) (e : n = zs.length) (hn : n ≤ 1100000)
include hs hB e hn
end
end Go.Proofs.Ytilmglockldddaa
