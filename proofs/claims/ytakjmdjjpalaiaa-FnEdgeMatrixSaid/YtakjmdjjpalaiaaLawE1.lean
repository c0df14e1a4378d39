/- Whole contracts: matrices with edges. -/
import Derived.Test.YtakjmdjjpalaiaaFnsE4
import Derived.Test.YtakjmdjjpalaiaaDrw
namespace Go.Proofs.Ytakjmdjjpalaiaa
open Go.RowKit

open Classical in
noncomputable def edgR (r c l : Int) (zs : List Int) : Int := if OkE r c zs l then ((r.toNat + 2 * l.toNat : Nat) : Int) else 0
open Classical in
noncomputable def edgC (r c l : Int) (zs : List Int) : Int := if OkE r c zs l then ((c.toNat + 2 * l.toNat : Nat) : Int) else 0
open Classical in
noncomputable def edgZ (r c l : Int) (zs : List Int) : List Int := if OkE r c zs l then edgeZ l.toNat r.toNat c.toNat zs else []
section
variable (r c l : Int) (A : Option Addr) (cap n B : Nat) (zs : List Int) (w : World) (hs : Sl w B A zs) (hB : B ≤ w.heap.size) (e : n = zs.length) (hn : n ≤ 1100000) (hnc : n ≤ cap) (hcm : cap ≤ maxLen)
include hs hB e hn hnc hcm
theorem implEdge_any : Calls Try.prog 50 #[matV r c (.slice A n cap), .int .i64 l] w fun e w' => ∃ s, e = .returned (matV (edgR r c l zs) (edgC r c l zs) s) ∧ Row w' w.heap.size w'.heap.size s (edgZ r c l zs) ∧ Below w.heap.size w w' := by
  unfold edgR edgC edgZ
  by_cases h : OkE r c zs l
  · rw [if_pos h, if_pos h, if_pos h]
    have h' := h
    obtain ⟨⟨h1, h2, _⟩, h3, _⟩ := h'
    obtain ⟨rn, rfl⟩ := Int.eq_ofNat_of_zero_le (show 0 ≤ r by omega)
    obtain ⟨cn, rfl⟩ := Int.eq_ofNat_of_zero_le (show 0 ≤ c by omega)
    obtain ⟨ln, rfl⟩ := Int.eq_ofNat_of_zero_le h3.1
    exact implEdge_yes rn cn ln A cap n B zs w hs hB e hn hnc hcm h
  · rw [if_neg h, if_neg h, if_neg h]
    exact (implEdge_no r c l A cap n B zs w hs hB e hn h).mono fun e w' ⟨h1, h2⟩ => ⟨_, h1, Row.nil_ _ _ _, h2⟩
omit hnc hcm in
theorem specEdge_any : Calls Try.prog 49 #[matV r c (.slice A n cap), .int .i64 l] w fun e w' => ∃ s, e = .returned (matV (edgR r c l zs) (edgC r c l zs) s) ∧ Row w' w.heap.size w'.heap.size s (edgZ r c l zs) ∧ Below w.heap.size w w' := by
  unfold edgR edgC edgZ
  by_cases h : OkE r c zs l
  · rw [if_pos h, if_pos h, if_pos h]
    have h' := h
    obtain ⟨⟨h1, h2, _⟩, h3, _⟩ := h'
    obtain ⟨rn, rfl⟩ := Int.eq_ofNat_of_zero_le (show 0 ≤ r by omega)
    obtain ⟨cn, rfl⟩ := Int.eq_ofNat_of_zero_le (show 0 ≤ c by omega)
    obtain ⟨ln, rfl⟩ := Int.eq_ofNat_of_zero_le h3.1
    exact specEdge_yes rn cn ln A cap n B zs w hs hB e hn h
  · rw [if_neg h, if_neg h, if_neg h]
    exact (specEdge_no r c l A cap n B zs w hs hB e hn h).mono fun e w' ⟨h1, h2⟩ => ⟨_, h1, Row.nil_ _ _ _, h2⟩
end
theorem edgZ_len (r c l : Int) (zs : List Int) (_ : zs.length ≤ 1048576) : (edgZ r c l zs).length ≤ 1048576 := by
  unfold edgZ
  split
  · next h =>
    obtain ⟨⟨h1, h2, _⟩, h3, h4, h5⟩ := h
    obtain ⟨rn, rfl⟩ := Int.eq_ofNat_of_zero_le (show 0 ≤ r by omega)
    obtain ⟨cn, rfl⟩ := Int.eq_ofNat_of_zero_le (show 0 ≤ c by omega)
    obtain ⟨ln, rfl⟩ := Int.eq_ofNat_of_zero_le h3.1
    rw [edgeZ, tab_len]
    simp only [Int.toNat_natCast]
    have := side_mul (r := ((rn + 2 * ln : Nat) : Int)) (c := ((cn + 2 * ln : Nat) : Int)) (by omega) (by omega)
    have e : (((rn + 2 * ln) * (cn + 2 * ln) : Nat) : Int) = ((rn + 2 * ln : Nat) : Int) * ((cn + 2 * ln : Nat) : Int) := by rw [Int.natCast_mul]
    omega
  · simp
end Go.Proofs.Ytakjmdjjpalaiaa
