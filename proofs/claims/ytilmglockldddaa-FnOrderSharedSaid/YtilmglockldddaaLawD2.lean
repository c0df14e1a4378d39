/- Whole contracts: ordered rows. -/
import Derived.Test.YtilmglockldddaaFnsD4
import Derived.Test.YtilmglockldddaaDrw
namespace Go.Proofs.Ytilmglockldddaa
open Go.RowKit

open Classical in
noncomputable def ordR (r c : Int) (zs os : List Int) : Int := if OkR r c zs os then r else 0
open Classical in
noncomputable def ordC (r c : Int) (zs os : List Int) : Int := if OkR r c zs os then c else 0
open Classical in
noncomputable def ordZ (r c : Int) (zs os : List Int) : List Int := if OkR r c zs os then orderZ r.toNat c.toNat zs os else []
section
variable (r c : Int) (A : Option Addr) (cap n B : Nat) (zs : List Int) (Ao : Option Addr) (co no Bo : Nat) (os : List Int) (w : World) (hs : Sl w B A zs) (hB : B ≤ w.heap.size) (e : n = zs.length) (hn : n ≤ 1100000) (hso : Sl w Bo Ao os) (hBo : Bo ≤ w.heap.size) (eo : no = os.length) (hno : no ≤ 1100000)
include hs hB e hn hso hBo eo hno
theorem implOrd_any (hnc : n ≤ cap) (hcm : cap ≤ maxLen) : Calls Try.prog 18 #[matV r c (.slice A n cap), .slice Ao no co] w fun e w' => ∃ s, e = .returned (matV (ordR r c zs os) (ordC r c zs os) s) ∧ Row w' w.heap.size w'.heap.size s (ordZ r c zs os) ∧ Below w.heap.size w w' := by
  unfold ordR ordC ordZ
  by_cases h : OkR r c zs os
  · rw [if_pos h, if_pos h, if_pos h]
    have h' := h
    obtain ⟨⟨h1, h2, _⟩, h3, _⟩ := h'
    obtain ⟨rn, rfl⟩ := Int.eq_ofNat_of_zero_le (show 0 ≤ r by omega)
    obtain ⟨cn, rfl⟩ := Int.eq_ofNat_of_zero_le (show 0 ≤ c by omega)
    exact implOrd_yes rn cn A cap n B zs Ao co no Bo os w hs hB e hn hso hBo eo hno hnc hcm h
  · rw [if_neg h, if_neg h, if_neg h]
    exact (implOrd_no r c A cap n B zs Ao co no Bo os w hs hB e hn hso hBo eo hno h).mono fun e w' ⟨h1, h2⟩ => ⟨_, h1, Row.nil_ _ _ _, h2⟩
theorem specOrd_any : Calls Try.prog 16 #[matV r c (.slice A n cap), .slice Ao no co] w fun e w' => ∃ s, e = .returned (matV (ordR r c zs os) (ordC r c zs os) s) ∧ Row w' w.heap.size w'.heap.size s (ordZ r c zs os) ∧ Below w.heap.size w w' := by
  unfold ordR ordC ordZ
  by_cases h : OkR r c zs os
  · rw [if_pos h, if_pos h, if_pos h]
    have h' := h
    obtain ⟨⟨h1, h2, _⟩, h3, _⟩ := h'
    obtain ⟨rn, rfl⟩ := Int.eq_ofNat_of_zero_le (show 0 ≤ r by omega)
    obtain ⟨cn, rfl⟩ := Int.eq_ofNat_of_zero_le (show 0 ≤ c by omega)
    exact specOrd_yes rn cn A cap n B zs Ao co no Bo os w hs hB e hn hso hBo eo hno h
  · rw [if_neg h, if_neg h, if_neg h]
    exact (specOrd_no r c A cap n B zs Ao co no Bo os w hs hB e hn hso hBo eo hno h).mono fun e w' ⟨h1, h2⟩ => ⟨_, h1, Row.nil_ _ _ _, h2⟩
end
theorem ordZ_len (r c : Int) (zs os : List Int) (h0 : zs.length ≤ 1048576) (_ : os.length ≤ 1048576) : (ordZ r c zs os).length ≤ 1048576 := by
  unfold ordZ
  split
  · next h =>
    obtain ⟨⟨h1, h2, h3, _⟩, _⟩ := h
    obtain ⟨rn, rfl⟩ := Int.eq_ofNat_of_zero_le (show 0 ≤ r by omega)
    obtain ⟨cn, rfl⟩ := Int.eq_ofNat_of_zero_le (show 0 ≤ c by omega)
    rw [orderZ_len]
    simp only [Int.toNat_natCast]
    have e : ((rn * cn : Nat) : Int) = (rn : Int) * (cn : Int) := by simp
    omega
  · simp
end Go.Proofs.Ytilmglockldddaa
