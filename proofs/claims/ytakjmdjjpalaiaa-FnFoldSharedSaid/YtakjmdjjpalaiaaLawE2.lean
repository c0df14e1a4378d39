/- Whole contracts: folded matrices. -/
import Derived.Test.YtakjmdjjpalaiaaFnsE7
import Derived.Test.YtakjmdjjpalaiaaFnsE8
namespace Go.Proofs.Ytakjmdjjpalaiaa
open Go.RowKit

open Classical in
noncomputable def fldR (r c : Int) (zs : List Int) (kr kc : Int) (ks : List Int) : Int := if OkF r c zs kr kc ks then ((r.toNat - kr.toNat + 1 : Nat) : Int) else 0
open Classical in
noncomputable def fldC (r c : Int) (zs : List Int) (kr kc : Int) (ks : List Int) : Int := if OkF r c zs kr kc ks then ((c.toNat - kc.toNat + 1 : Nat) : Int) else 0
open Classical in
noncomputable def fldZ (r c : Int) (zs : List Int) (kr kc : Int) (ks : List Int) : List Int := if OkF r c zs kr kc ks then foldZ kr.toNat kc.toNat r.toNat c.toNat zs ks else []
section
variable (r c : Int) (A : Option Addr) (cap n B : Nat) (zs : List Int) (kr kc : Int) (Ak : Option Addr) (capk nk Bk : Nat) (ks : List Int) (w : World) (hs : Sl w B A zs) (hB : B ≤ w.heap.size) (e : n = zs.length) (hn : n ≤ 1100000) (hsk : Sl w Bk Ak ks) (hBk : Bk ≤ w.heap.size) (ek : nk = ks.length) (hnk : nk ≤ 1100000)
include hs hB e hn hsk hBk ek hnk
theorem implFold_any (hnc : n ≤ cap) (hcm : cap ≤ maxLen) (hnck : nk ≤ capk) (hcmk : capk ≤ maxLen) : Calls Try.prog 42 #[matV r c (.slice A n cap), matV kr kc (.slice Ak nk capk)] w fun e w' => ∃ s, e = .returned (matV (fldR r c zs kr kc ks) (fldC r c zs kr kc ks) s) ∧ Row w' w.heap.size w'.heap.size s (fldZ r c zs kr kc ks) ∧ Below w.heap.size w w' := by
  unfold fldR fldC fldZ
  by_cases h : OkF r c zs kr kc ks
  · rw [if_pos h, if_pos h, if_pos h]
    have h' := h
    obtain ⟨⟨h1, h2, _⟩, ⟨h3, h4, _⟩, _⟩ := h'
    obtain ⟨rn, rfl⟩ := Int.eq_ofNat_of_zero_le (show 0 ≤ r by omega)
    obtain ⟨cn, rfl⟩ := Int.eq_ofNat_of_zero_le (show 0 ≤ c by omega)
    obtain ⟨krn, rfl⟩ := Int.eq_ofNat_of_zero_le (show 0 ≤ kr by omega)
    obtain ⟨kcn, rfl⟩ := Int.eq_ofNat_of_zero_le (show 0 ≤ kc by omega)
    exact implFold_yes rn cn A cap n B zs krn kcn Ak capk nk Bk ks w hs hB e hn hsk hBk ek hnk hnc hcm hnck hcmk h
  · rw [if_neg h, if_neg h, if_neg h]
    exact (implFold_no r c A cap n B zs kr kc Ak capk nk Bk ks w hs hB e hn hsk hBk ek hnk h).mono fun e w' ⟨h1, h2⟩ => ⟨_, h1, Row.nil_ _ _ _, h2⟩
theorem specFold_any : Calls Try.prog 41 #[matV r c (.slice A n cap), matV kr kc (.slice Ak nk capk)] w fun e w' => ∃ s, e = .returned (matV (fldR r c zs kr kc ks) (fldC r c zs kr kc ks) s) ∧ Row w' w.heap.size w'.heap.size s (fldZ r c zs kr kc ks) ∧ Below w.heap.size w w' := by
  unfold fldR fldC fldZ
  by_cases h : OkF r c zs kr kc ks
  · rw [if_pos h, if_pos h, if_pos h]
    have h' := h
    obtain ⟨⟨h1, h2, _⟩, ⟨h3, h4, _⟩, _⟩ := h'
    obtain ⟨rn, rfl⟩ := Int.eq_ofNat_of_zero_le (show 0 ≤ r by omega)
    obtain ⟨cn, rfl⟩ := Int.eq_ofNat_of_zero_le (show 0 ≤ c by omega)
    obtain ⟨krn, rfl⟩ := Int.eq_ofNat_of_zero_le (show 0 ≤ kr by omega)
    obtain ⟨kcn, rfl⟩ := Int.eq_ofNat_of_zero_le (show 0 ≤ kc by omega)
    exact specFold_yes rn cn A cap n B zs krn kcn Ak capk nk Bk ks w hs hB e hn hsk hBk ek hnk h
  · rw [if_neg h, if_neg h, if_neg h]
    exact (specFold_no r c A cap n B zs kr kc Ak capk nk Bk ks w hs hB e hn hsk hBk ek hnk h).mono fun e w' ⟨h1, h2⟩ => ⟨_, h1, Row.nil_ _ _ _, h2⟩
end
theorem fldZ_len (r c : Int) (zs : List Int) (kr kc : Int) (ks : List Int) (_ : zs.length ≤ 1048576) (_ : ks.length ≤ 1048576) : (fldZ r c zs kr kc ks).length ≤ 1048576 := by
  unfold fldZ
  split
  · next h =>
    obtain ⟨⟨h1, h2, h3, _⟩, ⟨h4, h5, _⟩, h6, h7⟩ := h
    obtain ⟨rn, rfl⟩ := Int.eq_ofNat_of_zero_le (show 0 ≤ r by omega)
    obtain ⟨cn, rfl⟩ := Int.eq_ofNat_of_zero_le (show 0 ≤ c by omega)
    obtain ⟨krn, rfl⟩ := Int.eq_ofNat_of_zero_le (show 0 ≤ kr by omega)
    obtain ⟨kcn, rfl⟩ := Int.eq_ofNat_of_zero_le (show 0 ≤ kc by omega)
    rw [foldZ, tab_len]
    simp only [Int.toNat_natCast]
    have := side_mul (r := ((rn - krn + 1 : Nat) : Int)) (c := ((cn - kcn + 1 : Nat) : Int)) (by omega) (by omega)
    have e : (((rn - krn + 1) * (cn - kcn + 1) : Nat) : Int) = ((rn - krn + 1 : Nat) : Int) * ((cn - kcn + 1 : Nat) : Int) := by rw [Int.natCast_mul]
    omega
  · simp
end Go.Proofs.Ytakjmdjjpalaiaa
