/- The walk of the exact law on transcripts of lists. -/
import Derived.Test.YtjmchblfihnhjaaFnsA2
import Derived.Test.YtjmchblfihnhjaaCame
namespace Go.Proofs.Ytjmchblfihnhjaa
open Go.RowKit

theorem law_FnExactTranscriptOf (w : World) (A : Option Addr) (n c : Nat) (zs : List Int) (h0 : CameInts w A n c zs) :
    Calls Try.prog 5 #[.slice A n c] w fun e w' => e = .returned (.bool true) ∧ Below w.heap.size w w' := by
  obtain ⟨rfl, hnc, hcm, hs, hwf⟩ := h0
  unfold maxLen at hcm
  clear hwf
  have HS := Lib.hid hs
  clear hs
  by_cases hn : 1048576 < zs.length
  · go_enter Try.func5, Try.ntmps5
    go_wp2
    go_ret
    exact ⟨rfl, Below.refl _ _⟩
  go_enter Try.func5, Try.ntmps5
  go_wp2_with fail
  refine (toIntS_any A c zs w HS.out (by omega)).mono ?_
  rintro e w1 ⟨v1, rfl, hr1, hb1⟩
  obtain ⟨A1, c1, rfl, _, _, hs1⟩ := hr1.form
  go_wp2_with fail
  refine (specTO A1 c1 _ zs w1 hs1 (by omega)).mono ?_
  rintro e w1 ⟨rfl, rfl⟩
  go_wp2_with fail
  refine (toIntS_any A c zs w1 ((HS.out.below hb1 (Nat.le_refl _)).more hb1.size) (by omega)).mono ?_
  rintro e w2 ⟨v2, rfl, hr2, hb2⟩
  obtain ⟨A2, c2, rfl, _, _, hs2⟩ := hr2.form
  go_wp2_with fail
  refine (implTO A2 c2 _ zs w2 hs2 (by omega)).mono ?_
  rintro e w2 ⟨rfl, rfl⟩
  have hb12 := hb1.trans (hb2.mono hb1.size)
  go_wp2_with fail
  refine (toIntS_any A c zs w2 ((HS.out.below hb12 (Nat.le_refl _)).more hb12.size) (by omega)).mono ?_
  rintro e w3 ⟨v3, rfl, hr3, hb3⟩
  obtain ⟨A3, c3, rfl, _, _, hs3⟩ := hr3.form
  go_wp2_with fail
  refine (eqIntS_same A2 A3 c2 c3 zs w3 ((hs2.below hb3 (Nat.le_refl _)).more hb3.size) hs3 (by omega)).mono ?_
  rintro e w4 ⟨rfl, hb4⟩
  go_wp2
  go_ret
  exact ⟨rfl, (hb12.trans (hb3.mono hb12.size)).trans (hb4.mono (Nat.le_trans hb12.size hb3.size))⟩
end Go.Proofs.Ytjmchblfihnhjaa
