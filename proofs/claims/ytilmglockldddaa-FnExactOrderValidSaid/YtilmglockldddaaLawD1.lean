/- The walk of the exact law on valid orders. -/
import Derived.Test.YtilmglockldddaaFnsD2
import Derived.Test.YtilmglockldddaaCame
namespace Go.Proofs.Ytilmglockldddaa
open Go.RowKit
theorem law_FnExactOrderValid (w : World) (A : Option Addr) (n c : Nat) (zs : List Int) (h0 : CameInts w A n c zs) :
    Calls Try.prog 3 #[.slice A n c] w fun e w' => e = .returned (.bool true) ∧ Below w.heap.size w w' := by
  obtain ⟨rfl, hnc, hcm, hs, hwf⟩ := h0
  unfold maxLen at hcm
  clear hwf
  have HS := Lib.hid hs
  clear hs
  by_cases hn : 1048576 < zs.length
  · go_enter Try.func3, Try.ntmps3
    go_wp2
    go_ret
    exact ⟨rfl, Below.refl _ _⟩
  have HB := Lib.hid (okOB_iff zs)
  obtain ⟨R, hR⟩ : ∃ R, okOB zs = R := ⟨_, rfl⟩
  rw [hR] at HB
  clear hR
  go_enter Try.func3, Try.ntmps3
  go_wp2_with fail
  refine (toIntS_any A c zs w HS.out (by omega)).mono ?_
  rintro e w1 ⟨v1, rfl, hr1, hb1⟩
  obtain ⟨A1, c1, rfl, _, _, hs1⟩ := hr1.form
  go_wp2_with fail
  refine (specOV_any A1 c1 zs w1 hs1 (by omega) R HB.out).mono ?_
  rintro e w2 ⟨rfl, hb2⟩
  clear hs1 hr1
  have hb12 := hb1.trans (hb2.mono hb1.size)
  clear hb1 hb2
  go_wp2_with fail
  refine (toIntS_any A c zs w2 ((HS.out.below hb12 (Nat.le_refl _)).more hb12.size) (by omega)).mono ?_
  rintro e w3 ⟨v2, rfl, hr2, hb3⟩
  obtain ⟨A2, c2, rfl, _, _, hs2⟩ := hr2.form
  have hb13 := hb12.trans (hb3.mono hb12.size)
  clear hb12 hb3
  go_wp2_with fail
  refine (implOV_any A2 c2 zs w3 hs2 (by omega) R HB.out).mono ?_
  rintro e w4 ⟨rfl, hb4⟩
  have hb14 := hb13.trans (hb4.mono hb13.size)
  have hs4 := (hs2.below hb4 (Nat.le_refl _)).more hb4.size
  clear hb13 hb4 hs2 hr2
  go_wp2_with fail
  refine (toIntS_any A c zs w4 ((HS.out.below hb14 (Nat.le_refl _)).more hb14.size) (by omega)).mono ?_
  rintro e w5 ⟨v3, rfl, hr3, hb5⟩
  obtain ⟨A3, c3, rfl, _, _, hs3⟩ := hr3.form
  go_wp2_with fail
  refine (eqIntS_same A2 A3 c2 c3 zs w5 ((hs4.below hb5 (Nat.le_refl _)).more hb5.size) hs3 (by omega)).mono ?_
  rintro e w6 ⟨rfl, hb6⟩
  go_wp2
  go_ret
  exact ⟨rfl, (hb14.trans (hb5.mono hb14.size)).trans (hb6.mono (Nat.le_trans hb14.size hb5.size))⟩
end Go.Proofs.Ytilmglockldddaa
