/- The walk of the exact law on valid tasks. -/
import Derived.Test.YtfkccdmjlopleaaFnsC1
import Derived.Test.YtfkccdmjlopleaaCameSS
namespace Go.Proofs.Ytfkccdmjlopleaa
open Go.RowKit
theorem law_FnExactTasksValid (w : World) (A : Option Addr) (n c : Nat) (h0 : CameSS w A n c) :
    Calls Try.prog 3 #[.slice A n c] w fun e w' => e = .returned (.bool true) ∧ Below w.heap.size w w' := by
  obtain ⟨zss, rfl, hnc, hcm, hs⟩ := h0
  unfold maxLen at hcm
  have HS := Lib.hid hs
  clear hs
  have HB := Lib.hid (okTB_iff zss)
  obtain ⟨R, hR⟩ : ∃ R, okTB zss = R := ⟨_, rfl⟩
  rw [hR] at HB
  clear hR
  go_enter Try.func3, Try.ntmps3
  go_wp2_with fail
  refine (szIntSS_any A c _ zss w HS.out (by omega)).mono ?_
  rintro e w' ⟨r, rfl, hr, rfl⟩
  rcases hr with rfl | ⟨r0, r1, hsm⟩
  · go_wp2
    go_ret
    exact ⟨rfl, Below.refl _ _⟩
  have hn := hsm.1
  have HSM := Lib.hid hsm
  have HSM2 := Lib.hid (show Small 2000000 zss from ⟨by omega, fun k hk => by have := hsm.2 k hk; omega⟩)
  have hd : decide (r < 0) = false := by simp; omega
  clear hsm
  go_wp2_with fail
  refine (toIntSS_any A c zss w HS.out HSM.out).mono ?_
  rintro e w1 ⟨v1, rfl, hr1, hb1⟩
  obtain ⟨A1, c1, rfl, _, _, hs1⟩ := hr1.form
  have HS1 := Lib.hid hs1
  clear hr1 hs1
  go_wp2_with fail
  refine (specTV_any A1 c1 _ zss w1 HS1.out HSM2.out R HB.out).mono ?_
  rintro e w2 ⟨rfl, rfl⟩
  go_wp2_with fail
  refine (toIntSS_any A c zss w1 ((HS.out.below hb1 (Nat.le_refl _)).more hb1.size) HSM.out).mono ?_
  rintro e w3 ⟨v2, rfl, hr2, hb3⟩
  obtain ⟨A2, c2, rfl, _, _, hs2⟩ := hr2.form
  have HS2 := Lib.hid hs2
  have hb13 := hb1.trans (hb3.mono hb1.size)
  clear hb1 hb3 hr2 hs2 HS1
  go_wp2_with fail
  refine (implTV_any A2 c2 _ zss w3 HS2.out HSM2.out R HB.out).mono ?_
  rintro e w4 ⟨rfl, rfl⟩
  go_wp2_with fail
  refine (toIntSS_any A c zss w3 ((HS.out.below hb13 (Nat.le_refl _)).more hb13.size) HSM.out).mono ?_
  rintro e w5 ⟨v3, rfl, hr3, hb5⟩
  obtain ⟨A3, c3, rfl, _, _, hs3⟩ := hr3.form
  go_wp2_with fail
  refine (eqIntSS_same A2 A3 c2 c3 zss w5 ((HS2.out.below hb5 (Nat.le_refl _)).more hb5.size) hs3 HSM.out).mono ?_
  rintro e w6 ⟨rfl, hb6⟩
  go_wp2
  go_ret
  exact ⟨rfl, (hb13.trans (hb5.mono hb13.size)).trans (hb6.mono (Nat.le_trans hb13.size hb5.size))⟩
end Go.Proofs.Ytfkccdmjlopleaa
