/- The walks of the laws on commitments. -/
import Derived.Test.YtjmchblfihnhjaaFnsA
import Derived.Test.YtjmchblfihnhjaaDrawB
namespace Go.Proofs.Ytjmchblfihnhjaa
open Go.RowKit

theorem law_FnCommitTo (w : World) (A : Option Addr) (n c : Nat) (h0 : Code8 w A n ∧ n ≤ c ∧ c ≤ maxLen) :
    Calls Try.prog 7 #[.slice A n c] w fun e w' => e = .returned (.bool true) ∧ Below w.heap.size w w' := by
  obtain ⟨hc, hnc, hcm⟩ := h0
  have hcm' := hcm
  unfold maxLen at hcm'
  by_cases hn : 1048576 < n
  · go_enter Try.func7, Try.ntmps7
    go_wp2
    go_ret
    exact ⟨rfl, Below.refl _ _⟩
  go_enter Try.func7, Try.ntmps7
  go_wp2_with fail
  refine (drawCT_any A n c w (by omega) hnc hcm hc).mono ?_
  rintro e w1 ⟨t, m, rfl, ⟨t0, t1⟩, ⟨m0, m1⟩, hb⟩
  go_wp2_with fail
  refine (implCT _ _ _).mono ?_
  rintro e w' ⟨rfl, rfl⟩
  go_wp2_with fail
  refine (specCT _ _ _).mono ?_
  rintro e w' ⟨rfl, rfl⟩
  have hr := cTo_range t m
  by_cases hx : cTo t m < 0
  · have hx1 : cTo t m = -1 := by omega
    rw [hx1]
    go_wp2_with fail
    refine (alive_any _).mono ?_
    rintro e w' ⟨rfl, rfl⟩
    go_wp2
    go_ret
    exact ⟨rfl, hb⟩
  · have N1 := Lib.hid (cTo_next_n (x := t) (n := m) (by omega))
    have N2 := Lib.hid (cTo_next_x (x := t) (n := m) (by omega))
    go_wp2_with fail
    refine (implCT _ _ _).mono ?_
    rintro e w' ⟨rfl, rfl⟩
    go_wp2_with fail
    refine (implCT _ _ _).mono ?_
    rintro e w' ⟨rfl, rfl⟩
    go_wp2
    go_ret
    exact ⟨by simp [N1.out, N2.out], hb⟩

theorem law_FnOpenCommit (w : World) (A : Option Addr) (n c : Nat) (h0 : Code8 w A n ∧ n ≤ c ∧ c ≤ maxLen) :
    Calls Try.prog 8 #[.slice A n c] w fun e w' => e = .returned (.bool true) ∧ Below w.heap.size w w' := by
  obtain ⟨hc, hnc, hcm⟩ := h0
  have hcm' := hcm
  unfold maxLen at hcm'
  by_cases hn : 1048576 < n
  · go_enter Try.func8, Try.ntmps8
    go_wp2
    go_ret
    exact ⟨rfl, Below.refl _ _⟩
  go_enter Try.func8, Try.ntmps8
  go_wp2_with fail
  refine (drawOC_any A n c w (by omega) hnc hcm hc).mono ?_
  rintro e w1 ⟨k, t, m, rfl, ⟨t0, t1⟩, ⟨m0, m1⟩, hb⟩
  go_wp2_with fail
  refine (implOC _ _ _ _).mono ?_
  rintro e w' ⟨rfl, rfl⟩
  have back : ∀ e w', e = Ending.returned (.bool true) ∧ w1 = w' → e = Ending.returned (.bool true) ∧ Below w.heap.size w w' := fun _ _ ⟨h1, h2⟩ => ⟨h1, h2 ▸ hb⟩
  have BACK := Lib.hid back
  clear back
  have hr := cTo_range t m
  by_cases hx : cTo t m < 0
  · have hf : (decide (0 ≤ cTo t m) && (cTo t m == k)) = false := by simp; omega
    rw [hf]
    have HF := Lib.hid hf
    clear hf
    go_wp2_with fail
    refine (specOC _ _ _ _).mono ?_
    rintro e w' ⟨rfl, rfl⟩
    rw [HF.out]
    go_wp2_with fail
    refine (implCT _ _ _).mono ?_
    rintro e w' ⟨rfl, rfl⟩
    go_wp2_with fail
    refine (alive_any _).mono ?_
    rintro e w' ⟨rfl, rfl⟩
    go_wp2
    go_ret
    exact ⟨rfl, hb⟩
  · have hself : (decide (0 ≤ cTo t m) && (cTo t m == cTo t m)) = true := by simp; omega
    have HS := Lib.hid hself
    clear hself
    by_cases hk : cTo t m = k
    · subst hk
      have hn : (decide (0 ≤ cTo (t + 1) m) && (cTo (t + 1) m == cTo t m)) = false := by
        have := cTo_next_x (x := t) (n := m) (by omega)
        simp [this]
      have HN := Lib.hid hn
      clear hn
      rw [HS.out]
      go_wp2_with fail
      refine (specOC _ _ _ _).mono ?_
      rintro e w' ⟨rfl, rfl⟩
      rw [HS.out]
      go_wp2_with fail
      refine (implCT _ _ _).mono ?_
      rintro e w' ⟨rfl, rfl⟩
      go_wp2_with fail
      refine (implOC _ _ _ _).mono ?_
      rintro e w' ⟨rfl, rfl⟩
      rw [HS.out]
      go_wp2_with fail
      refine (implOC _ _ _ _).mono ?_
      rintro e w' ⟨rfl, rfl⟩
      rw [HN.out]
      go_wp2_with fail
      refine (alive_any _).mono ?_
      rintro e w' ⟨rfl, rfl⟩
      go_wp2
      go_ret
      exact ⟨rfl, hb⟩
    · have hf : (decide (0 ≤ cTo t m) && (cTo t m == k)) = false := by simp [hk]
      rw [hf]
      have HF := Lib.hid hf
      clear hf hk
      go_wp2_with fail
      refine (specOC _ _ _ _).mono ?_
      rintro e w' ⟨rfl, rfl⟩
      rw [HF.out]
      go_wp2_with fail
      refine (implCT _ _ _).mono ?_
      rintro e w' ⟨rfl, rfl⟩
      go_wp2_with fail
      refine (implOC _ _ _ _).mono ?_
      rintro e w' ⟨rfl, rfl⟩
      rw [HS.out]
      go_wp2_with fail
      refine (alive_any _).mono ?_
      rintro e w' ⟨rfl, rfl⟩
      go_wp2
      go_ret
      exact ⟨rfl, hb⟩
end Go.Proofs.Ytjmchblfihnhjaa
