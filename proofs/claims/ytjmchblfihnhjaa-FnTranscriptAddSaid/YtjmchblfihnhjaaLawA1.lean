/- The walk of the law on transcripts of numbers. -/
import Derived.Test.YtjmchblfihnhjaaFnsA
import Derived.Test.YtjmchblfihnhjaaDrawB
namespace Go.Proofs.Ytjmchblfihnhjaa
open Go.RowKit

/-- More code than the law reads: it says true at once. -/
theorem law_FnTranscriptAdd (w : World) (A : Option Addr) (n c : Nat) (h0 : Code8 w A n ∧ n ≤ c ∧ c ≤ maxLen) :
    Calls Try.prog 4 #[.slice A n c] w fun e w' => e = .returned (.bool true) ∧ Below w.heap.size w w' := by
  obtain ⟨hc, hnc, hcm⟩ := h0
  have hcm' := hcm
  unfold maxLen at hcm'
  by_cases hn : 1048576 < n
  · go_enter Try.func4, Try.ntmps4
    go_wp2
    go_ret
    exact ⟨rfl, Below.refl _ _⟩
  go_enter Try.func4, Try.ntmps4
  go_wp2_with fail
  refine (drawTA_any A n c w (by omega) hnc hcm hc).mono ?_
  rintro e w1 ⟨t, m, rfl, ⟨t0, t1⟩, ⟨m0, m1⟩, hb⟩
  go_wp2_with fail
  refine (implTA _ _ _).mono ?_
  rintro e w' ⟨rfl, rfl⟩
  go_wp2_with fail
  refine (specTA _ _ _).mono ?_
  rintro e w' ⟨rfl, rfl⟩
  have hr := txAdd_range t m
  by_cases hx : txAdd t m < 0
  · have hx1 : txAdd t m = -1 := by omega
    rw [hx1]
    go_wp2_with fail
    refine (alive_any _).mono ?_
    rintro e w' ⟨rfl, rfl⟩
    go_wp2
    go_ret
    exact ⟨rfl, hb⟩
  · have N1 := Lib.hid (txAdd_next_n (t := t) (n := m) (by omega))
    have N2 := Lib.hid (txAdd_next_t (t := t) (n := m) (by omega))
    go_wp2_with fail
    refine (implTA _ _ _).mono ?_
    rintro e w' ⟨rfl, rfl⟩
    go_wp2_with fail
    refine (implTA _ _ _).mono ?_
    rintro e w' ⟨rfl, rfl⟩
    go_wp2
    go_ret
    exact ⟨by simp [N1.out, N2.out], hb⟩
end Go.Proofs.Ytjmchblfihnhjaa
