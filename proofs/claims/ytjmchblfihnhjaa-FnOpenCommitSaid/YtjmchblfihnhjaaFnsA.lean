/- Contracts of transcripts and commitments, program and reference. -/
import Derived.Test.YtjmchblfihnhjaaScal
import Derived.Test.YtjmchblfihnhjaaMem
import Derived.Test.YtjmchblfihnhjaaPlainA
namespace Go.Proofs.Ytjmchblfihnhjaa
open Go.RowKit

theorem implTA (t n : Int) (w : World) : Calls Try.prog 10 #[.int .i64 t, .int .i64 n] w fun e w' => e = .returned (.int .i64 (txAdd t n)) ∧ w = w' := by
  by_cases h1 : 0 ≤ t ∧ t ≤ 2147483646
  · by_cases h2 : 0 ≤ n ∧ n ≤ 2147483646
    · rw [txAdd_yes h1.1 h1.2 h2.1 h2.2]
      obtain ⟨a1, a2⟩ := h1
      obtain ⟨b1, b2⟩ := h2
      go_enter Try.func10, Try.ntmps10
      go_wp2_with fail
      refine (saidValid_yes _ _ a1 a2).mono ?_
      rintro e w' ⟨rfl, rfl⟩
      go_wp2_with fail
      refine (saidValid_yes _ _ b1 b2).mono ?_
      rintro e w' ⟨rfl, rfl⟩
      go_wp2
      go_ret
      exact ⟨rfl, rfl⟩
    · rw [txAdd_no (by omega)]
      obtain ⟨a1, a2⟩ := h1
      have b : n < 0 ∨ 2147483646 < n := by omega
      clear h2
      go_enter Try.func10, Try.ntmps10
      go_wp2_with fail
      refine (saidValid_yes _ _ a1 a2).mono ?_
      rintro e w' ⟨rfl, rfl⟩
      go_wp2_with fail
      refine (saidValid_no _ _ b).mono ?_
      rintro e w' ⟨rfl, rfl⟩
      go_wp2
      go_ret
      exact ⟨rfl, rfl⟩
  · rw [txAdd_no (by omega)]
    have a : t < 0 ∨ 2147483646 < t := by omega
    clear h1
    go_enter Try.func10, Try.ntmps10
    go_wp2_with fail
    refine (saidValid_no _ _ a).mono ?_
    rintro e w' ⟨rfl, rfl⟩
    go_wp2
    go_ret
    exact ⟨rfl, rfl⟩

theorem specTA (t n : Int) (w : World) : Calls Try.prog 9 #[.int .i64 t, .int .i64 n] w fun e w' => e = .returned (.int .i64 (txAdd t n)) ∧ w = w' := by
  by_cases h1 : 0 ≤ t ∧ t ≤ 2147483646
  · by_cases h2 : 0 ≤ n ∧ n ≤ 2147483646
    · rw [txAdd_yes h1.1 h1.2 h2.1 h2.2]
      obtain ⟨a1, a2⟩ := h1
      obtain ⟨b1, b2⟩ := h2
      go_enter Try.func9, Try.ntmps9
      go_wp2_with fail
      refine (l1In_yes _ _ _ _ a1 a2).mono ?_
      rintro e w' ⟨rfl, rfl⟩
      go_wp2_with fail
      refine (l1In_yes _ _ _ _ b1 b2).mono ?_
      rintro e w' ⟨rfl, rfl⟩
      go_wp2
      go_ret
      exact ⟨rfl, rfl⟩
    · rw [txAdd_no (by omega)]
      obtain ⟨a1, a2⟩ := h1
      have b : n < 0 ∨ 2147483646 < n := by omega
      clear h2
      go_enter Try.func9, Try.ntmps9
      go_wp2_with fail
      refine (l1In_yes _ _ _ _ a1 a2).mono ?_
      rintro e w' ⟨rfl, rfl⟩
      go_wp2_with fail
      refine (l1In_no _ _ _ _ b).mono ?_
      rintro e w' ⟨rfl, rfl⟩
      go_wp2
      go_ret
      exact ⟨rfl, rfl⟩
  · rw [txAdd_no (by omega)]
    have a : t < 0 ∨ 2147483646 < t := by omega
    clear h1
    go_enter Try.func9, Try.ntmps9
    go_wp2_with fail
    refine (l1In_no _ _ _ _ a).mono ?_
    rintro e w' ⟨rfl, rfl⟩
    go_wp2
    go_ret
    exact ⟨rfl, rfl⟩

theorem exactTA (t n : Int) (w : World) : Calls Try.prog 3 #[.int .i64 t, .int .i64 n] w fun e w' => e = .returned (.bool true) ∧ w = w' := by
  go_enter Try.func3, Try.ntmps3
  go_wp2_with fail
  refine (specTA _ _ _).mono ?_
  rintro e w' ⟨rfl, rfl⟩
  go_wp2_with fail
  refine (implTA _ _ _).mono ?_
  rintro e w' ⟨rfl, rfl⟩
  go_wp2
  go_ret
  exact ⟨rfl, rfl⟩
theorem law_FnExactTranscriptAdd (w : World) (a : Int) (_ : (Lit.int .i64 a).wf = true) (b : Int) (_ : (Lit.int .i64 b).wf = true) : Calls Try.prog 3 #[.int .i64 a, .int .i64 b] w fun e w' => e = .returned (.bool true) ∧ Below w.heap.size w w' :=
  (exactTA a b w).mono fun _ _ ⟨h1, h2⟩ => ⟨h1, h2 ▸ Below.refl _ _⟩

/-- Commitments: the walk of the program's and of the reference's. -/
theorem implCT (x n : Int) (w : World) : Calls Try.prog 19 #[.int .i64 x, .int .i64 n] w fun e w' => e = .returned (.int .i64 (cTo x n)) ∧ w = w' := by
  by_cases h1 : 0 ≤ x ∧ x ≤ 4095
  · obtain ⟨a1, a2⟩ := h1
    by_cases b1 : 0 ≤ n
    · by_cases b2 : n ≤ 100000
      · rw [cTo_yes a1 a2 b1 b2]
        go_enter Try.func19, Try.ntmps19
        go_wp2_with fail
        refine (ringValid_yes _ _ a1 a2).mono ?_
        rintro e w' ⟨rfl, rfl⟩
        go_wp2
        go_ret
        exact ⟨by simp [Int.mul_comm], rfl⟩
      · rw [cTo_no (by omega)]
        go_enter Try.func19, Try.ntmps19
        go_wp2_with fail
        refine (ringValid_yes _ _ a1 a2).mono ?_
        rintro e w' ⟨rfl, rfl⟩
        go_wp2
        go_ret
        exact ⟨rfl, rfl⟩
    · rw [cTo_no (by omega)]
      go_enter Try.func19, Try.ntmps19
      go_wp2_with fail
      refine (ringValid_yes _ _ a1 a2).mono ?_
      rintro e w' ⟨rfl, rfl⟩
      go_wp2
      go_ret
      exact ⟨rfl, rfl⟩
  · rw [cTo_no (by omega)]
    have a : x < 0 ∨ 4095 < x := by omega
    clear h1
    go_enter Try.func19, Try.ntmps19
    go_wp2_with fail
    refine (ringValid_no _ _ a).mono ?_
    rintro e w' ⟨rfl, rfl⟩
    go_wp2
    go_ret
    exact ⟨rfl, rfl⟩
theorem specCT (x n : Int) (w : World) : Calls Try.prog 20 #[.int .i64 x, .int .i64 n] w fun e w' => e = .returned (.int .i64 (cTo x n)) ∧ w = w' := by
  by_cases h1 : 0 ≤ x ∧ x ≤ 4095
  · obtain ⟨a1, a2⟩ := h1
    by_cases b : 0 ≤ n ∧ n ≤ 100000
    · obtain ⟨b1, b2⟩ := b
      rw [cTo_yes a1 a2 b1 b2]
      go_enter Try.func20, Try.ntmps20
      go_wp2_with fail
      refine (specRingValid_yes _ _ a1 a2).mono ?_
      rintro e w' ⟨rfl, rfl⟩
      go_wp2_with fail
      refine (l1In_yes _ _ _ _ b1 b2).mono ?_
      rintro e w' ⟨rfl, rfl⟩
      go_wp2
      go_ret
      exact ⟨by simp [Int.mul_comm], rfl⟩
    · rw [cTo_no (by omega)]
      have b' : n < 0 ∨ 100000 < n := by omega
      clear b
      go_enter Try.func20, Try.ntmps20
      go_wp2_with fail
      refine (specRingValid_yes _ _ a1 a2).mono ?_
      rintro e w' ⟨rfl, rfl⟩
      go_wp2_with fail
      refine (l1In_no _ _ _ _ b').mono ?_
      rintro e w' ⟨rfl, rfl⟩
      go_wp2
      go_ret
      exact ⟨rfl, rfl⟩
  · rw [cTo_no (by omega)]
    have a : x < 0 ∨ 4095 < x := by omega
    clear h1
    go_enter Try.func20, Try.ntmps20
    go_wp2_with fail
    refine (specRingValid_no _ _ a).mono ?_
    rintro e w' ⟨rfl, rfl⟩
    go_wp2
    go_ret
    exact ⟨rfl, rfl⟩
theorem implOC (m x n : Int) (w : World) : Calls Try.prog 22 #[.int .i64 m, .int .i64 x, .int .i64 n] w fun e w' => e = .returned (.bool (decide (0 ≤ cTo x n) && (cTo x n == m))) ∧ w = w' := by
  go_enter Try.func22, Try.ntmps22
  go_wp2_with fail
  refine (implCT _ _ _).mono ?_
  rintro e w' ⟨rfl, rfl⟩
  by_cases h : 0 ≤ cTo x n
  · go_wp2
    go_ret
    exact ⟨by simp [h], rfl⟩
  · go_wp2
    go_ret
    exact ⟨by simp; omega, rfl⟩
theorem specOC (m x n : Int) (w : World) : Calls Try.prog 23 #[.int .i64 m, .int .i64 x, .int .i64 n] w fun e w' => e = .returned (.bool (decide (0 ≤ cTo x n) && (cTo x n == m))) ∧ w = w' := by
  go_enter Try.func23, Try.ntmps23
  go_wp2_with fail
  refine (specCT _ _ _).mono ?_
  rintro e w' ⟨rfl, rfl⟩
  by_cases h : 0 ≤ cTo x n
  · go_wp2
    go_ret
    exact ⟨by simp [h], rfl⟩
  · go_wp2
    go_ret
    exact ⟨by simp; omega, rfl⟩
end Go.Proofs.Ytjmchblfihnhjaa
