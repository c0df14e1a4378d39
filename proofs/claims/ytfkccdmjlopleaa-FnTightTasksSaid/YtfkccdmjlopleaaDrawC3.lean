/- Contracts of the drawing functions of the laws on tasks. -/
import Derived.Test.YtfkccdmjlopleaaDrawC2
namespace Go.Proofs.Ytfkccdmjlopleaa
open Go.RowKit
theorem drawTasksValid (A : Option Addr) (n c : Nat) (w : World) (hn : n ≤ 1048576) (hnc : n ≤ c) (hcm : c ≤ maxLen) (hc : Code8 w A n) :
    Calls Try.prog 16 #[.slice A n c] w fun e w' => ∃ (v : Value) (zss : List (List Int)) (A : Option Addr) (c : Nat), e = .returned v ∧ v = .slice A zss.length c ∧ zss.length ≤ c ∧ c ≤ maxLen ∧ SS w' w'.heap.size A zss ∧ Small 20 zss ∧ Below w.heap.size w w' := by
  go_enter Try.func16, Try.ntmps16
  go_wp2_with fail
  refine (open_any A n c w hn hnc hcm hc).mono ?_
  rintro e w1 ⟨rfl, hR, hb⟩
  go_wp2_with fail
  refine (l20Tasks_any w.heap.size 0 w1 hR (by omega) 2 (by omega) (by omega)).mono ?_
  rintro e w2 ⟨v, zss, A1, c1, rfl, h1, h2, h3, h4, h5, hg⟩
  subst h1
  have H4 := Lib.hid h4
  clear h4
  go_wp2
  go_ret
  exact ⟨_, zss, A1, c1, rfl, rfl, h2, h3, H4.out, h5, hb.grown hg hb.size (fun k hk => by cases hk; exact Nat.le_refl _)⟩
theorem drawTaskRounds (A : Option Addr) (n c : Nat) (w : World) (hn : n ≤ 1048576) (hnc : n ≤ c) (hcm : c ≤ maxLen) (hc : Code8 w A n) :
    Calls Try.prog 24 #[.slice A n c] w fun e w' => ∃ (v : Value) (zss : List (List Int)) (A : Option Addr) (c : Nat), e = .returned v ∧ v = .slice A zss.length c ∧ zss.length ≤ c ∧ c ≤ maxLen ∧ SS w' w'.heap.size A zss ∧ Small 20 zss ∧ Below w.heap.size w w' := by
  go_enter Try.func24, Try.ntmps24
  go_wp2_with fail
  refine (open_any A n c w hn hnc hcm hc).mono ?_
  rintro e w1 ⟨rfl, hR, hb⟩
  go_wp2_with fail
  refine (l20Tasks_any w.heap.size 0 w1 hR (by omega) 9 (by omega) (by omega)).mono ?_
  rintro e w2 ⟨v, zss, A1, c1, rfl, h1, h2, h3, h4, h5, hg⟩
  subst h1
  have H4 := Lib.hid h4
  clear h4
  go_wp2
  go_ret
  exact ⟨_, zss, A1, c1, rfl, rfl, h2, h3, H4.out, h5, hb.grown hg hb.size (fun k hk => by cases hk; exact Nat.le_refl _)⟩
theorem drawLateRounds (A : Option Addr) (n c : Nat) (w : World) (hn : n ≤ 1048576) (hnc : n ≤ c) (hcm : c ≤ maxLen) (hc : Code8 w A n) :
    Calls Try.prog 28 #[.slice A n c] w fun e w' => ∃ (v : Value) (zss : List (List Int)) (A : Option Addr) (c : Nat), e = .returned v ∧ v = .slice A zss.length c ∧ zss.length ≤ c ∧ c ≤ maxLen ∧ SS w' w'.heap.size A zss ∧ Small 20 zss ∧ Below w.heap.size w w' := by
  go_enter Try.func28, Try.ntmps28
  go_wp2_with fail
  refine (open_any A n c w hn hnc hcm hc).mono ?_
  rintro e w1 ⟨rfl, hR, hb⟩
  go_wp2_with fail
  refine (l20Tasks_any w.heap.size 0 w1 hR (by omega) 9 (by omega) (by omega)).mono ?_
  rintro e w2 ⟨v, zss, A1, c1, rfl, h1, h2, h3, h4, h5, hg⟩
  subst h1
  have H4 := Lib.hid h4
  clear h4
  go_wp2
  go_ret
  exact ⟨_, zss, A1, c1, rfl, rfl, h2, h3, H4.out, h5, hb.grown hg hb.size (fun k hk => by cases hk; exact Nat.le_refl _)⟩
theorem drawTightTasks (A : Option Addr) (n c : Nat) (w : World) (hn : n ≤ 1048576) (hnc : n ≤ c) (hcm : c ≤ maxLen) (hc : Code8 w A n) :
    Calls Try.prog 31 #[.slice A n c] w fun e w' => ∃ (v : Value) (zss : List (List Int)) (A : Option Addr) (c : Nat), e = .returned v ∧ v = .slice A zss.length c ∧ zss.length ≤ c ∧ c ≤ maxLen ∧ SS w' w'.heap.size A zss ∧ Small 20 zss ∧ Below w.heap.size w w' := by
  go_enter Try.func31, Try.ntmps31
  go_wp2_with fail
  refine (open_any A n c w hn hnc hcm hc).mono ?_
  rintro e w1 ⟨rfl, hR, hb⟩
  go_wp2_with fail
  refine (l20Tasks_any w.heap.size 0 w1 hR (by omega) 9 (by omega) (by omega)).mono ?_
  rintro e w2 ⟨v, zss, A1, c1, rfl, h1, h2, h3, h4, h5, hg⟩
  subst h1
  have H4 := Lib.hid h4
  clear h4
  go_wp2
  go_ret
  exact ⟨_, zss, A1, c1, rfl, rfl, h2, h3, H4.out, h5, hb.grown hg hb.size (fun k hk => by cases hk; exact Nat.le_refl _)⟩
end Go.Proofs.Ytfkccdmjlopleaa
