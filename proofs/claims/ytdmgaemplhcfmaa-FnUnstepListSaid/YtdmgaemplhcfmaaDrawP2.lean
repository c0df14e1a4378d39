/- Contracts of the drawing functions of means, ranges, centered lists, steps. -/
import Derived.Test.YtdmgaemplhcfmaaDrawP
namespace Go.Proofs.Ytdmgaemplhcfmaa
open Go.RowKit
theorem drawMeanOf (A : Option Addr) (n c : Nat) (w : World) (hn : n ≤ 1048576) (hnc : n ≤ c) (hcm : c ≤ maxLen) (hc : Code8 w A n) :
    Calls Try.prog 19 #[.slice A n c] w fun e w' => ∃ (v : Value) (zs : List Int), e = .returned v ∧ Row w' w.heap.size w'.heap.size v zs ∧ zs.length ≤ 21 ∧ Below w.heap.size w w' := by
  go_enter Try.func19, Try.ntmps19
  go_wp2_with fail
  refine (open_any A n c w hn hnc hcm hc).mono ?_
  rintro e w1 ⟨rfl, hR, hb⟩
  go_wp2_with fail
  refine (l20Plain_any w.heap.size 0 9 w1 hR (by omega) (by omega) (by omega)).mono ?_
  rintro e w2 ⟨v, zs, rfl, hrow, hlen, hg, _⟩
  go_wp2
  go_ret
  exact ⟨v, zs, rfl, hrow.wider hb.size (Nat.le_refl _), hlen, hb.grown hg hb.size (fun k hk => by cases hk; exact Nat.le_refl _)⟩
theorem drawRangeOf (A : Option Addr) (n c : Nat) (w : World) (hn : n ≤ 1048576) (hnc : n ≤ c) (hcm : c ≤ maxLen) (hc : Code8 w A n) :
    Calls Try.prog 29 #[.slice A n c] w fun e w' => ∃ (v : Value) (zs : List Int), e = .returned v ∧ Row w' w.heap.size w'.heap.size v zs ∧ zs.length ≤ 21 ∧ Below w.heap.size w w' := by
  go_enter Try.func29, Try.ntmps29
  go_wp2_with fail
  refine (open_any A n c w hn hnc hcm hc).mono ?_
  rintro e w1 ⟨rfl, hR, hb⟩
  go_wp2_with fail
  refine (l20Plain_any w.heap.size 0 9 w1 hR (by omega) (by omega) (by omega)).mono ?_
  rintro e w2 ⟨v, zs, rfl, hrow, hlen, hg, _⟩
  go_wp2
  go_ret
  exact ⟨v, zs, rfl, hrow.wider hb.size (Nat.le_refl _), hlen, hb.grown hg hb.size (fun k hk => by cases hk; exact Nat.le_refl _)⟩
theorem drawCenterList (A : Option Addr) (n c : Nat) (w : World) (hn : n ≤ 1048576) (hnc : n ≤ c) (hcm : c ≤ maxLen) (hc : Code8 w A n) :
    Calls Try.prog 25 #[.slice A n c] w fun e w' => ∃ (v : Value) (zs : List Int), e = .returned v ∧ Row w' w.heap.size w'.heap.size v zs ∧ zs.length ≤ 21 ∧ Below w.heap.size w w' := by
  go_enter Try.func25, Try.ntmps25
  go_wp2_with fail
  refine (open_any A n c w hn hnc hcm hc).mono ?_
  rintro e w1 ⟨rfl, hR, hb⟩
  go_wp2_with fail
  refine (l20Plain_any w.heap.size 0 9 w1 hR (by omega) (by omega) (by omega)).mono ?_
  rintro e w2 ⟨v, zs, rfl, hrow, hlen, hg, _⟩
  go_wp2
  go_ret
  exact ⟨v, zs, rfl, hrow.wider hb.size (Nat.le_refl _), hlen, hb.grown hg hb.size (fun k hk => by cases hk; exact Nat.le_refl _)⟩
theorem drawStepList (A : Option Addr) (n c : Nat) (w : World) (hn : n ≤ 1048576) (hnc : n ≤ c) (hcm : c ≤ maxLen) (hc : Code8 w A n) :
    Calls Try.prog 32 #[.slice A n c] w fun e w' => ∃ (v : Value) (zs : List Int) (s : Int), e = .returned (.tuple #[v, .int .i64 s]) ∧ 0 ≤ s ∧ s ≤ 101 ∧ Row w' w.heap.size w'.heap.size v zs ∧ zs.length ≤ 21 ∧ Below w.heap.size w w' := by
  go_enter Try.func32, Try.ntmps32
  go_wp2_with fail
  refine (open_any A n c w hn hnc hcm hc).mono ?_
  rintro e w1 ⟨rfl, hR, hb⟩
  go_wp2_with fail
  refine (l20Plain_any w.heap.size 0 9 w1 hR (by omega) (by omega) (by omega)).mono ?_
  rintro e w2 ⟨v, zs, rfl, hrow, hlen, hg, hR2⟩
  have hb2 := hb.grown hg hb.size (fun k hk => by cases hk; exact Nat.le_refl _)
  go_wp2_with fail
  refine (l20Step_any w.heap.size _ w2 hR2 (by omega)).mono ?_
  rintro e w3 ⟨s, rfl, s0, s1, hg3, _⟩
  have hrow3 := (hrow.wider (Nat.le_refl _) (Nat.le_refl _)).grown hg3 (fun g e => by cases e; left; exact hR.lt)
  go_wp2
  go_ret2
  exact ⟨v, zs, s, rfl, s0, s1, hrow3.wider hb.size hg3.size, hlen, hb2.grown hg3 hb2.size (fun k hk => by cases hk; exact Nat.le_refl _)⟩
theorem drawUnstepList (A : Option Addr) (n c : Nat) (w : World) (hn : n ≤ 1048576) (hnc : n ≤ c) (hcm : c ≤ maxLen) (hc : Code8 w A n) :
    Calls Try.prog 35 #[.slice A n c] w fun e w' => ∃ (v : Value) (zs : List Int) (s : Int), e = .returned (.tuple #[v, .int .i64 s]) ∧ 0 ≤ s ∧ s ≤ 101 ∧ Row w' w.heap.size w'.heap.size v zs ∧ zs.length ≤ 21 ∧ Below w.heap.size w w' := by
  go_enter Try.func35, Try.ntmps35
  go_wp2_with fail
  refine (drawStepList A n c w hn hnc hcm hc).mono ?_
  rintro e w1 ⟨v, zs, s, rfl, h⟩
  go_wp2
  go_ret2
  exact ⟨v, zs, s, rfl, h⟩
theorem drawStepError (A : Option Addr) (n c : Nat) (w : World) (hn : n ≤ 1048576) (hnc : n ≤ c) (hcm : c ≤ maxLen) (hc : Code8 w A n) :
    Calls Try.prog 38 #[.slice A n c] w fun e w' => ∃ (v : Value) (zs : List Int) (s : Int), e = .returned (.tuple #[v, .int .i64 s]) ∧ 0 ≤ s ∧ s ≤ 101 ∧ Row w' w.heap.size w'.heap.size v zs ∧ zs.length ≤ 21 ∧ Below w.heap.size w w' := by
  go_enter Try.func38, Try.ntmps38
  go_wp2_with fail
  refine (drawStepList A n c w hn hnc hcm hc).mono ?_
  rintro e w1 ⟨v, zs, s, rfl, h⟩
  go_wp2
  go_ret2
  exact ⟨v, zs, s, rfl, h⟩
end Go.Proofs.Ytdmgaemplhcfmaa
