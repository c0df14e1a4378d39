/- Contracts of the drawing functions of transcripts and commitments. -/
import Derived.Test.YtjmchblfihnhjaaDrawSig
import Derived.Test.YtjmchblfihnhjaaFnsA
namespace Go.Proofs.Ytjmchblfihnhjaa
open Go.RowKit

theorem drawTA_any (A : Option Addr) (n c : Nat) (w : World) (hn : n ≤ 1048576) (hnc : n ≤ c) (hcm : c ≤ maxLen) (hc : Code8 w A n) :
    Calls Try.prog 11 #[.slice A n c] w fun e w' => ∃ t m, e = .returned (.tuple #[.int .i64 t, .int .i64 m]) ∧ (-1 ≤ t ∧ t ≤ 2147483647) ∧ (-1 ≤ m ∧ m ≤ 2147483647) ∧ Below w.heap.size w w' := by
  go_enter Try.func11, Try.ntmps11
  go_wp2_with fail
  refine (open_any A n c w hn hnc hcm hc).mono ?_
  rintro e w1 ⟨rfl, hR, hb⟩
  go_wp2
  refine draw_region (R := w.heap.size) (B0 := w.heap.size) (N := 0) (E := fun _ _ => True) 1000000000000 1 1000 [(27, pickG)] ⟨pick_sound _ 1 (by omega) (by omega), trivial⟩ [(4, Ty.rd)] [(2, Ty.int (-1) 2147483647), (3, Ty.int (-1) 2147483647)] (Nat.le_refl _) (by kernel_rfl) (by omega) hR ⟨ok_rd _ _ _ _, trivial⟩ ?_
  intro w2 hg hR2
  simp only [Puts, Option.bind_some, envOf, List.find?, Nat.reduceBEq, Ty.int, if_true]
  intros
  rename_i z z0 z1 y y0 y1
  simp only [Act.put, List.setIfInBounds_toArray, List.set_cons_succ, List.set_cons_zero]
  go_wp2
  go_ret2
  exact ⟨z, y, rfl, ⟨z0, z1⟩, ⟨y0, y1⟩, hb.grown hg hb.size (fun k hk => by cases hk; exact Nat.le_refl _)⟩

theorem drawCT_any (A : Option Addr) (n c : Nat) (w : World) (hn : n ≤ 1048576) (hnc : n ≤ c) (hcm : c ≤ maxLen) (hc : Code8 w A n) :
    Calls Try.prog 18 #[.slice A n c] w fun e w' => ∃ t m, e = .returned (.tuple #[.int .i64 t, .int .i64 m]) ∧ (-1 ≤ t ∧ t ≤ 1099511627776) ∧ (-1 ≤ m ∧ m ≤ 100001) ∧ Below w.heap.size w w' := by
  go_enter Try.func18, Try.ntmps18
  go_wp2_with fail
  refine (open_any A n c w hn hnc hcm hc).mono ?_
  rintro e w1 ⟨rfl, hR, hb⟩
  go_wp2
  refine draw_region (R := w.heap.size) (B0 := w.heap.size) (N := 0) (E := fun _ _ => True) 90000000 30 1000 [(27, pickG), (31, l20RingG)] ⟨pick_sound _ 30 (by omega) (by omega), l20Ring_sound _ 30 (by omega) (by omega), trivial⟩ [(4, Ty.rd)] [(2, Ty.int (-1) 1099511627776), (3, Ty.int (-1) 100001)] (Nat.le_refl _) (by kernel_rfl) (by omega) hR ⟨ok_rd _ _ _ _, trivial⟩ ?_
  intro w2 hg hR2
  simp only [Puts, Option.bind_some, envOf, List.find?, Nat.reduceBEq, Ty.int, if_true]
  intros
  rename_i z z0 z1 y y0 y1
  simp only [Act.put, List.setIfInBounds_toArray, List.set_cons_succ, List.set_cons_zero]
  go_wp2
  go_ret2
  exact ⟨z, y, rfl, ⟨z0, z1⟩, ⟨y0, y1⟩, hb.grown hg hb.size (fun k hk => by cases hk; exact Nat.le_refl _)⟩

theorem drawOC_any (A : Option Addr) (n c : Nat) (w : World) (hn : n ≤ 1048576) (hnc : n ≤ c) (hcm : c ≤ maxLen) (hc : Code8 w A n) :
    Calls Try.prog 21 #[.slice A n c] w fun e w' => ∃ k t m, e = .returned (.tuple #[.int .i64 k, .int .i64 t, .int .i64 m]) ∧ (-1 ≤ t ∧ t ≤ 1099511627776) ∧ (-1 ≤ m ∧ m ≤ 100001) ∧ Below w.heap.size w w' := by
  go_enter Try.func21, Try.ntmps21
  go_wp2_with fail
  refine (drawCT_any A n c w hn hnc hcm hc).mono ?_
  rintro e w1 ⟨t, m, rfl, ⟨t0, t1⟩, ⟨m0, m1⟩, hb⟩
  go_wp2_with fail
  refine (open_any A n c w1 hn hnc hcm (hc.below hb)).mono ?_
  rintro e w2 ⟨rfl, hR, hb2⟩
  go_wp2_with fail
  refine (specCT _ _ _).mono ?_
  rintro e w' ⟨rfl, rfl⟩
  go_wp2_with fail
  refine (pick_pos w1.heap.size 0 4 w2 hR (by omega) (by omega)).mono ?_
  rintro e w3 ⟨z, rfl, z0, z1, hR3, hg3⟩
  have hr := cTo_range t m
  go_wp2
  go_ret3
  exact ⟨_, t, m, rfl, ⟨t0, t1⟩, ⟨m0, m1⟩, (hb.trans (hb2.mono hb.size)).grown hg3 (Nat.le_trans hb.size hb2.size) (fun k hk => by cases hk; exact hb.size)⟩
end Go.Proofs.Ytjmchblfihnhjaa
