/- Contracts: matrices with edges, the program's. -/
import Derived.Test.YtakjmdjjpalaiaaFnsE1
import Derived.Test.YtakjmdjjpalaiaaApp1
import Derived.Test.YtakjmdjjpalaiaaPlainM2
namespace Go.Proofs.Ytakjmdjjpalaiaa
open Go.RowKit

theorem rowOf_len (r c k : Int) (b off n cap lo m : Nat) (w : World) (hlo : k * c = (lo : Int)) (hhi : c = (m : Int)) (h1 : 0 < m) (h2 : lo + m ≤ n) (h3 : n ≤ cap) (h4 : cap ≤ 9223372036854775807) (hk : 0 ≤ k ∧ k ≤ 1000) :
    Calls Try.prog 86 #[matV r c (.slice (some ⟨b, off, none⟩) n cap), .int .i64 k] w fun e w' => ∃ cp, e = .returned (.slice (some ⟨b, off + lo, none⟩) m cp) ∧ m ≤ cp ∧ cp ≤ 9223372036854775807 ∧ Below w.heap.size w w' := by
  refine (rowOf_any r c k b off n cap lo (lo + m) w hlo (by rw [Int.add_mul, hlo, hhi]; simp) (by omega) h2 h3 h4 hk).mono ?_
  rintro e w' ⟨h, hb⟩
  rw [Nat.add_sub_cancel_left] at h
  exact ⟨_, h, by omega, by omega, hb⟩

def OkE (r c : Int) (zs : List Int) (d : Int) : Prop := OkM r c zs ∧ (0 ≤ d ∧ d ≤ 5) ∧ r + 2 * d ≤ 5 ∧ c + 2 * d ≤ 5

section
variable (r c l : Int) (A : Option Addr) (cap n B : Nat) (zs : List Int) (w : World) (hs : Sl w B A zs) (hB : B ≤ w.heap.size) (e : n = zs.length) (hn : n ≤ 1100000)
include hs hB e hn
set_option maxHeartbeats 800000 in
theorem implEdge_no (h : ¬ OkE r c zs l) : Calls Try.prog 50 #[matV r c (.slice A n cap), .int .i64 l] w fun e w' => e = .returned (matV 0 0 (.slice none 0 0)) ∧ Below w.heap.size w w' := by
  subst e
  obtain ⟨W, hW⟩ : ∃ W, (w.alloc (.cells #[.int .i64 r, .int .i64 c, .slice A zs.length cap] 26)).alloc (.cells #[.int .i64 0, .int .i64 0, .slice none 0 0] 26) = W := ⟨_, rfl⟩
  obtain ⟨q0, q1, hb, hws⟩ := nest2 w r c (.slice A zs.length cap) W hW.symm
  have HS := Lib.hid (hs.below hb hB)
  have Q0 := Lib.hid q0
  have Q1 := Lib.hid q1
  obtain ⟨a0, a1, a2, f0, f1, f2, alt⟩ := q0
  clear hs q1
  by_cases hm : OkM r c zs
  · obtain ⟨hr1, hc1, _, _⟩ := id hm
    have hl : l < 0 ∨ (0 ≤ l ∧ 5 < l) ∨ (0 ≤ l ∧ l ≤ 5 ∧ 5 < r + 2 * l) ∨ (0 ≤ l ∧ l ≤ 5 ∧ r + 2 * l ≤ 5 ∧ 5 < c + 2 * l) := by
      apply Classical.byContradiction
      intro hh
      exact h ⟨hm, by omega, by omega, by omega⟩
    have HM := Lib.hid hm
    clear h hm
    go_enter Try.func50, Try.ntmps50
    go_wp2_with fail
    refine (implMV_yes r c A cap _ B zs W HS.out (by omega) rfl (by omega) HM.out).mono ?_
    rintro e w2 ⟨rfl, hb2⟩
    have P1 := Q1.out.below hb2 (by omega)
    have HP1 := Lib.hid P1
    obtain ⟨b0, b1, b2, g0, g1, g2, blt⟩ := P1
    obtain ⟨c0, c1, c2, _, _, _, clt⟩ := Q0.out.below hb2 (by omega)
    have HB := Lib.hid (hb.trans (hb2.mono (by omega)))
    clear hb hb2 a0 a1 a2 f0 f1 f2 alt Q0 Q1
    rcases hl with hl | ⟨hl, hl2⟩ | ⟨hl, hl2, hl3⟩ | ⟨hl, hl2, hl3, hl4⟩
    all_goals (
      go_wp2
      have P2 := ((HP1.out.set0 (.int .i64 0)).set1 (.int .i64 0)).set2 (.slice none 0 0)
      have B4 := ((HB.out.setCell (p := ⟨w.heap.size + 1, 0, none⟩) (by simp) (.int .i64 0)).setCell (p := ⟨w.heap.size + 1, 1, none⟩) (by simp) (.int .i64 0)).setCell (p := ⟨w.heap.size + 1, 2, none⟩) (by simp) (.slice none 0 0)
      obtain ⟨W4, hW4⟩ : ∃ W4, (((w2.setCell ⟨w.heap.size + 1, 0, none⟩ (.int .i64 0)).setCell ⟨w.heap.size + 1, 1, none⟩ (.int .i64 0)).setCell ⟨w.heap.size + 1, 2, none⟩ (.slice none 0 0)) = W4 := ⟨_, rfl⟩
      rw [hW4] at P2 B4 ⊢
      obtain ⟨z0, z1, z2, _, _, _, _⟩ := P2
      refine bodyPost_ret (v := matV 0 0 (.slice none 0 0)) (by simp [results, Try.results50, go_sem, z0, z1, z2]) rfl ?_
      exact ⟨rfl, B4⟩)
  · have HM := Lib.hid hm
    clear h hm
    go_enter Try.func50, Try.ntmps50
    go_wp2_with fail
    refine (implMV_no r c A cap _ B zs W HS.out (by omega) rfl (by omega) HM.out).mono ?_
    rintro e w2 ⟨rfl, hb2⟩
    have P1 := Q1.out.below hb2 (by omega)
    have HP1 := Lib.hid P1
    obtain ⟨b0, b1, b2, g0, g1, g2, blt⟩ := P1
    have HB := Lib.hid (hb.trans (hb2.mono (by omega)))
    clear hb hb2 a0 a1 a2 f0 f1 f2 alt Q0 Q1
    go_wp2
    have P2 := ((HP1.out.set0 (.int .i64 0)).set1 (.int .i64 0)).set2 (.slice none 0 0)
    have B4 := ((HB.out.setCell (p := ⟨w.heap.size + 1, 0, none⟩) (by simp) (.int .i64 0)).setCell (p := ⟨w.heap.size + 1, 1, none⟩) (by simp) (.int .i64 0)).setCell (p := ⟨w.heap.size + 1, 2, none⟩) (by simp) (.slice none 0 0)
    obtain ⟨W4, hW4⟩ : ∃ W4, (((w2.setCell ⟨w.heap.size + 1, 0, none⟩ (.int .i64 0)).setCell ⟨w.heap.size + 1, 1, none⟩ (.int .i64 0)).setCell ⟨w.heap.size + 1, 2, none⟩ (.slice none 0 0)) = W4 := ⟨_, rfl⟩
    rw [hW4] at P2 B4 ⊢
    obtain ⟨z0, z1, z2, _, _, _, _⟩ := P2
    refine bodyPost_ret (v := matV 0 0 (.slice none 0 0)) (by simp [results, Try.results50, go_sem, z0, z1, z2]) rfl ?_
    exact ⟨rfl, B4⟩
end
end Go.Proofs.Ytakjmdjjpalaiaa
