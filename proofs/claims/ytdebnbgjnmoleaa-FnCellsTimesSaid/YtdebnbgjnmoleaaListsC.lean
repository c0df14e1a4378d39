/- Contracts of the functions on cells that the laws share: sizes, copies, equality, marks. -/
import Derived.Test.YtdebnbgjnmoleaaMemC
import Derived.Test.YtdebnbgjnmoleaaMatV2
namespace Go.Proofs.Ytdebnbgjnmoleaa
open Go.RowKit

abbrev cellV (t : Tri) : Value := .agg #[.int .i64 t.1, .int .i64 t.2.1, .int .i64 t.2.2]
/-- The numbers of the cell at k. -/
theorem Sl.tri {w : World} {B : Nat} {A : Option Addr} {ts : List Tri} (h : Sl w B A (fl ts)) {k : Nat} (hk : k < ts.length) :
    ∃ b off, A = some ⟨b, off, none⟩ ∧ b < B ∧ w.cell? ⟨b, off + k * 3, none⟩ = some (.int .i64 (ts.getD k t0).1) ∧ w.cell? ⟨b, off + k * 3 + 1, none⟩ = some (.int .i64 (ts.getD k t0).2.1) ∧ w.cell? ⟨b, off + k * 3 + 2, none⟩ = some (.int .i64 (ts.getD k t0).2.2) := by
  obtain ⟨b, off, h1, h2⟩ := h
  have hl := fl_len ts
  obtain ⟨g0, g1, g2⟩ := fl_get ts k hk
  have c0 := h2 (k * 3) (by omega)
  have c1 := h2 (k * 3 + 1) (by omega)
  have c2 := h2 (k * 3 + 2) (by omega)
  rw [g0] at c0
  rw [g1] at c1
  rw [g2] at c2
  exact ⟨b, off, (h1 (by omega)).1, (h1 (by omega)).2, c0, by rw [Nat.add_assoc]; exact c1, by rw [Nat.add_assoc]; exact c2⟩
theorem szC_any (A : Option Addr) (n c : Nat) (left : Int) (w : World) (h0 : 0 ≤ left) (h1 : left ≤ 1048576) (hn : n ≤ 9223372036854775807) :
    Calls Try.prog 26 #[.slice A n c, .int .i64 left] w fun e w' => e = .returned (.int .i64 (if left < (n : Int) then -1 else left - (n : Int))) ∧ w = w' := by
  by_cases h : left < (n : Int)
  · rw [if_pos h]
    have hd : decide (left - (n : Int) < 0) = true := by simp; omega
    go_enter Try.func26, Try.ntmps26
    go_wp2
    go_ret
    exact ⟨rfl, rfl⟩
  · rw [if_neg h]
    have hd : decide (left - (n : Int) < 0) = false := by simp; omega
    go_enter Try.func26, Try.ntmps26
    go_wp2
    go_ret
    exact ⟨rfl, rfl⟩
theorem toCell_any (p q z : Int) (w : World) : Calls Try.prog 56 #[.agg #[.int .i64 p, .int .i64 q, .int .i64 z]] w fun e w' => e = .returned (.agg #[.int .i64 p, .int .i64 q, .int .i64 z]) ∧ Below w.heap.size w w' := by
  obtain ⟨W, hW⟩ : ∃ W, ((w.alloc (.cells #[.int .i64 p, .int .i64 q, .int .i64 z] 74)).alloc (.cells #[.int .i64 0, .int .i64 0, .int .i64 0] 59)).alloc (.cells #[.int .i64 0, .int .i64 0, .int .i64 0] 59) = W := ⟨_, rfl⟩
  have q0 : Cell3 W w.heap.size (.int .i64 p) (.int .i64 q) (.int .i64 z) := by rw [← hW]; exact ((Cell3.new w _ _ _ _).alloc _).alloc _
  have q1 : Cell3 W (w.heap.size + 1) (.int .i64 0) (.int .i64 0) (.int .i64 0) := by
    rw [← hW]
    have b := Cell3.new (w.alloc (.cells #[.int .i64 p, .int .i64 q, .int .i64 z] 74)) (.int .i64 0) (.int .i64 0) (.int .i64 0) 59
    simp only [World.size_alloc] at b
    exact b.alloc _
  have q2 : Cell3 W (w.heap.size + 1 + 1) (.int .i64 0) (.int .i64 0) (.int .i64 0) := by
    rw [← hW]
    have b := Cell3.new ((w.alloc (.cells #[.int .i64 p, .int .i64 q, .int .i64 z] 74)).alloc (.cells #[.int .i64 0, .int .i64 0, .int .i64 0] 59)) (.int .i64 0) (.int .i64 0) (.int .i64 0) 59
    simp only [World.size_alloc] at b
    exact b
  have hb : Below w.heap.size w W := hW ▸ (((Below.refl _ _).alloc (Nat.le_refl _) _).alloc (by simp) _).alloc (by simp; omega) _
  have K1 := Lib.hid (((q1.far (a := ⟨w.heap.size + 1 + 1, 0, none⟩) (by simp) (.int .i64 p)).far (a := ⟨w.heap.size + 1 + 1, 1, none⟩) (by simp) (.int .i64 q)).far (a := ⟨w.heap.size + 1 + 1, 2, none⟩) (by simp) (.int .i64 z))
  have K2 := Lib.hid (((q2.set0 (.int .i64 p)).set1 (.int .i64 q)).set2 (.int .i64 z))
  have HB := Lib.hid (((hb.setCell (p := ⟨w.heap.size + 1 + 1, 0, none⟩) (by simp; omega) (.int .i64 p)).setCell (p := ⟨w.heap.size + 1 + 1, 1, none⟩) (by simp; omega) (.int .i64 q)).setCell (p := ⟨w.heap.size + 1 + 1, 2, none⟩) (by simp; omega) (.int .i64 z))
  obtain ⟨a0, a1, a2, _, _, _, alt⟩ := q0
  obtain ⟨b0, b1, b2, g0, g1, g2, blt⟩ := q1
  obtain ⟨d0, d1, d2, e0, e1, e2, dlt⟩ := q2
  go_enter Try.func56, Try.ntmps56
  go_wp2
  obtain ⟨z0, z1, z2, _, _, _, _⟩ := ((K1.out.set0 (.int .i64 p)).set1 (.int .i64 q)).set2 (.int .i64 z)
  refine bodyPost_ret (v := .agg #[.int .i64 p, .int .i64 q, .int .i64 z]) (by simp [results, Try.results56, go_sem, z0, z1, z2]) rfl ?_
  exact ⟨rfl, ((HB.out.setCell (p := ⟨w.heap.size + 1, 0, none⟩) (by simp) (.int .i64 p)).setCell (p := ⟨w.heap.size + 1, 1, none⟩) (by simp) (.int .i64 q)).setCell (p := ⟨w.heap.size + 1, 2, none⟩) (by simp) (.int .i64 z)⟩
theorem eqCell_same (p q z : Int) (w : World) : Calls Try.prog 42 #[.agg #[.int .i64 p, .int .i64 q, .int .i64 z], .agg #[.int .i64 p, .int .i64 q, .int .i64 z]] w fun e w' => e = .returned (.bool true) ∧ Below w.heap.size w w' := by
  have hb : Below w.heap.size w ((w.alloc (.cells #[.int .i64 p, .int .i64 q, .int .i64 z] 59)).alloc (.cells #[.int .i64 p, .int .i64 q, .int .i64 z] 59)) := ((Below.refl _ _).alloc (Nat.le_refl _) _).alloc (by simp) _
  go_enter Try.func42, Try.ntmps42
  go_wp2
  go_ret
  exact ⟨rfl, hb⟩
end Go.Proofs.Ytdebnbgjnmoleaa
