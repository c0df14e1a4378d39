/- Words for memory: a slice of numbers that can be read (Sl), a row of numbers that the call owns (Row), both kept over what leaves them alone; the reader of the drawn code (Rd). No program in sight but for the number of the type int. -/
import Derived.WalkKit
import Derived.Maps.AppendAt
import Derived.Deep.AppendLies
import Derived.Deep.Draws
import Derived.Laws.Rows
import Derived.Laws.OwnMore
import Derived.Lib.Hide
namespace Go.Proofs.Ytfkccdmjlopleaa
open Go.RowKit

theorem below_drewN {B : Nat} {a w : World} (h : Below B a w) (n : Nat) : Below B a (w.drewN n) := ⟨h.os, h.tape, h.output, h.size, h.block⟩
theorem bcell {W w1 : World} (hb : Below W.heap.size W w1) : (∀ b o, b < W.heap.size → w1.cell? ⟨b, o, none⟩ = W.cell? ⟨b, o, none⟩) ∧ (∀ b o, b < W.heap.size → w1.frozen? ⟨b, o, none⟩ = W.frozen? ⟨b, o, none⟩) :=
  ⟨fun b o h => hb.cell (p := ⟨b, o, none⟩) h, fun b o h => hb.frozen (p := ⟨b, o, none⟩) h⟩

/-- The slice at A of as many numbers as zs reads as zs; it lies below block B. -/
def Sl (w : World) (B : Nat) (A : Option Addr) (zs : List Int) : Prop :=
  ∃ b off, (0 < zs.length → A = some ⟨b, off, none⟩ ∧ b < B) ∧ ∀ j, j < zs.length → w.cell? ⟨b, off + j, none⟩ = some (.int .i64 (zs.getD j 0))

theorem Sl.empty (w : World) (B : Nat) (A : Option Addr) : Sl w B A [] := ⟨0, 0, fun h => absurd h (by simp), fun j h => absurd h (by simp)⟩
theorem Sl.keep {w w' : World} {B : Nat} {A : Option Addr} {zs : List Int} (h : Sl w B A zs) (hk : ∀ p : Addr, p.block < B → w'.cell? p = w.cell? p) : Sl w' B A zs := by
  obtain ⟨b, off, h1, h2⟩ := h
  refine ⟨b, off, h1, fun j hj => ?_⟩
  rw [hk ⟨b, off + j, none⟩ (h1 (by omega)).2]
  exact h2 j hj
theorem Sl.below {w w' : World} {B B' : Nat} {A : Option Addr} {zs : List Int} (h : Sl w B A zs) (hb : Below B' w w') (hB : B ≤ B') : Sl w' B A zs := h.keep fun _ hp => hb.cell (Nat.lt_of_lt_of_le hp hB)
theorem Sl.more {w : World} {B B' : Nat} {A : Option Addr} {zs : List Int} (h : Sl w B A zs) (hB : B ≤ B') : Sl w B' A zs := by
  obtain ⟨b, off, h1, h2⟩ := h
  exact ⟨b, off, fun hn => ⟨(h1 hn).1, by have := (h1 hn).2; omega⟩, h2⟩

/-- The value v is a slice of the numbers zs in a row of the call's own: in a block from lo on and below hi; or nil, and zs is empty. -/
def Row (w : World) (lo hi : Nat) (v : Value) (zs : List Int) : Prop := w.ownsRow lo 3 1 v zs.length (zs.map (Value.int .i64)) ∧ ∀ g, v.ownBlock = some g → g < hi

section
variable {w w' : World} {lo hi : Nat} {v : Value} {zs : List Int}
theorem Row.grown {row : Option Nat} (h : Row w lo hi v zs) (hg : w.grownBy w' row) (hr : ∀ g, row = some g → g < lo ∨ hi ≤ g) : Row w' lo hi v zs := by
  refine ⟨h.1.kept hg ?_, h.2⟩
  cases hv : v.ownBlock with
  | none => exact .inl rfl
  | some g =>
    right
    intro e
    have h1 := h.1.lt g hv
    have h2 := h.2 g hv
    rcases hr g e.symm with h3 | h3 <;> omega
theorem Row.below {B : Nat} (h : Row w lo hi v zs) (hb : Below B w w') (hB : hi ≤ B) : Row w' lo hi v zs := by
  obtain ⟨⟨h1, h2⟩, h3⟩ := h
  refine ⟨⟨h1, ?_⟩, h3⟩
  rcases h2 with h2 | ⟨g, cap, cur, rfl, hlo, hh, r⟩
  · exact .inl h2
  · refine .inr ⟨g, cap, cur, rfl, hlo, ?_, r⟩
    rw [hb.block g (by have := h3 g rfl; omega)]
    exact hh
theorem Row.wider {lo' hi' : Nat} (h : Row w lo hi v zs) (h1 : lo' ≤ lo) (h2 : hi ≤ hi') : Row w lo' hi' v zs := by
  obtain ⟨⟨a, b⟩, c⟩ := h
  refine ⟨⟨a, ?_⟩, fun g hg => Nat.lt_of_lt_of_le (c g hg) h2⟩
  rcases b with b | ⟨g, cap, cur, hv, hlo, r⟩
  · exact .inl b
  · exact .inr ⟨g, cap, cur, hv, Nat.le_trans h1 hlo, r⟩
theorem Row.nil_ (w : World) (lo hi : Nat) : Row w lo hi (.slice none 0 0) [] := ⟨World.ownsRow_nil _ _ _ _, fun g h => by simp [Value.ownBlock] at h⟩
theorem Row.form (h : Row w lo hi v zs) : ∃ A c, v = .slice A zs.length c ∧ zs.length ≤ c ∧ c ≤ maxLen ∧ Sl w hi A zs := by
  obtain ⟨⟨h1, h2⟩, h3⟩ := h
  rcases h2 with ⟨rfl, hn⟩ | ⟨g, cap, cur, rfl, hlo, hh, hnc, hcm, hcs, htk⟩
  · have hz : zs = [] := List.eq_nil_of_length_eq_zero hn
    subst hz
    exact ⟨none, 0, rfl, Nat.le_refl _, by simp [maxLen], Sl.empty _ _ _⟩
  · refine ⟨some ⟨g, 0, none⟩, cap, rfl, hnc, hcm, g, 0, fun _ => ⟨rfl, h3 g rfl⟩, fun j hj => ?_⟩
    have h4 : w.ownsRow lo 3 1 (.slice (some ⟨g, 0, none⟩) zs.length cap) zs.length (zs.map (Value.int .i64)) := ⟨h1, .inr ⟨g, cap, cur, rfl, hlo, hh, hnc, hcm, hcs, htk⟩⟩
    rw [Nat.zero_add, h4.cellAt j (by omega)]
    simp [hj]
theorem Row.block_lt (h : Row w lo hi v zs) : ∀ g, v.ownBlock = some g → lo ≤ g ∧ g < hi := fun g hg => ⟨(h.1.lt g hg).1, h.2 g hg⟩
end

/-- The reader of the drawn code: block R holds the code (a slice of n bytes at A, in a block ahead of R) and how many bytes were read, at most N. -/
def Rd (w : World) (R N : Nat) : Prop :=
  ∃ (A : Option Addr) (n c p : Nat), p ≤ N ∧ n ≤ 2000 ∧ w.heap[R]? = some (.cells #[.slice A n c, .int .i64 (p : Int)] 48 (0, 0)) ∧
    (0 < n → ∃ b off, A = some ⟨b, off, none⟩ ∧ b < R ∧ ∀ j, j < n → ∃ x : Int, 0 ≤ x ∧ x ≤ 255 ∧ w.cell? ⟨b, off + j, none⟩ = some (.int .u8 x))
/-- The code as a law gets it: n bytes at A, in memory that was there. -/
def Code8 (w : World) (A : Option Addr) (n : Nat) : Prop := 0 < n → ∃ b off, A = some ⟨b, off, none⟩ ∧ b < w.heap.size ∧ ∀ j, j < n → ∃ x : Int, 0 ≤ x ∧ x ≤ 255 ∧ w.cell? ⟨b, off + j, none⟩ = some (.int .u8 x)
theorem Code8.below {w w' : World} {A : Option Addr} {n : Nat} (h : Code8 w A n) (hb : Below w.heap.size w w') : Code8 w' A n := fun hn => by
  obtain ⟨b, off, hA, hlt, hc⟩ := h hn
  refine ⟨b, off, hA, Nat.lt_of_lt_of_le hlt hb.size, fun j hj => ?_⟩
  obtain ⟨x, x0, x1, hx⟩ := hc j hj
  exact ⟨x, x0, x1, (hb.cell (p := ⟨b, off + j, none⟩) hlt).trans hx⟩

end Go.Proofs.Ytfkccdmjlopleaa
