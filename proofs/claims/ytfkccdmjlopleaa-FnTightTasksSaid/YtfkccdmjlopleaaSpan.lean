/- Worlds that differ only in the blocks lo .. hi. -/
import Derived.Test.YtfkccdmjlopleaaLists2
namespace Go.Proofs.Ytfkccdmjlopleaa
open Go.RowKit

structure Span (lo hi : Nat) (w w' : World) : Prop where
  os : w'.os = w.os
  tape : w'.tape = w.tape
  output : w'.output = w.output
  size : w.heap.size ≤ w'.heap.size
  block : ∀ k, k < w.heap.size → (k < lo ∨ hi ≤ k) → w'.heap[k]? = w.heap[k]?
theorem Span.refl (lo hi : Nat) (w : World) : Span lo hi w w := ⟨rfl, rfl, rfl, Nat.le_refl _, fun _ _ _ => rfl⟩
theorem Span.trans {lo hi : Nat} {a b c : World} (h : Span lo hi a b) (k : Span lo hi b c) : Span lo hi a c :=
  ⟨k.os.trans h.os, k.tape.trans h.tape, k.output.trans h.output, Nat.le_trans h.size k.size, fun i hi' hr => (k.block i (Nat.lt_of_lt_of_le hi' h.size) hr).trans (h.block i hi' hr)⟩
theorem Span.wider {lo hi lo' hi' : Nat} {a b : World} (h : Span lo hi a b) (h1 : lo' ≤ lo) (h2 : hi ≤ hi') : Span lo' hi' a b :=
  ⟨h.os, h.tape, h.output, h.size, fun i hi' hr => h.block i hi' (by omega)⟩
theorem Span.of_grown {lo hi : Nat} {a b : World} {row : Option Nat} (h : a.grownBy b row) (hr : ∀ g, row = some g → lo ≤ g ∧ g < hi) : Span lo hi a b :=
  ⟨h.os, h.tape, h.output, h.size, fun i hi' hh => h.block i hi' (fun e => by have := hr i e.symm; omega)⟩
theorem Span.below {lo hi B : Nat} {a b c : World} (h : Below B a b) (k : Span lo hi b c) (h1 : B ≤ lo) (h2 : B ≤ b.heap.size) : Below B a c :=
  ⟨k.os.trans h.os, k.tape.trans h.tape, k.output.trans h.output, Nat.le_trans h.size k.size, fun i hi' => (k.block i (by omega) (by omega)).trans (h.block i hi')⟩
theorem Row.span {lo hi l h : Nat} {w w' : World} {v : Value} {zs : List Int} (hr : Row w l h v zs) (k : Span lo hi w w') (hd : h ≤ lo ∨ hi ≤ l) : Row w' l h v zs := by
  obtain ⟨⟨h1, h2⟩, h3⟩ := hr
  refine ⟨⟨h1, ?_⟩, h3⟩
  rcases h2 with h2 | ⟨g, cap, cur, rfl, hlo, hh, r⟩
  · exact .inl h2
  · refine .inr ⟨g, cap, cur, rfl, hlo, ?_, r⟩
    have hlt : g < w.heap.size := by
      rcases Nat.lt_or_ge g w.heap.size with h | h
      · exact h
      · rw [Array.getElem?_eq_none h] at hh; cases hh
    rw [k.block g hlt (by have := h3 g rfl; omega)]
    exact hh
end Go.Proofs.Ytfkccdmjlopleaa
