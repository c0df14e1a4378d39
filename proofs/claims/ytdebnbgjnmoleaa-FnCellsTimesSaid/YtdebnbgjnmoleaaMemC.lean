/- Words for memory: cells of a matrix, three numbers each, in a row of the call's own; a list of cells as its numbers in a row. -/
import Derived.Test.YtdebnbgjnmoleaaPlainF
import Derived.Test.YtdebnbgjnmoleaaSpan
import Derived.Deep.DeepAppendWide
namespace Go.Proofs.Ytdebnbgjnmoleaa
open Go.RowKit

/-- The numbers of cells in a row. -/
def fl : List Tri → List Int
  | [] => []
  | t :: ts => t.1 :: t.2.1 :: t.2.2 :: fl ts
theorem fl_len (ts : List Tri) : (fl ts).length = ts.length * 3 := by
  induction ts with
  | nil => rfl
  | cons t ts ih => simp only [fl, List.length_cons, ih]; omega
theorem fl_app (ts us : List Tri) : fl (ts ++ us) = fl ts ++ fl us := by
  induction ts with
  | nil => rfl
  | cons t ts ih => simp only [fl, List.cons_append, ih]
theorem fl_get (ts : List Tri) (j : Nat) (hj : j < ts.length) : (fl ts).getD (j * 3) 0 = (ts.getD j t0).1 ∧ (fl ts).getD (j * 3 + 1) 0 = (ts.getD j t0).2.1 ∧ (fl ts).getD (j * 3 + 2) 0 = (ts.getD j t0).2.2 := by
  induction ts generalizing j with
  | nil => simp at hj
  | cons t ts ih =>
    cases j with
    | zero => simp [fl]
    | succ j =>
      have := ih j (by simpa using hj)
      rw [show (j + 1) * 3 = j * 3 + 3 by omega]
      simpa [fl, List.getD_eq_getElem?_getD] using this
theorem fl_inj {ts us : List Tri} (h : fl ts = fl us) : ts = us := by
  induction ts generalizing us with
  | nil => cases us with
    | nil => rfl
    | cons u us => simp [fl] at h
  | cons t ts ih => cases us with
    | nil => simp [fl] at h
    | cons u us =>
      simp only [fl, List.cons.injEq] at h
      obtain ⟨h1, h2, h3, h4⟩ := h
      rw [ih h4]
      obtain ⟨a, b, c⟩ := t
      obtain ⟨a', b', c'⟩ := u
      simp only at h1 h2 h3
      rw [h1, h2, h3]

/-- The value v is a slice of n cells, whose numbers in a row are zs, in a block of the call's own. -/
def RowC (w : World) (lo hi : Nat) (v : Value) (n : Nat) (zs : List Int) : Prop := w.ownsRow lo 59 3 v n (zs.map (Value.int .i64)) ∧ ∀ g, v.ownBlock = some g → g < hi
section
variable {w w' : World} {lo hi n : Nat} {v : Value} {zs : List Int}
theorem RowC.len (h : RowC w lo hi v n zs) : zs.length = n * 3 := by simpa using h.1.1
theorem RowC.grown {row : Option Nat} (h : RowC w lo hi v n zs) (hg : w.grownBy w' row) (hr : ∀ g, row = some g → g < lo ∨ hi ≤ g) : RowC w' lo hi v n zs := by
  refine ⟨h.1.kept hg ?_, h.2⟩
  cases hv : v.ownBlock with
  | none => exact .inl rfl
  | some g =>
    right
    intro e
    have h1 := h.1.lt g hv
    have h2 := h.2 g hv
    rcases hr g e.symm with h3 | h3 <;> omega
theorem RowC.below {B : Nat} (h : RowC w lo hi v n zs) (hb : Below B w w') (hB : hi ≤ B) : RowC w' lo hi v n zs := by
  obtain ⟨⟨h1, h2⟩, h3⟩ := h
  refine ⟨⟨h1, ?_⟩, h3⟩
  rcases h2 with h2 | ⟨g, cap, cur, rfl, hlo, hh, r⟩
  · exact .inl h2
  · refine .inr ⟨g, cap, cur, rfl, hlo, ?_, r⟩
    rw [hb.block g (by have := h3 g rfl; omega)]
    exact hh
theorem RowC.wider {lo' hi' : Nat} (h : RowC w lo hi v n zs) (h1 : lo' ≤ lo) (h2 : hi ≤ hi') : RowC w lo' hi' v n zs := by
  obtain ⟨⟨a, b⟩, c⟩ := h
  refine ⟨⟨a, ?_⟩, fun g hg => Nat.lt_of_lt_of_le (c g hg) h2⟩
  rcases b with b | ⟨g, cap, cur, hv, hlo, r⟩
  · exact .inl b
  · exact .inr ⟨g, cap, cur, hv, Nat.le_trans h1 hlo, r⟩
theorem RowC.nil_ (w : World) (lo hi : Nat) : RowC w lo hi (.slice none 0 0) 0 [] := ⟨World.ownsRow_nil _ _ _ _, fun g h => by simp [Value.ownBlock] at h⟩
theorem RowC.block_lt (h : RowC w lo hi v n zs) : ∀ g, v.ownBlock = some g → lo ≤ g ∧ g < hi := fun g hg => ⟨(h.1.lt g hg).1, h.2 g hg⟩
theorem RowC.form (h : RowC w lo hi v n zs) : ∃ A c, v = .slice A n c ∧ n ≤ c ∧ c ≤ maxLen ∧ Sl w hi A zs := by
  have hlen := h.len
  obtain ⟨⟨h1, h2⟩, h3⟩ := h
  rcases h2 with ⟨rfl, hn⟩ | ⟨g, cap, cur, rfl, hlo, hh, hnc, hcm, hcs, htk⟩
  · subst hn
    have hz : zs = [] := List.eq_nil_of_length_eq_zero (by omega)
    subst hz
    exact ⟨none, 0, rfl, Nat.le_refl _, by simp [maxLen], Sl.empty _ _ _⟩
  · refine ⟨some ⟨g, 0, none⟩, cap, rfl, hnc, hcm, g, 0, fun _ => ⟨rfl, h3 g rfl⟩, fun j hj => ?_⟩
    have h4 : w.ownsRow lo 59 3 (.slice (some ⟨g, 0, none⟩) n cap) n (zs.map (Value.int .i64)) := ⟨h1, .inr ⟨g, cap, cur, rfl, hlo, hh, hnc, hcm, hcs, htk⟩⟩
    rw [Nat.zero_add, h4.cellAt j (by omega)]
    simp [hj]
theorem RowC.sl {A : Option Addr} {m c : Nat} (h : RowC w lo hi (.slice A m c) n zs) : m = n ∧ Sl w hi A zs := by
  obtain ⟨A', c', hv, _, _, hs⟩ := h.form
  injection hv with h1 h2
  subst h1 h2
  exact ⟨rfl, hs⟩
theorem RowC.stored {g m c : Nat} (h : RowC w lo hi (.slice (some ⟨g, 0, none⟩) m c) n zs) (j : Nat) (z : Int) :
    RowC (w.setCell ⟨g, j, none⟩ (.int .i64 z)) lo hi (.slice (some ⟨g, 0, none⟩) m c) n (zs.set j z) ∧ w.grownBy (w.setCell ⟨g, j, none⟩ (.int .i64 z)) (some g) := by
  obtain ⟨rfl, _⟩ := h.sl
  obtain ⟨h1, h2⟩ := h
  have h3 := h1.stored j (.int .i64 z)
  rw [← List.map_set] at h3
  exact ⟨⟨h3.1, h2⟩, h3.2⟩
theorem RowC.cell_ {A : Option Addr} {m c : Nat} (h : RowC w lo hi (.slice A m c) n zs) {j : Nat} (hj : j < zs.length) :
    ∃ g, A = some ⟨g, 0, none⟩ ∧ lo ≤ g ∧ g < hi ∧ w.cell? ⟨g, j, none⟩ = some (.int .i64 (zs.getD j 0)) ∧ w.frozen? ⟨g, j, none⟩ = false := by
  have hlen := h.len
  obtain ⟨rfl, _⟩ := h.sl
  rcases h.1.2 with ⟨hv, hn⟩ | ⟨g, cap, cur, hv, _⟩
  · omega
  · injection hv with h1 h2 h3
    subst h1
    have h4 := h.block_lt g rfl
    refine ⟨g, rfl, h4.1, h4.2, ?_, h.1.frozenAt j⟩
    rw [h.1.cellAt j (by omega)]
    simp [hj]
theorem RowC.span {l h' : Nat} (hr : RowC w lo hi v n zs) (k : Span l h' w w') (hd : hi ≤ l ∨ h' ≤ lo) : RowC w' lo hi v n zs := by
  obtain ⟨⟨h1, h2⟩, h3⟩ := hr
  refine ⟨⟨h1, ?_⟩, h3⟩
  rcases h2 with h2 | ⟨g, cap, cur, rfl, hlo, hh, r⟩
  · exact .inl h2
  · refine .inr ⟨g, cap, cur, rfl, hlo, ?_, r⟩
    have hlt : g < w.heap.size := by
      rcases Nat.lt_or_ge g w.heap.size with h | h
      · exact h
      · rw [Array.getElem?_eq_none h] at hh; cases hh
    rw [k.block g hlt (by have := h3 g rfl; omega)]
    exact hh
end
theorem info_cell : (Try.prog.info? 59).map (fun i => (i.zero, i.size, i.bytes)) = some (some (.agg #[.int .i64 0, .int .i64 0, .int .i64 0]), 3, 24) := by kernel_rfl
/-- append of one cell onto a row of the call's own. -/
theorem wpList_appC {w : World} {ops : Array Oper} {rest : List Oper} {o : Oper} {a : Act} {Q : Exit → Act → World → Prop} (hw : o.guard = none) (s x : Operand)
    (ho : o.op = .call { callee := .builtin .append, args := #[s, x], argTypes := #[26, 26] })
    (lo hi : Nat) (v : Value) (n : Nat) (ys : List Int) (hsv : a.eval s = v) (hrow : RowC w lo hi v n ys) (g : Nat) (p q z : Int) (hx : a.eval x = .slice (some ⟨g, 0, none⟩) 1 1)
    (h0 : w.cell? ⟨g, 0, none⟩ = some (.int .i64 p)) (h1 : w.cell? ⟨g, 1, none⟩ = some (.int .i64 q)) (h2 : w.cell? ⟨g, 2, none⟩ = some (.int .i64 z))
    (hn : n ≤ 2000000) (hlo : lo ≤ w.heap.size)
    (h : ∀ v' w', RowC w' lo w'.heap.size v' (n + 1) (ys ++ [p, q, z]) → w.grownBy w' v.ownBlock → wpList Try.prog ops Q rest (a.put o.dst v') w') : wpList Try.prog ops Q (o :: rest) a w := by
  obtain ⟨i0, hi0, hz0, hz1, hz2⟩ := info_parts info_cell
  refine wpList_append_own_wide w hw s x 26 ho lo 59 i0 (.agg #[.int .i64 0, .int .i64 0, .int .i64 0]) 3 24 Try.underlying26 hi0 hz0 hz1 hz2 rfl (by decide) v n _ hsv hrow.1 ⟨g, 0, none⟩ 1 1 [.int .i64 p, .int .i64 q, .int .i64 z] hx rfl ?_ (by intro u hu; simp at hu; rcases hu with rfl | rfl | rfl <;> rfl) (by simp only [maxLen]; omega) (by omega) hlo ?_
  · intro j u hj
    match j, hj with
    | 0, hj => simp at hj; subst hj; simpa [Addr.add] using h0
    | 1, hj => simp at hj; subst hj; simpa [Addr.add] using h1
    | 2, hj => simp at hj; subst hj; simpa [Addr.add] using h2
  · intro v' w' h1 h2 _
    exact h v' w' ⟨by simpa using h1, fun g hg => (h1.lt g hg).2⟩ h2
end Go.Proofs.Ytdebnbgjnmoleaa
