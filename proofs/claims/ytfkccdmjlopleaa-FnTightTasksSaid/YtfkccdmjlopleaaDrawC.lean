/- Contracts of the drawing function of tasks. -/
import Derived.Test.YtfkccdmjlopleaaDrawA
import Derived.Test.YtfkccdmjlopleaaDrawSig
import Derived.Test.YtfkccdmjlopleaaFnsC3
namespace Go.Proofs.Ytfkccdmjlopleaa
open Go.RowKit

/-- Slices of the call's own that are read, beside the block o that is written. -/
def Inn (w : World) (lo : Nat) (o : Option Nat) (vs : List Value) (zss : List (List Int)) : Prop :=
  vs.length = zss.length ∧ ∀ j (hj : j < vs.length), Row w lo w.heap.size vs[j] (at2 zss j) ∧ (vs[j].ownBlock = none ∨ vs[j].ownBlock ≠ o)
theorem Row.kept' {w w' : World} {lo hi : Nat} {v : Value} {zs : List Int} {row : Option Nat} (h : Row w lo hi v zs) (hg : w.grownBy w' row) (hne : v.ownBlock = none ∨ v.ownBlock ≠ row) : Row w' lo hi v zs := ⟨h.1.kept hg hne, h.2⟩
theorem Inn.grown {w w' : World} {lo : Nat} {o row : Option Nat} {vs : List Value} {zss : List (List Int)} (h : Inn w lo o vs zss) (hg : w.grownBy w' row) (hr : ∀ g, row = some g → g < lo) : Inn w' lo o vs zss :=
  ⟨h.1, fun j hj => ⟨((h.2 j hj).1.grown hg (fun g e => .inl (hr g e))).wider (Nat.le_refl _) hg.size, (h.2 j hj).2⟩⟩
theorem Inn.written {w w' : World} {lo : Nat} {o o' : Option Nat} {vs : List Value} {zss : List (List Int)} (h : Inn w lo o vs zss) (hg : w.grownBy w' o) (ho : o' = o ∨ o' = some w.heap.size) : Inn w' lo o' vs zss :=
  ⟨h.1, fun j hj => by
    obtain ⟨h1, h2⟩ := h.2 j hj
    refine ⟨(h1.kept' hg h2).wider (Nat.le_refl _) hg.size, ?_⟩
    rcases ho with rfl | rfl
    · exact h2
    · cases hb : vs[j].ownBlock with
      | none => exact .inl rfl
      | some g => right; intro e; cases e; have := h1.2 _ hb; omega⟩
theorem Inn.snoc {w : World} {lo : Nat} {o : Option Nat} {vs : List Value} {zss : List (List Int)} {v : Value} {zs : List Int} (h : Inn w lo o vs zss) (hr : Row w lo w.heap.size v zs) (hne : v.ownBlock = none ∨ v.ownBlock ≠ o) : Inn w lo o (vs ++ [v]) (zss ++ [zs]) := by
  have hl := h.1
  refine ⟨by simp [hl], fun j hj => ?_⟩
  by_cases e : j < vs.length
  · have h2 := h.2 j e
    rw [List.getElem_append_left e]
    rw [show at2 (zss ++ [zs]) j = at2 zss j by unfold at2; simp [List.getElem?_append, show j < zss.length by omega]]
    exact h2
  · have ej : j = vs.length := by simp at hj; omega
    subst ej
    rw [show (vs ++ [v])[vs.length]'hj = v by simp]
    rw [show at2 (zss ++ [zs]) vs.length = zs by unfold at2; simp [hl]]
    exact ⟨hr, hne⟩
theorem Inn.ss {w : World} {lo hi : Nat} {v : Value} {vs : List Value} {zss : List (List Int)} (h : Inn w lo v.ownBlock vs zss) (hG : GRow w lo hi 29 v vs) (hh : hi ≤ w.heap.size) : ∃ A c, v = .slice A zss.length c ∧ zss.length ≤ c ∧ c ≤ maxLen ∧ SS w w.heap.size A zss := by
  obtain ⟨A, cc, rfl, h1, h2⟩ := hG.form
  have hl := h.1
  refine ⟨A, cc, by rw [hl], by omega, h2, ?_⟩
  rcases Nat.eq_zero_or_pos zss.length with h0 | h0
  · have : zss = [] := List.eq_nil_of_length_eq_zero h0
    subst this
    exact SS.empty _ _ _
  · obtain ⟨g, rfl, hg1, hg2, _, _⟩ := hG.cell_ (j := 0) (by omega)
    refine ⟨g, 0, fun _ => ⟨rfl, by omega⟩, fun j hj => ?_⟩
    have hj' : j < vs.length := by omega
    obtain ⟨g', hg', _, _, hc, _⟩ := hG.cell_ hj'
    cases hg'
    obtain ⟨hr, _⟩ := h.2 j hj'
    obtain ⟨A', c', he, h3, h4, h5⟩ := hr.form
    exact ⟨A', c', by rw [Nat.zero_add, hc, he], h3, h4, h5⟩

/-- append of headers onto a row of headers. -/
theorem wpList_appV {w : World} {ops : Array Oper} {rest : List Oper} {o : Oper} {a : Act} {Q : Exit → Act → World → Prop} (hw : o.guard = none) (s x : Operand)
    (ho : o.op = .call { callee := .builtin .append, args := #[s, x], argTypes := #[22, 22] })
    (lo hi : Nat) (v : Value) (vs : List Value) (hsv : a.eval s = v) (hrow : GRow w lo hi 29 v vs) (ad : Addr) (n c : Nat) (us : List Value) (hx : a.eval x = .slice (some ad) n c) (hul : us.length = n) (hz : ∀ j u, us[j]? = some u → w.cell? (ad.add j) = some u)
    (hone : ∀ u ∈ us, u.oneCell' = true) (hn : vs.length + n ≤ 2000000) (hlo : lo ≤ w.heap.size)
    (h : ∀ v' w', GRow w' lo w'.heap.size 29 v' (vs ++ us) → w.grownBy w' v.ownBlock → (v'.ownBlock = v.ownBlock ∨ v'.ownBlock = some w.heap.size) → wpList Try.prog ops Q rest (a.put o.dst v') w') : wpList Try.prog ops Q (o :: rest) a w := by
  obtain ⟨i0, hi0, hz0, hz1, hz2⟩ := info_parts info_ints
  refine wpList_append_own_at w hw s x 22 ho lo 29 i0 (.slice none 0 0) 1 24 Try.underlying22 hi0 hz0 hz1 hz2 rfl (by decide) v vs.length _ hsv hrow.1 ad n c us hx (by simpa using hul) hz hone (by simp only [maxLen]; omega) (by omega) hlo ?_
  intro v' w' h1 h2 _ h3
  exact h v' w' ⟨by simpa [hul] using h1, fun g hg => (h1.lt g hg).2⟩ h2 h3
end Go.Proofs.Ytfkccdmjlopleaa
