/- What is known of an argument that came in: a slice of cells. -/
import Derived.Test.YtdebnbgjnmoleaaMemC
import Derived.Test.YtdebnbgjnmoleaaCame
import Derived.Deep.Slices
import Derived.Deep.Fields
import Derived.ChangeSame
namespace Go.Proofs.Ytdebnbgjnmoleaa
open Go.ChangeShapes Go.WideShapes Go.ChangeAt Go.RowKit Go.Deep

/-- A slice of cells as a law gets it. -/
def CameC (w : World) (A : Option Addr) (len cap : Nat) : Prop := ∃ ts : List Tri, ts.length = len ∧ len ≤ cap ∧ cap ≤ maxLen ∧ Sl w w.heap.size A (fl ts)
section
variable {H : Type} {enc : TypeId × Value → H} {P : Program} {w : World} {base : Nat} {spare : Nat → Bool} {held : Bool}
theorem open_slice_fields {t e : TypeId} {fs : Array Field} {fuel : Nat} {cs : List Value} {x : DataW H × List MemPlace} (ht : P.underlying t = some (.slice e)) (he : P.underlying e = some (.struct fs))
    (hone : oneCellFields P fs = true) (hC : P.cellsOf e = fs.size) (h : DataW.trod enc P w base spare held fuel t cs = some x) :
    (cs = [.slice none 0 0] ∧ x = (.nil, [])) ∨
    ∃ (a : Addr) (len cap m : Nat), cs = [.slice (some a) len cap] ∧ len ≤ cap ∧ cap ≤ maxLen ∧ m = (if spare a.block then cap else len) ∧
      ∀ i, i < m → ∀ (j : Nat) (f : Field), fs[j]? = some f → ∃ (v : Value) (y : DataW H × List MemPlace) (n : Nat), w.cell? (a.add (i * fs.size + j)) = some v ∧ DataW.trod enc P w base spare held n f.type [v] = some y := by
  rcases open_slice ht h with h0 | ⟨a, len, cap, m, n, D, Pl, hcs, hb, hl, hm, hmm, hx, hi⟩
  · exact .inl h0
  · refine .inr ⟨a, len, cap, m, hcs, hl, hm, hmm, fun i him => ?_⟩
    obtain ⟨cs', hc, ht'⟩ := hi i him
    rw [hC] at hc
    obtain ⟨ys, n', hn', hy, hlen, hyl, hf⟩ := DataW.trod_struct he ht'
    obtain ⟨_, hcl, hat⟩ := World.cells?_some hc
    intro j f hj
    obtain ⟨ho, hk⟩ := hone_of hone j f hj
    have hjl : j < fs.size := (Array.getElem?_eq_some_iff.1 hj).1
    have hcell := hat j hjl
    have hv : cs'[j]? = some (cs'[j]'(by omega)) := List.getElem?_eq_getElem (by omega)
    have h1 := hf j f hj
    rw [ho, hk] at h1
    have hone' : (cs'.drop j).take 1 = [cs'[j]'(by omega)] := by
      rw [List.drop_eq_getElem_cons (by omega)]
      rfl
    rw [hone'] at h1
    have hys : ys[j]? = some (ys[j]'(by omega)) := List.getElem?_eq_getElem (by omega)
    refine ⟨_, _, n', ?_, h1.trans hys⟩
    rw [← Go.Deep.add_add, hcell, hv]
theorem came_cells {t e q : TypeId} {f0 f1 f2 : Field} {A : Option Addr} {len cap : Nat} {d : DataW H} {ps : List MemPlace} (ht : P.underlying t = some (.slice e)) (he : P.underlying e = some (.struct #[f0, f1, f2])) (hq : P.underlying q = some (.int .i64))
    (e0 : f0.type = q) (e1 : f1.type = q) (e2 : f2.type = q) (hone : oneCellFields P #[f0, f1, f2] = true) (hC : P.cellsOf e = 3)
    (h : DataW.Trod enc P w base spare held t (.slice A len cap) d ps) : CameC w A len cap := by
  obtain ⟨fuel, hf⟩ := h
  rcases open_slice_fields ht he hone hC hf with ⟨hcs, _⟩ | ⟨a, l, c, m, hcs, hl, hm, hmm, hi⟩
  · simp [Value.cells] at hcs
    obtain ⟨rfl, rfl, rfl⟩ := hcs
    exact ⟨[], rfl, Nat.le_refl _, by simp [maxLen], Sl.empty _ _ _⟩
  · simp [Value.cells] at hcs
    obtain ⟨rfl, rfl, rfl⟩ := hcs
    have hle : len ≤ m := by rw [hmm]; split <;> omega
    have key : ∀ i, i < len → ∃ t : Tri, w.cell? (a.add (i * 3)) = some (.int .i64 t.1) ∧ w.cell? (a.add (i * 3 + 1)) = some (.int .i64 t.2.1) ∧ w.cell? (a.add (i * 3 + 2)) = some (.int .i64 t.2.2) := by
      intro i hil
      obtain ⟨v0, y0, n0, c0, t0⟩ := hi i (by omega) 0 f0 rfl
      obtain ⟨v1, y1, n1, c1, t1⟩ := hi i (by omega) 1 f1 rfl
      obtain ⟨v2, y2, n2, c2, t2⟩ := hi i (by omega) 2 f2 rfl
      rw [e0] at t0
      rw [e1] at t1
      rw [e2] at t2
      obtain ⟨x, g0, _, _⟩ := DataW.trod_int hq t0
      obtain ⟨y, g1, _, _⟩ := DataW.trod_int hq t1
      obtain ⟨z, g2, _, _⟩ := DataW.trod_int hq t2
      simp at g0 g1 g2
      subst g0 g1 g2
      exact ⟨(x, y, z), c0, c1, c2⟩
    obtain ⟨F, hF⟩ : ∃ F : Nat → Tri, ∀ i, i < len → w.cell? (a.add (i * 3)) = some (.int .i64 (F i).1) ∧ w.cell? (a.add (i * 3 + 1)) = some (.int .i64 (F i).2.1) ∧ w.cell? (a.add (i * 3 + 2)) = some (.int .i64 (F i).2.2) := by
      refine ⟨fun i => if hil : i < len then (key i hil).choose else t0, fun i hil => ?_⟩
      simp only [dif_pos hil]
      exact (key i hil).choose_spec
    have hlen : ((List.range len).map F).length = len := by simp
    refine ⟨(List.range len).map F, hlen, hl, hm, ?_⟩
    rcases Nat.eq_zero_or_pos len with h0 | h0
    · subst h0
      exact Sl.empty _ _ _
    · obtain ⟨b, o, pl⟩ := a
      have hpl : pl = none := by
        cases pl with
        | none => rfl
        | some p =>
          exfalso
          have h1 := (hF 0 h0).1
          simp [Addr.add, World.cell?] at h1
          split at h1 <;> simp at h1
      subst hpl
      refine ⟨b, o, fun _ => ⟨rfl, World.block_lt_of_cell? _ _ (hF 0 h0).1⟩, fun j hj => ?_⟩
      have hj3 : j < len * 3 := by rw [fl_len, hlen] at hj; exact hj
      have hi3 : j / 3 < len := by omega
      obtain ⟨c0, c1, c2⟩ := hF (j / 3) hi3
      have hg : ((List.range len).map F).getD (j / 3) t0 = F (j / 3) := by simp [hi3]
      obtain ⟨g0, g1, g2⟩ := fl_get ((List.range len).map F) (j / 3) (by rw [hlen]; exact hi3)
      rw [hg] at g0 g1 g2
      rw [add_at] at c0 c1 c2
      have hm3 : j % 3 = 0 ∨ j % 3 = 1 ∨ j % 3 = 2 := by omega
      rcases hm3 with h3 | h3 | h3
      · rw [show o + j = o + j / 3 * 3 by omega, c0, show j = j / 3 * 3 by omega, show j / 3 * 3 / 3 = j / 3 by omega, g0]
      · rw [show o + j = o + (j / 3 * 3 + 1) by omega, c1]
        conv => rhs; rw [show j = j / 3 * 3 + 1 by omega, g1]
      · rw [show o + j = o + (j / 3 * 3 + 2) by omega, c2]
        conv => rhs; rw [show j = j / 3 * 3 + 2 by omega, g2]
end
end Go.Proofs.Ytdebnbgjnmoleaa
