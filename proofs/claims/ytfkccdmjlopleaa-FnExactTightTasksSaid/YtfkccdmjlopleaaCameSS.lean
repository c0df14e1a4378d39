/- What is known of an argument that came in: a slice of slices of numbers. -/
import Derived.Test.YtfkccdmjlopleaaMemSS
namespace Go.Proofs.Ytfkccdmjlopleaa
open Go.ChangeShapes Go.WideShapes Go.ChangeAt Go.RowKit

/-- A slice of slices of numbers as a law gets it. -/
def CameSS (w : World) (A : Option Addr) (len cap : Nat) : Prop := ∃ zss : List (List Int), zss.length = len ∧ len ≤ cap ∧ cap ≤ maxLen ∧ SS w w.heap.size A zss

section
variable {H : Type} {enc : TypeId × Value → H} {P : Program} {w : World} {base : Nat} {held : Bool}
theorem came_intss {t e q : TypeId} {A : Option Addr} {len cap : Nat} {d : DataW H} {ps : List MemPlace} (ht : P.underlying t = some (.slice e)) (he : P.underlying e = some (.slice q)) (hq : P.underlying q = some (.int .i64)) (ce : P.cellsOf e = 1) (cq : P.cellsOf q = 1)
    (h : DataW.Trod enc P w base (fun _ => true) held t (.slice A len cap) d ps) : CameSS w A len cap := by
  obtain ⟨fuel, hf⟩ := h
  rcases Go.Deep.open_int_rows ht he hq ce cq hf with ⟨hcs, _⟩ | ⟨a, l, c, Ar, L, C, Z, hcs, _, hl, hm, _, hr⟩
  · simp [Value.cells] at hcs
    obtain ⟨rfl, rfl, rfl⟩ := hcs
    exact ⟨[], rfl, Nat.le_refl _, by simp [maxLen], SS.empty _ _ _⟩
  · simp [Value.cells] at hcs
    obtain ⟨rfl, rfl, rfl⟩ := hcs
    have key : ∀ j, j < len → at2 ((List.range len).map fun r => (Z r).take (L r)) j = (Z j).take (L j) := fun j hj => by simp [at2, hj]
    refine ⟨(List.range len).map fun r => (Z r).take (L r), by simp, hl, hm, ?_⟩
    rcases Nat.eq_zero_or_pos len with h0 | h0
    · subst h0
      exact SS.empty _ _ _
    · obtain ⟨b, o, pl⟩ := a
      have hpl : pl = none := by
        cases pl with
        | none => rfl
        | some p => 
          exfalso
          have h1 := (hr 0 (by omega)).1
          simp [Addr.add, World.cell?] at h1
          split at h1 <;> simp at h1
      subst hpl
      refine ⟨b, o, fun _ => ⟨rfl, World.block_lt_of_cell? _ _ (hr 0 (by omega)).1⟩, fun j hj => ?_⟩
      have hj' : j < len := by simpa using hj
      obtain ⟨h1, h2, h3, h4, _, h6, h7⟩ := hr j (by omega)
      rw [key j hj']
      have hll : ((Z j).take (L j)).length = L j := by simp; omega
      refine ⟨Ar j, C j, ?_, by omega, h3, ?_⟩
      · rw [hll, ← h1, add_at]
      · cases hA : Ar j with
        | none =>
          have : C j = 0 := h6 hA
          have e : (Z j).take (L j) = [] := List.eq_nil_of_length_eq_zero (by omega)
          rw [e]
          exact Sl.empty _ _ _
        | some a' =>
          have h8 := (h7 a' hA).2
          rcases Nat.eq_zero_or_pos (L j) with h0 | h0
          · have e : (Z j).take (L j) = [] := List.eq_nil_of_length_eq_zero (by omega)
            rw [e]
            exact Sl.empty _ _ _
          · obtain ⟨b', o', pl'⟩ := a'
            have hpl : pl' = none := by
              cases pl' with
              | none => rfl
              | some p => 
                exfalso
                have h1 := h8 0 (by omega)
                simp [Addr.add, World.cell?] at h1
                split at h1 <;> simp at h1
            subst hpl
            refine ⟨b', o', fun _ => ⟨rfl, World.block_lt_of_cell? _ _ (h8 0 (by omega))⟩, fun i hi => ?_⟩
            have hi' : i < L j := by omega
            have h9 := h8 i (by omega)
            rw [add_at] at h9
            rw [h9]
            simp [List.getElem?_take, hi']
end
end Go.Proofs.Ytfkccdmjlopleaa
