/- What is known of an argument that came in: a slice of numbers, a slice of bytes. -/
import Derived.ProofKit
import Derived.OpenShut
import Derived.Test.YtfkccdmjlopleaaMem
namespace Go.Proofs.Ytfkccdmjlopleaa
open Go.ChangeShapes Go.WideShapes Go.ChangeAt Go.RowKit

/-- A slice of numbers as a law gets it: len numbers, the first of zs, at A, in memory that was there. -/
structure CameInts (w : World) (A : Option Addr) (len cap : Nat) (zs : List Int) : Prop where
  hlen : zs.length = len
  hcap : len ≤ cap
  hroom : cap ≤ maxLen
  sl : Sl w w.heap.size A zs
  wf : ∀ z ∈ zs, -9223372036854775808 ≤ z ∧ z ≤ 9223372036854775807

section
variable {H : Type} {enc : TypeId × Value → H} {P : Program} {w : World} {base : Nat} {spare : Nat → Bool} {held : Bool}
theorem came_ints {t e : TypeId} {A : Option Addr} {len cap : Nat} {d : DataW H} {ps : List MemPlace} (ht : P.underlying t = some (.slice e)) (he : P.underlying e = some (.int .i64)) (hc : P.cellsOf e = 1)
    (h : DataW.Trod enc P w base spare held t (.slice A len cap) d ps) : ∃ zs, CameInts w A len cap zs := by
  obtain ⟨fuel, hf⟩ := h
  rcases open_ints ht he hc hf with ⟨hcs, _⟩ | ⟨x, l, c, zs, hcs, _, hl, hm, hz, _, hcell, hwz⟩
  · simp [Value.cells] at hcs
    obtain ⟨rfl, rfl, rfl⟩ := hcs
    exact ⟨[], rfl, Nat.le_refl _, by simp [maxLen], Sl.empty _ _ _, by simp⟩
  · simp [Value.cells] at hcs
    obtain ⟨rfl, rfl, rfl⟩ := hcs
    have hle : len ≤ zs.length := by rw [hz]; split <;> omega
    refine ⟨zs.take len, by simp; omega, hl, hm, ?_, fun z hzm => ?_⟩
    · rcases Nat.eq_zero_or_pos len with h0 | h0
      · subst h0
        rw [List.take_zero]
        exact Sl.empty _ _ _
      · obtain ⟨b, off, rfl, hcell'⟩ := ints_at hcell (by omega)
        refine ⟨b, off, fun _ => ⟨rfl, World.block_lt_of_cell? _ _ (hcell' 0 (by omega))⟩, fun j hj => ?_⟩
        have hj' : j < len := by simp at hj; omega
        rw [hcell' j (by omega)]
        simp [hj']
    · have := hwz z (List.mem_of_mem_take hzm)
      simp [Lit.wf, IntKind.min, IntKind.max, IntKind.signed, IntKind.bits] at this
      omega
theorem came_bytes {t e : TypeId} {A : Option Addr} {len cap : Nat} {d : DataW H} {ps : List MemPlace} (ht : P.underlying t = some (.slice e)) (he : P.underlying e = some (.int .u8)) (hc : P.cellsOf e = 1)
    (h : DataW.Trod enc P w base spare held t (.slice A len cap) d ps) : Code8 w A len ∧ len ≤ cap ∧ cap ≤ maxLen := by
  obtain ⟨fuel, hf⟩ := h
  rcases open_ints ht he hc hf with ⟨hcs, _⟩ | ⟨x, l, c, zs, hcs, _, hl, hm, hz, _, hcell, hwz⟩
  · simp [Value.cells] at hcs
    obtain ⟨rfl, rfl, rfl⟩ := hcs
    exact ⟨fun h0 => absurd h0 (by omega), Nat.le_refl _, by simp [maxLen]⟩
  · simp [Value.cells] at hcs
    obtain ⟨rfl, rfl, rfl⟩ := hcs
    have hle : len ≤ zs.length := by rw [hz]; split <;> omega
    refine ⟨fun h0 => ?_, hl, hm⟩
    obtain ⟨b, off, rfl, hcell'⟩ := ints_at hcell (by omega)
    refine ⟨b, off, rfl, World.block_lt_of_cell? _ _ (hcell' 0 (by omega)), fun j hj => ⟨zs.getD j 0, ?_, ?_, hcell' j (by omega)⟩⟩
    all_goals
      have hjz : j < zs.length := by omega
      have hm' : zs.getD j 0 ∈ zs := by rw [show zs.getD j 0 = zs[j]'hjz by simp [hjz]]; exact List.getElem_mem _
      have hw := hwz _ hm'
      generalize zs.getD j 0 = y at hw ⊢
      simp [Lit.wf, IntKind.min, IntKind.max, IntKind.signed, IntKind.bits] at hw
      omega
end
end Go.Proofs.Ytfkccdmjlopleaa
