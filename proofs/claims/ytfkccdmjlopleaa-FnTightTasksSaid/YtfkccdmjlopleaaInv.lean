/- A law of my own for a region that draws its order: if every operation, started in whatever order the edges allow, hands on an invariant over what is done so far, then the region ends in that invariant. Then: the same over the slots' kinds, reckoned by a function of the operations (abs): numbers in a range, slices of numbers, addresses of numbers, the reader; calls by a table of contracts. -/
import Derived.RegionTactic
import Derived.StillTail
import Derived.Tactics
import Derived.WalkKit
namespace Go.Proofs.Ytfkccdmjlopleaa
open Go.RowKit

section
variable {P : Program} {ops : Array Oper} {Q : Exit → Act → World → Prop} {md : Region.Mode}

/-- How many are not listed yet. -/
def left (n : Nat) (listed : Array Bool) : Nat := ((List.range n).filter fun i => !listed.getD i true).length

theorem left_set {n i : Nat} {listed : Array Bool} (hi : i < n) (h : listed.getD i true = false) : left n (listed.setIfInBounds i true) + 1 = left n listed := by
  unfold left
  have key : ∀ m, (((List.range m).filter fun j => !(listed.setIfInBounds i true).getD j true).length) + (if i < m then 1 else 0) = ((List.range m).filter fun j => !listed.getD j true).length := by
    intro m
    induction m with
    | zero => simp
    | succ m ih =>
      have hsing : ∀ f : Nat → Bool, ([m].filter f).length = if f m then 1 else 0 := fun f => by
        by_cases hf : f m = true <;> simp [hf]
      rw [List.range_succ, List.filter_append, List.filter_append, List.length_append, List.length_append, ← ih, hsing, hsing]
      by_cases hm : i = m
      · subst hm
        have e1 : (listed.setIfInBounds i true).getD i true = true := by
          rcases Nat.lt_or_ge i listed.size with h' | h'
          · simp [h']
          · simp [Array.getElem?_eq_none h'] at h
        rw [e1, h]
        simp
      · have e2 : (listed.setIfInBounds i true).getD m true = listed.getD m true := by
          simp only [Array.getD_eq_getD_getElem?, Array.getElem?_setIfInBounds_ne hm]
        rw [e2]
        by_cases hlt : i < m
        · have h2 : i < m + 1 := by omega
          rw [if_pos hlt, if_pos h2]; omega
        · have h2 : ¬ i < m + 1 := by omega
          rw [if_neg hlt, if_neg h2]; omega
  have := key n
  rw [if_pos hi] at this
  exact this

theorem wpAny_inv (I : Array Bool → Act → World → Prop)
    (step : ∀ i listed a w, i ∈ Region.ready md ops listed → I listed a w → wpOp P ops Q i (I (listed.setIfInBounds i true)) a w)
    (hend : ∀ listed a w, Region.ready md ops listed = [] → I listed a w → Q .normal a w) :
    ∀ fuel listed a w, left ops.size listed ≤ fuel → I listed a w → wpAny P md ops Q fuel listed a w
  | 0, listed, a, w, hl, hI => by
    have hr : Region.ready md ops listed = [] := by
      refine List.eq_nil_iff_forall_not_mem.2 fun i hi => ?_
      obtain ⟨hun, o, ho, _⟩ := mem_ready.1 hi
      have hlt : i < ops.size := (Array.getElem?_eq_some_iff.1 ho).1
      have := left_set hlt hun
      omega
    exact ⟨hr, hend _ _ _ hr hI⟩
  | fuel + 1, listed, a, w, hl, hI => by
    refine ⟨fun hr => hend _ _ _ hr hI, fun i hi => ?_⟩
    obtain ⟨hun, o, ho, _⟩ := mem_ready.1 hi
    have hlt : i < ops.size := (Array.getElem?_eq_some_iff.1 ho).1
    have hs := left_set hlt hun
    exact wpOp_mono (fun a' w' h' => wpAny_inv I step hend fuel _ a' w' (by omega) h') (step i listed a w hi hI)

theorem wp_region_inv {id : Nat} {a : Act} {w : World} (hm : P.follows .mixedOrders = true) (I : Array Bool → Act → World → Prop)
    (h0 : I (Array.replicate ops.size false) a w.drew)
    (step : ∀ i listed a w, i ∈ Region.ready .any ops listed → I listed a w → wpOp P ops Q i (I (listed.setIfInBounds i true)) a w)
    (hend : ∀ listed a w, Region.ready .any ops listed = [] → I listed a w → Q .normal a w) : (Code.region id ops true).wp P Q a w := by
  refine wp_region_any hm (wpAny_inv I step hend _ _ _ _ ?_ h0)
  unfold left
  exact Nat.le_trans (List.length_filter_le _ _) (by simp)
end
end Go.Proofs.Ytfkccdmjlopleaa
