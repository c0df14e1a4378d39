/- The walk of the exact law on pruned matrices. -/
import Derived.Test.YtdebnbgjnmoleaaFnsF5
import Derived.Test.YtdebnbgjnmoleaaCameM
namespace Go.Proofs.Ytdebnbgjnmoleaa
open Go.RowKit

open Classical in
noncomputable def pruneR (r c l : Int) (zs : List Int) : Int := if OkP r c zs l then r else 0
open Classical in
noncomputable def pruneC (r c l : Int) (zs : List Int) : Int := if OkP r c zs l then c else 0
open Classical in
noncomputable def pruneZ (r c l : Int) (zs : List Int) : List Int := if OkP r c zs l then zs.map (pruneF l) else []
section
variable (r c l : Int) (A : Option Addr) (cap n B : Nat) (zs : List Int) (w : World) (hs : Sl w B A zs) (hB : B ≤ w.heap.size) (e : n = zs.length) (hn : n ≤ 1100000)
include hs hB e hn
theorem implPrune_any : Calls Try.prog 36 #[matV r c (.slice A n cap), .int .i64 l] w fun e w' => ∃ s, e = .returned (matV (pruneR r c l zs) (pruneC r c l zs) s) ∧ Row w' w.heap.size w'.heap.size s (pruneZ r c l zs) ∧ Below w.heap.size w w' := by
  unfold pruneR pruneC pruneZ
  by_cases h : OkP r c zs l
  · rw [if_pos h, if_pos h, if_pos h]
    exact implPrune_yes r c l A cap n B zs w hs hB e hn h
  · rw [if_neg h, if_neg h, if_neg h]
    exact (implPrune_no r c l A cap n B zs w hs hB e hn h).mono fun e w' ⟨h1, h2⟩ => ⟨_, h1, Row.nil_ _ _ _, h2⟩
theorem specPrune_any : Calls Try.prog 35 #[matV r c (.slice A n cap), .int .i64 l] w fun e w' => ∃ s, e = .returned (matV (pruneR r c l zs) (pruneC r c l zs) s) ∧ Row w' w.heap.size w'.heap.size s (pruneZ r c l zs) ∧ Below w.heap.size w w' := by
  unfold pruneR pruneC pruneZ
  by_cases h : OkP r c zs l
  · rw [if_pos h, if_pos h, if_pos h]
    exact specPrune_yes r c l A cap n B zs w hs hB e hn h
  · rw [if_neg h, if_neg h, if_neg h]
    exact (specPrune_no r c l A cap n B zs w hs hB e hn h).mono fun e w' ⟨h1, h2⟩ => ⟨_, h1, Row.nil_ _ _ _, h2⟩
end
theorem pruneZ_len (r c l : Int) (zs : List Int) (h : zs.length ≤ 1048576) : (pruneZ r c l zs).length ≤ 1048576 := by
  unfold pruneZ
  split
  · rw [List.length_map]; exact h
  · simp
end Go.Proofs.Ytdebnbgjnmoleaa
