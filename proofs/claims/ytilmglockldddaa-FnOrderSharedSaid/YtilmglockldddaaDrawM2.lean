/- Contracts of the drawing functions of matrices and what goes with them. -/
import Derived.Test.YtilmglockldddaaDrawM
namespace Go.Proofs.Ytilmglockldddaa
open Go.RowKit

theorem mat_ret {w X : World} {b lo : Nat} {x y u r c s : Value} {zs : List Int} (hb : w.heap.size ≤ b) (K0 : Cell3 X b x y u) (row : Row X lo X.heap.size s zs) (hlo : b < lo) (hB : Below w.heap.size w X) :
    Cell3 (((X.setCell ⟨b, 0, none⟩ r).setCell ⟨b, 1, none⟩ c).setCell ⟨b, 2, none⟩ s) b r c s ∧
    Row (((X.setCell ⟨b, 0, none⟩ r).setCell ⟨b, 1, none⟩ c).setCell ⟨b, 2, none⟩ s) lo (((X.setCell ⟨b, 0, none⟩ r).setCell ⟨b, 1, none⟩ c).setCell ⟨b, 2, none⟩ s).heap.size s zs ∧
    Below w.heap.size w (((X.setCell ⟨b, 0, none⟩ r).setCell ⟨b, 1, none⟩ c).setCell ⟨b, 2, none⟩ s) := by
  refine ⟨((K0.set0 r).set1 c).set2 s, ?_, ?_⟩
  · exact (((row.grown (set_grown X b 0 r) (fun g e => by cases e; left; omega)).grown (set_grown _ b 1 c) (fun g e => by cases e; left; omega)).grown (set_grown _ b 2 s) (fun g e => by cases e; left; omega)).wider (Nat.le_refl _) (by simp)
  · exact ((hB.setCell (p := ⟨b, 0, none⟩) hb r).setCell (p := ⟨b, 1, none⟩) hb c).setCell (p := ⟨b, 2, none⟩) hb s

end Go.Proofs.Ytilmglockldddaa
