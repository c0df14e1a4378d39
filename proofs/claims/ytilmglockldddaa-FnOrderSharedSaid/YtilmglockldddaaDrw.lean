/- The draw leaves memory alone. -/
import Derived.Test.YtilmglockldddaaCameM
namespace Go.Proofs.Ytilmglockldddaa
open Go.RowKit
theorem Below.of_drew (w : World) {B : Nat} : Below B w w.drew := ⟨rfl, rfl, rfl, Nat.le_refl _, fun _ _ => rfl⟩
end Go.Proofs.Ytilmglockldddaa
