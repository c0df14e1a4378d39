/- What is known of an argument that came in: a matrix. -/
import Derived.Test.YtilmglockldddaaMatV4
import Derived.Test.YtilmglockldddaaCame
import Derived.Lib.SmallJoins
namespace Go.Proofs.Ytilmglockldddaa
open Go.ChangeShapes Go.WideShapes Go.ChangeAt Go.RowKit

def in64 (z : Int) : Prop := -9223372036854775808 ≤ z ∧ z ≤ 9223372036854775807
/-- A matrix as a law gets it. -/
def CameM (w : World) (v : Value) : Prop := ∃ (r c : Int) (A : Option Addr) (n cap : Nat) (zs : List Int), v = matV r c (.slice A n cap) ∧ CameInts w A n cap zs ∧ in64 r ∧ in64 c
theorem in64_of {z : Int} (h : (Lit.int .i64 z).wf = true) : in64 z := by
  simp [Lit.wf, IntKind.min, IntKind.max, IntKind.signed, IntKind.bits] at h
  unfold in64
  omega
section
variable {H : Type} {enc : TypeId × Value → H} {w : World} {base b0 : Nat} {spare : Nat → Bool} {held : Bool}
theorem came_mat_of {n : Nat} {v0 v1 v2 : Value} {y0 y1 y2 : DataW H × List MemPlace} (h0 : DataW.trod enc Try.prog w base spare held n 3 [v0] = some y0) (h1 : DataW.trod enc Try.prog w base spare held n 3 [v1] = some y1) (h2 : DataW.trod enc Try.prog w base spare held n 22 [v2] = some y2) :
    CameM w (.agg #[v0, v1, v2]) := by
  obtain ⟨x, e0, _, wx⟩ := DataW.trod_int Try.underlying3 h0
  obtain ⟨y, e1, _, wy⟩ := DataW.trod_int Try.underlying3 h1
  simp at e0 e1
  subst e0 e1
  have hsl : ∃ A l c, v2 = .slice A l c := by
    rcases open_ints Try.underlying22 Try.underlying3 (by kernel_rfl) h2 with ⟨hcs, _⟩ | ⟨_, _, _, _, hcs, _⟩
    · simp at hcs; exact ⟨_, _, _, hcs⟩
    · simp at hcs; exact ⟨_, _, _, hcs⟩
  obtain ⟨A, l, c, rfl⟩ := hsl
  obtain ⟨zs, hz⟩ := came_ints (P := Try.prog) (enc := enc) (base := base) (spare := spare) (held := held) (d := y2.1) (ps := y2.2) Try.underlying22 Try.underlying3 (by kernel_rfl) (w := w) (A := A) (len := l) (cap := c) ⟨n, by simpa [Value.cells] using h2⟩
  exact ⟨x, y, A, l, c, zs, rfl, hz, in64_of wx, in64_of wy⟩
theorem came_mat {v : Value} {d : DataW H} {ps : List MemPlace} (hv : Value.okWide Try.prog w .any b0 31 v) (h : DataW.Trod enc Try.prog w base spare held 31 v d ps) : ∃ z, v = z ∧ CameM w z := by
  obtain ⟨c0, c1, c2, y0, y1, y2, m, rfl, _, _, hy0, hy1, hy2⟩ := Go.Joins.open_agg3 Try.underlying31 (by kernel_rfl) (by kernel_rfl) hv h
  exact ⟨_, rfl, came_mat_of hy0 hy1 hy2⟩
end
end Go.Proofs.Ytilmglockldddaa
