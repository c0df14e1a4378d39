/- What is known of an argument that came in: a shared matrix. -/
import Derived.Test.YtilmglockldddaaCameM
import Derived.Test.YtilmglockldddaaMatS
namespace Go.Proofs.Ytilmglockldddaa
open Go.ChangeShapes Go.WideShapes Go.ChangeAt Go.RowKit Go.Joins Go.Deep

/-- A shared matrix as a law gets it. -/
def CameS (w : World) (v : Value) : Prop := ∃ (r c : Int) (A : Option Addr) (n cap : Nat) (zs : List Int) (r2 c2 : Int) (A2 : Option Addr) (n2 cap2 : Nat) (ks : List Int), v = smV r c (.slice A n cap) r2 c2 (.slice A2 n2 cap2) ∧ CameInts w A n cap zs ∧ CameInts w A2 n2 cap2 ks
section
variable {H : Type} {enc : TypeId × Value → H} {w : World} {base b0 : Nat} {spare : Nat → Bool} {held : Bool}
theorem mat_cells {n : Nat} {c0 c1 c2 : Value} {y : DataW H × List MemPlace} (h : DataW.trod enc Try.prog w base spare held n 31 [c0, c1, c2] = some y) : CameM w (.agg #[c0, c1, c2]) := by
  obtain ⟨y0, y1, y2, m, _, _, h0, h1, h2⟩ := trod_struct3 Try.underlying31 h
  have k0 : Try.prog.cellsOf 3 = 1 := by kernel_rfl
  have k1 : Try.prog.cellsOf 22 = 1 := by kernel_rfl
  simp only [k0, k1, List.drop_succ_cons, List.drop_zero, List.take_succ_cons, List.take_zero] at h0 h1 h2
  exact came_mat_of h0 h1 h2
theorem came_smat {v : Value} {d : DataW H} {ps : List MemPlace} (hv : Value.okWide Try.prog w .any b0 44 v) (h : DataW.Trod enc Try.prog w base spare held 44 v d ps) : ∃ z, v = z ∧ CameS w z := by
  obtain ⟨cs, rfl, hsz⟩ := okWide_struct Try.underlying44 hv
  have h6 : Try.prog.cellsOf 44 = 6 := by kernel_rfl
  have k3 : Try.prog.cellsOf 31 = 3 := by kernel_rfl
  rw [h6] at hsz
  obtain ⟨l⟩ := cs
  match l, hsz with
  | [c0, c1, c2, c3, c4, c5], _ =>
    obtain ⟨fuel, hf⟩ := h
    obtain ⟨y0, y1, n, _, _, h0, h1⟩ := trod_struct2 Try.underlying44 hf
    simp only [Value.cells, k3, List.drop_succ_cons, List.drop_zero, List.take_succ_cons, List.take_zero] at h0 h1
    obtain ⟨r, c, A, n1, cap, zs, e1, g1, _, _⟩ := mat_cells h0
    obtain ⟨r2, c2', A2, n2, cap2, ks, e2, g2, _, _⟩ := mat_cells h1
    simp at e1 e2
    obtain ⟨rfl, rfl, rfl⟩ := e1
    obtain ⟨rfl, rfl, rfl⟩ := e2
    exact ⟨_, rfl, r, c, A, n1, cap, zs, r2, c2', A2, n2, cap2, ks, rfl, g1, g2⟩
end
end Go.Proofs.Ytilmglockldddaa
