/-
  No cell of these rows narrows 'for every input' (looked for: loops, veiled, ifaces, maps, wideKeys, modest, calm, conditions, laid).
  DERIVED. THE GIVEN ROWS OF THIS SEAT. 8 by the template 'for every input the law returns true; each argument reads behind the call as it read before'; 0 by the template 'total and deterministic' (their statements: YtdebnbgjnmoleaaTotals.lean).
  GIVEN WITH THE SEED: the statements are not yours to turn. If you find one false, say at which input.
  Laid BY PROGRAM, IN A SANDBOX (cutbox-rows.mjs): the forced cells as the released guide's own fill.sh prints them over the translation 2f86ecca55055f77… (all of the seat's roots in one cut). By AI agents, Wed Nov 11 2026. No macro, syntax, notation, axiom, sorry.
-/
import Derived.Test.YtdebnbgjnmoleaaChecked
import GoSem.Claim
import GoSem.ClaimJoined
import GoSem.ClaimMapViews
import Derived.JoinedTies
import Derived.KernelRfl
namespace Go.Proofs.Ytdebnbgjnmoleaa
/- THE CELL 'sum', in the pinned program and in every row, IS THE sha256 OF THE DUMP (.gsa) THAT YtdebnbgjnmoleaaProg.lean LOADS. Nothing in Lean hashes anything: it is a label: what it is worth is what the hold of that sum in a sandbox is worth. -/
noncomputable def Try.pinned : Pinned := { name := "ytdebnbgjnmoleaa", sum := "2f86ecca55055f77643874764ec64fdd53c777c74907ae4f8efa331b17a7bd87", checked := Try.checked }
namespace Rows
def none {H : Type} : Left H := { results := [], args := [] }

/-- 'laws.FnExactCellsOf': WHATEVER THE INPUT: true; the input reads as it did. -/
def fnExactCellsOfSpec : ChangeSpec := { name := "fnExactCellsOf", fn := fun _ => fun
  | [d] => { results := [.lit (.bool true)], args := [d] }
  | _ => none }
def fnExactCellsOfRow : OpenClaim := { program := "ytdebnbgjnmoleaa", sum := "2f86ecca55055f77643874764ec64fdd53c777c74907ae4f8efa331b17a7bd87", func := "loop.example/sharedinference/laws.FnExactCellsOf", spec := "fnExactCellsOf", apart := false }
def FnExactCellsOfSaid : Prop := fnExactCellsOfRow.holds Try.pinned (OpenSpec.ofChange fnExactCellsOfSpec)

/-- ITS FALSE NEIGHBOUR: 'it returns false'. Refute it at one input. -/
def fnExactCellsOfWrong : ChangeSpec := { name := "fnExactCellsOf", fn := fun _ => fun
  | [d] => { results := [.lit (.bool false)], args := [d] }
  | _ => none }
def FnExactCellsOfWrongFalsely : Prop := fnExactCellsOfRow.holds Try.pinned (OpenSpec.ofChange fnExactCellsOfWrong)

/-- 'laws.FnCellsOf': WHATEVER THE INPUT: true; the input reads as it did. -/
def fnCellsOfSpec : ChangeSpec := { name := "fnCellsOf", fn := fun _ => fun
  | [d] => { results := [.lit (.bool true)], args := [d] }
  | _ => none }
def fnCellsOfRow : OpenClaim := { program := "ytdebnbgjnmoleaa", sum := "2f86ecca55055f77643874764ec64fdd53c777c74907ae4f8efa331b17a7bd87", func := "loop.example/sharedinference/laws.FnCellsOf", spec := "fnCellsOf", apart := false }
def FnCellsOfSaid : Prop := fnCellsOfRow.holds Try.pinned (OpenSpec.ofChange fnCellsOfSpec)

/-- ITS FALSE NEIGHBOUR: 'it returns false'. Refute it at one input. -/
def fnCellsOfWrong : ChangeSpec := { name := "fnCellsOf", fn := fun _ => fun
  | [d] => { results := [.lit (.bool false)], args := [d] }
  | _ => none }
def FnCellsOfWrongFalsely : Prop := fnCellsOfRow.holds Try.pinned (OpenSpec.ofChange fnCellsOfWrong)

/-- 'laws.FnExactCellsMatrix': WHATEVER THE INPUT: true; the input reads as it did. -/
def fnExactCellsMatrixSpec : ChangeSpec := { name := "fnExactCellsMatrix", fn := fun _ => fun
  | [d1, d2, d3] => { results := [.lit (.bool true)], args := [d1, d2, d3] }
  | _ => none }
def fnExactCellsMatrixRow : OpenClaim := { program := "ytdebnbgjnmoleaa", sum := "2f86ecca55055f77643874764ec64fdd53c777c74907ae4f8efa331b17a7bd87", func := "loop.example/sharedinference/laws.FnExactCellsMatrix", spec := "fnExactCellsMatrix", apart := false }
def FnExactCellsMatrixSaid : Prop := fnExactCellsMatrixRow.holds Try.pinned (OpenSpec.ofChange fnExactCellsMatrixSpec)

/-- ITS FALSE NEIGHBOUR: 'it returns false'. Refute it at one input. -/
def fnExactCellsMatrixWrong : ChangeSpec := { name := "fnExactCellsMatrix", fn := fun _ => fun
  | [d1, d2, d3] => { results := [.lit (.bool false)], args := [d1, d2, d3] }
  | _ => none }
def FnExactCellsMatrixWrongFalsely : Prop := fnExactCellsMatrixRow.holds Try.pinned (OpenSpec.ofChange fnExactCellsMatrixWrong)

/-- 'laws.FnCellsMatrix': WHATEVER THE INPUT: true; the input reads as it did. -/
def fnCellsMatrixSpec : ChangeSpec := { name := "fnCellsMatrix", fn := fun _ => fun
  | [d] => { results := [.lit (.bool true)], args := [d] }
  | _ => none }
def fnCellsMatrixRow : OpenClaim := { program := "ytdebnbgjnmoleaa", sum := "2f86ecca55055f77643874764ec64fdd53c777c74907ae4f8efa331b17a7bd87", func := "loop.example/sharedinference/laws.FnCellsMatrix", spec := "fnCellsMatrix", apart := false }
def FnCellsMatrixSaid : Prop := fnCellsMatrixRow.holds Try.pinned (OpenSpec.ofChange fnCellsMatrixSpec)

/-- ITS FALSE NEIGHBOUR: 'it returns false'. Refute it at one input. -/
def fnCellsMatrixWrong : ChangeSpec := { name := "fnCellsMatrix", fn := fun _ => fun
  | [d] => { results := [.lit (.bool false)], args := [d] }
  | _ => none }
def FnCellsMatrixWrongFalsely : Prop := fnCellsMatrixRow.holds Try.pinned (OpenSpec.ofChange fnCellsMatrixWrong)

/-- 'laws.FnExactCellsTimes': WHATEVER THE INPUT: true; the input reads as it did. -/
def fnExactCellsTimesSpec : ChangeSpec := { name := "fnExactCellsTimes", fn := fun _ => fun
  | [d1, d2, d3, d4] => { results := [.lit (.bool true)], args := [d1, d2, d3, d4] }
  | _ => none }
def fnExactCellsTimesRow : OpenClaim := { program := "ytdebnbgjnmoleaa", sum := "2f86ecca55055f77643874764ec64fdd53c777c74907ae4f8efa331b17a7bd87", func := "loop.example/sharedinference/laws.FnExactCellsTimes", spec := "fnExactCellsTimes", apart := false }
def FnExactCellsTimesSaid : Prop := fnExactCellsTimesRow.holds Try.pinned (OpenSpec.ofChange fnExactCellsTimesSpec)

/-- ITS FALSE NEIGHBOUR: 'it returns false'. Refute it at one input. -/
def fnExactCellsTimesWrong : ChangeSpec := { name := "fnExactCellsTimes", fn := fun _ => fun
  | [d1, d2, d3, d4] => { results := [.lit (.bool false)], args := [d1, d2, d3, d4] }
  | _ => none }
def FnExactCellsTimesWrongFalsely : Prop := fnExactCellsTimesRow.holds Try.pinned (OpenSpec.ofChange fnExactCellsTimesWrong)

/-- 'laws.FnCellsTimes': WHATEVER THE INPUT: true; the input reads as it did. -/
def fnCellsTimesSpec : ChangeSpec := { name := "fnCellsTimes", fn := fun _ => fun
  | [d] => { results := [.lit (.bool true)], args := [d] }
  | _ => none }
def fnCellsTimesRow : OpenClaim := { program := "ytdebnbgjnmoleaa", sum := "2f86ecca55055f77643874764ec64fdd53c777c74907ae4f8efa331b17a7bd87", func := "loop.example/sharedinference/laws.FnCellsTimes", spec := "fnCellsTimes", apart := false }
def FnCellsTimesSaid : Prop := fnCellsTimesRow.holds Try.pinned (OpenSpec.ofChange fnCellsTimesSpec)

/-- ITS FALSE NEIGHBOUR: 'it returns false'. Refute it at one input. -/
def fnCellsTimesWrong : ChangeSpec := { name := "fnCellsTimes", fn := fun _ => fun
  | [d] => { results := [.lit (.bool false)], args := [d] }
  | _ => none }
def FnCellsTimesWrongFalsely : Prop := fnCellsTimesRow.holds Try.pinned (OpenSpec.ofChange fnCellsTimesWrong)

/-- 'laws.FnExactPruneMatrix': WHATEVER THE INPUT: true; the input reads as it did. -/
def fnExactPruneMatrixSpec : ChangeSpec := { name := "fnExactPruneMatrix", fn := fun _ => fun
  | [d1, d2] => { results := [.lit (.bool true)], args := [d1, d2] }
  | _ => none }
def fnExactPruneMatrixRow : OpenClaim := { program := "ytdebnbgjnmoleaa", sum := "2f86ecca55055f77643874764ec64fdd53c777c74907ae4f8efa331b17a7bd87", func := "loop.example/sharedinference/laws.FnExactPruneMatrix", spec := "fnExactPruneMatrix", apart := false }
def FnExactPruneMatrixSaid : Prop := fnExactPruneMatrixRow.holds Try.pinned (OpenSpec.ofChange fnExactPruneMatrixSpec)

/-- ITS FALSE NEIGHBOUR: 'it returns false'. Refute it at one input. -/
def fnExactPruneMatrixWrong : ChangeSpec := { name := "fnExactPruneMatrix", fn := fun _ => fun
  | [d1, d2] => { results := [.lit (.bool false)], args := [d1, d2] }
  | _ => none }
def FnExactPruneMatrixWrongFalsely : Prop := fnExactPruneMatrixRow.holds Try.pinned (OpenSpec.ofChange fnExactPruneMatrixWrong)

/-- 'laws.FnPruneMatrix': WHATEVER THE INPUT: true; the input reads as it did. -/
def fnPruneMatrixSpec : ChangeSpec := { name := "fnPruneMatrix", fn := fun _ => fun
  | [d] => { results := [.lit (.bool true)], args := [d] }
  | _ => none }
def fnPruneMatrixRow : OpenClaim := { program := "ytdebnbgjnmoleaa", sum := "2f86ecca55055f77643874764ec64fdd53c777c74907ae4f8efa331b17a7bd87", func := "loop.example/sharedinference/laws.FnPruneMatrix", spec := "fnPruneMatrix", apart := false }
def FnPruneMatrixSaid : Prop := fnPruneMatrixRow.holds Try.pinned (OpenSpec.ofChange fnPruneMatrixSpec)

/-- ITS FALSE NEIGHBOUR: 'it returns false'. Refute it at one input. -/
def fnPruneMatrixWrong : ChangeSpec := { name := "fnPruneMatrix", fn := fun _ => fun
  | [d] => { results := [.lit (.bool false)], args := [d] }
  | _ => none }
def FnPruneMatrixWrongFalsely : Prop := fnPruneMatrixRow.holds Try.pinned (OpenSpec.ofChange fnPruneMatrixWrong)

/- THE SECOND FORM. 'bulk': how many values and letters a reading holds, each counted each time it is reached (what is shared counts as often as it is met; a slice's spare places count too). A statement '..UptoSaid' is the law's where the arguments, and the package variables that the reading takes, are together of bulk at most 1048576: NARROWER than '..Said'. Prove '..Said' where nothing that the law and all that it calls make is longer than what came in: it says more and counts as full. Else prove '..UptoSaid'. A law counts once. -/
mutual
def uptoBulk {H : Type} : DataW H → Nat
  | .lit (.string bytes) => bytes.length + 1
  | .lit _ => 1
  | .nil => 1
  | .ptr d => uptoBulk d + 1
  | .slice elems spare => uptoBulkAll elems + uptoBulkAll spare + 1
  | .agg parts => uptoBulkAll parts + 1
  | .iface _ d => uptoBulk d + 1
  | .map entries => uptoBulkEntries entries + 1
  | .held _ => 1
def uptoBulkAll {H : Type} : List (DataW H) → Nat
  | [] => 0
  | d :: r => uptoBulk d + uptoBulkAll r
def uptoBulkEntries {H : Type} : List (Lit × DataW H) → Nat
  | [] => 0
  | x :: r => uptoBulkEntry x + uptoBulkEntries r
def uptoBulkEntry {H : Type} : Lit × DataW H → Nat
  | (.string bytes, d) => bytes.length + uptoBulk d + 1
  | (_, d) => uptoBulk d + 1
 end
def uptoSmall : (H : Type) → List (DataW H) → Bool := fun _ ds => decide (uptoBulkAll ds ≤ 1048576)
def OpenSpec.upto (s : _root_.Go.ChangeSpec) : _root_.Go.OpenSpec := { _root_.Go.OpenSpec.ofChange s with cond := some uptoSmall }

/-- 'laws.FnExactCellsOf', WHERE WHAT IT READS IS OF BULK AT MOST 1048576: true; the input reads as it did. -/
def fnExactCellsOfUptoRow : OpenClaim := { program := "ytdebnbgjnmoleaa", sum := "2f86ecca55055f77643874764ec64fdd53c777c74907ae4f8efa331b17a7bd87", func := "loop.example/sharedinference/laws.FnExactCellsOf", spec := "fnExactCellsOf", apart := false, narrowed := true }
def FnExactCellsOfUptoSaid : Prop := fnExactCellsOfUptoRow.holds Try.pinned (OpenSpec.upto fnExactCellsOfSpec)

/-- 'laws.FnCellsOf', WHERE WHAT IT READS IS OF BULK AT MOST 1048576: true; the input reads as it did. -/
def fnCellsOfUptoRow : OpenClaim := { program := "ytdebnbgjnmoleaa", sum := "2f86ecca55055f77643874764ec64fdd53c777c74907ae4f8efa331b17a7bd87", func := "loop.example/sharedinference/laws.FnCellsOf", spec := "fnCellsOf", apart := false, narrowed := true }
def FnCellsOfUptoSaid : Prop := fnCellsOfUptoRow.holds Try.pinned (OpenSpec.upto fnCellsOfSpec)

/-- 'laws.FnExactCellsMatrix', WHERE WHAT IT READS IS OF BULK AT MOST 1048576: true; the input reads as it did. -/
def fnExactCellsMatrixUptoRow : OpenClaim := { program := "ytdebnbgjnmoleaa", sum := "2f86ecca55055f77643874764ec64fdd53c777c74907ae4f8efa331b17a7bd87", func := "loop.example/sharedinference/laws.FnExactCellsMatrix", spec := "fnExactCellsMatrix", apart := false, narrowed := true }
def FnExactCellsMatrixUptoSaid : Prop := fnExactCellsMatrixUptoRow.holds Try.pinned (OpenSpec.upto fnExactCellsMatrixSpec)

/-- 'laws.FnCellsMatrix', WHERE WHAT IT READS IS OF BULK AT MOST 1048576: true; the input reads as it did. -/
def fnCellsMatrixUptoRow : OpenClaim := { program := "ytdebnbgjnmoleaa", sum := "2f86ecca55055f77643874764ec64fdd53c777c74907ae4f8efa331b17a7bd87", func := "loop.example/sharedinference/laws.FnCellsMatrix", spec := "fnCellsMatrix", apart := false, narrowed := true }
def FnCellsMatrixUptoSaid : Prop := fnCellsMatrixUptoRow.holds Try.pinned (OpenSpec.upto fnCellsMatrixSpec)

/-- 'laws.FnExactCellsTimes', WHERE WHAT IT READS IS OF BULK AT MOST 1048576: true; the input reads as it did. -/
def fnExactCellsTimesUptoRow : OpenClaim := { program := "ytdebnbgjnmoleaa", sum := "2f86ecca55055f77643874764ec64fdd53c777c74907ae4f8efa331b17a7bd87", func := "loop.example/sharedinference/laws.FnExactCellsTimes", spec := "fnExactCellsTimes", apart := false, narrowed := true }
def FnExactCellsTimesUptoSaid : Prop := fnExactCellsTimesUptoRow.holds Try.pinned (OpenSpec.upto fnExactCellsTimesSpec)

/-- 'laws.FnCellsTimes', WHERE WHAT IT READS IS OF BULK AT MOST 1048576: true; the input reads as it did. -/
def fnCellsTimesUptoRow : OpenClaim := { program := "ytdebnbgjnmoleaa", sum := "2f86ecca55055f77643874764ec64fdd53c777c74907ae4f8efa331b17a7bd87", func := "loop.example/sharedinference/laws.FnCellsTimes", spec := "fnCellsTimes", apart := false, narrowed := true }
def FnCellsTimesUptoSaid : Prop := fnCellsTimesUptoRow.holds Try.pinned (OpenSpec.upto fnCellsTimesSpec)

/-- 'laws.FnExactPruneMatrix', WHERE WHAT IT READS IS OF BULK AT MOST 1048576: true; the input reads as it did. -/
def fnExactPruneMatrixUptoRow : OpenClaim := { program := "ytdebnbgjnmoleaa", sum := "2f86ecca55055f77643874764ec64fdd53c777c74907ae4f8efa331b17a7bd87", func := "loop.example/sharedinference/laws.FnExactPruneMatrix", spec := "fnExactPruneMatrix", apart := false, narrowed := true }
def FnExactPruneMatrixUptoSaid : Prop := fnExactPruneMatrixUptoRow.holds Try.pinned (OpenSpec.upto fnExactPruneMatrixSpec)

/-- 'laws.FnPruneMatrix', WHERE WHAT IT READS IS OF BULK AT MOST 1048576: true; the input reads as it did. -/
def fnPruneMatrixUptoRow : OpenClaim := { program := "ytdebnbgjnmoleaa", sum := "2f86ecca55055f77643874764ec64fdd53c777c74907ae4f8efa331b17a7bd87", func := "loop.example/sharedinference/laws.FnPruneMatrix", spec := "fnPruneMatrix", apart := false, narrowed := true }
def FnPruneMatrixUptoSaid : Prop := fnPruneMatrixUptoRow.holds Try.pinned (OpenSpec.upto fnPruneMatrixSpec)

end Rows
end Go.Proofs.Ytdebnbgjnmoleaa
