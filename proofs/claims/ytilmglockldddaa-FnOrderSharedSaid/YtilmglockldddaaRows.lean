/-
  No cell of these rows narrows 'for every input' (looked for: loops, veiled, ifaces, maps, wideKeys, modest, calm, conditions, laid).
  DERIVED. THE GIVEN ROWS OF THIS SEAT. 6 by the template 'for every input the law returns true; each argument reads behind the call as it read before'; 0 by the template 'total and deterministic' (their statements: YtilmglockldddaaTotals.lean).
  GIVEN WITH THE SEED: the statements are not yours to turn. If you find one false, say at which input.
  Laid BY PROGRAM, IN A SANDBOX (cutbox-rows.mjs): the forced cells as the released guide's own fill.sh prints them over the translation 40abfebaf533af1a… (all of the seat's roots in one cut). By AI agents, Wed Nov 11 2026. No macro, syntax, notation, axiom, sorry.
-/
import Derived.Test.YtilmglockldddaaChecked
import GoSem.Claim
import GoSem.ClaimJoined
import GoSem.ClaimMapViews
import Derived.JoinedTies
import Derived.KernelRfl
namespace Go.Proofs.Ytilmglockldddaa
/- THE CELL 'sum', in the pinned program and in every row, IS THE sha256 OF THE DUMP (.gsa) THAT YtilmglockldddaaProg.lean LOADS. Nothing in Lean hashes anything: it is a label: what it is worth is what the hold of that sum in a sandbox is worth. -/
noncomputable def Try.pinned : Pinned := { name := "ytilmglockldddaa", sum := "40abfebaf533af1a35766ceba5de499c26b7cb1f9b3fc4b4f3e234c1ccd229be", checked := Try.checked }
namespace Rows
def none {H : Type} : Left H := { results := [], args := [] }

/-- 'laws.FnExactOrderValid': WHATEVER THE INPUT: true; the input reads as it did. -/
def fnExactOrderValidSpec : ChangeSpec := { name := "fnExactOrderValid", fn := fun _ => fun
  | [d] => { results := [.lit (.bool true)], args := [d] }
  | _ => none }
def fnExactOrderValidRow : OpenClaim := { program := "ytilmglockldddaa", sum := "40abfebaf533af1a35766ceba5de499c26b7cb1f9b3fc4b4f3e234c1ccd229be", func := "loop.example/sharedinference/laws.FnExactOrderValid", spec := "fnExactOrderValid", apart := false }
def FnExactOrderValidSaid : Prop := fnExactOrderValidRow.holds Try.pinned (OpenSpec.ofChange fnExactOrderValidSpec)

/-- ITS FALSE NEIGHBOUR: 'it returns false'. Refute it at one input. -/
def fnExactOrderValidWrong : ChangeSpec := { name := "fnExactOrderValid", fn := fun _ => fun
  | [d] => { results := [.lit (.bool false)], args := [d] }
  | _ => none }
def FnExactOrderValidWrongFalsely : Prop := fnExactOrderValidRow.holds Try.pinned (OpenSpec.ofChange fnExactOrderValidWrong)

/-- 'laws.FnOrderValid': WHATEVER THE INPUT: true; the input reads as it did. -/
def fnOrderValidSpec : ChangeSpec := { name := "fnOrderValid", fn := fun _ => fun
  | [d] => { results := [.lit (.bool true)], args := [d] }
  | _ => none }
def fnOrderValidRow : OpenClaim := { program := "ytilmglockldddaa", sum := "40abfebaf533af1a35766ceba5de499c26b7cb1f9b3fc4b4f3e234c1ccd229be", func := "loop.example/sharedinference/laws.FnOrderValid", spec := "fnOrderValid", apart := false }
def FnOrderValidSaid : Prop := fnOrderValidRow.holds Try.pinned (OpenSpec.ofChange fnOrderValidSpec)

/-- ITS FALSE NEIGHBOUR: 'it returns false'. Refute it at one input. -/
def fnOrderValidWrong : ChangeSpec := { name := "fnOrderValid", fn := fun _ => fun
  | [d] => { results := [.lit (.bool false)], args := [d] }
  | _ => none }
def FnOrderValidWrongFalsely : Prop := fnOrderValidRow.holds Try.pinned (OpenSpec.ofChange fnOrderValidWrong)

/-- 'laws.FnExactOrderRows': WHATEVER THE INPUT: true; the input reads as it did. -/
def fnExactOrderRowsSpec : ChangeSpec := { name := "fnExactOrderRows", fn := fun _ => fun
  | [d1, d2] => { results := [.lit (.bool true)], args := [d1, d2] }
  | _ => none }
def fnExactOrderRowsRow : OpenClaim := { program := "ytilmglockldddaa", sum := "40abfebaf533af1a35766ceba5de499c26b7cb1f9b3fc4b4f3e234c1ccd229be", func := "loop.example/sharedinference/laws.FnExactOrderRows", spec := "fnExactOrderRows", apart := false }
def FnExactOrderRowsSaid : Prop := fnExactOrderRowsRow.holds Try.pinned (OpenSpec.ofChange fnExactOrderRowsSpec)

/-- ITS FALSE NEIGHBOUR: 'it returns false'. Refute it at one input. -/
def fnExactOrderRowsWrong : ChangeSpec := { name := "fnExactOrderRows", fn := fun _ => fun
  | [d1, d2] => { results := [.lit (.bool false)], args := [d1, d2] }
  | _ => none }
def FnExactOrderRowsWrongFalsely : Prop := fnExactOrderRowsRow.holds Try.pinned (OpenSpec.ofChange fnExactOrderRowsWrong)

/-- 'laws.FnOrderRows': WHATEVER THE INPUT: true; the input reads as it did. -/
def fnOrderRowsSpec : ChangeSpec := { name := "fnOrderRows", fn := fun _ => fun
  | [d] => { results := [.lit (.bool true)], args := [d] }
  | _ => none }
def fnOrderRowsRow : OpenClaim := { program := "ytilmglockldddaa", sum := "40abfebaf533af1a35766ceba5de499c26b7cb1f9b3fc4b4f3e234c1ccd229be", func := "loop.example/sharedinference/laws.FnOrderRows", spec := "fnOrderRows", apart := false }
def FnOrderRowsSaid : Prop := fnOrderRowsRow.holds Try.pinned (OpenSpec.ofChange fnOrderRowsSpec)

/-- ITS FALSE NEIGHBOUR: 'it returns false'. Refute it at one input. -/
def fnOrderRowsWrong : ChangeSpec := { name := "fnOrderRows", fn := fun _ => fun
  | [d] => { results := [.lit (.bool false)], args := [d] }
  | _ => none }
def FnOrderRowsWrongFalsely : Prop := fnOrderRowsRow.holds Try.pinned (OpenSpec.ofChange fnOrderRowsWrong)

/-- 'laws.FnExactOrderShared': WHATEVER THE INPUT: true; the input reads as it did. -/
def fnExactOrderSharedSpec : ChangeSpec := { name := "fnExactOrderShared", fn := fun _ => fun
  | [d1, d2, d3] => { results := [.lit (.bool true)], args := [d1, d2, d3] }
  | _ => none }
def fnExactOrderSharedRow : OpenClaim := { program := "ytilmglockldddaa", sum := "40abfebaf533af1a35766ceba5de499c26b7cb1f9b3fc4b4f3e234c1ccd229be", func := "loop.example/sharedinference/laws.FnExactOrderShared", spec := "fnExactOrderShared", unfollowed := true, recurses := true, apart := false }
def FnExactOrderSharedSaid : Prop := fnExactOrderSharedRow.holds Try.pinned (OpenSpec.ofChange fnExactOrderSharedSpec)

/-- ITS FALSE NEIGHBOUR: 'it returns false'. Refute it at one input. -/
def fnExactOrderSharedWrong : ChangeSpec := { name := "fnExactOrderShared", fn := fun _ => fun
  | [d1, d2, d3] => { results := [.lit (.bool false)], args := [d1, d2, d3] }
  | _ => none }
def FnExactOrderSharedWrongFalsely : Prop := fnExactOrderSharedRow.holds Try.pinned (OpenSpec.ofChange fnExactOrderSharedWrong)

/-- 'laws.FnOrderShared': WHATEVER THE INPUT: true; the input reads as it did. -/
def fnOrderSharedSpec : ChangeSpec := { name := "fnOrderShared", fn := fun _ => fun
  | [d] => { results := [.lit (.bool true)], args := [d] }
  | _ => none }
def fnOrderSharedRow : OpenClaim := { program := "ytilmglockldddaa", sum := "40abfebaf533af1a35766ceba5de499c26b7cb1f9b3fc4b4f3e234c1ccd229be", func := "loop.example/sharedinference/laws.FnOrderShared", spec := "fnOrderShared", unfollowed := true, recurses := true, apart := false }
def FnOrderSharedSaid : Prop := fnOrderSharedRow.holds Try.pinned (OpenSpec.ofChange fnOrderSharedSpec)

/-- ITS FALSE NEIGHBOUR: 'it returns false'. Refute it at one input. -/
def fnOrderSharedWrong : ChangeSpec := { name := "fnOrderShared", fn := fun _ => fun
  | [d] => { results := [.lit (.bool false)], args := [d] }
  | _ => none }
def FnOrderSharedWrongFalsely : Prop := fnOrderSharedRow.holds Try.pinned (OpenSpec.ofChange fnOrderSharedWrong)

/- THE SECOND FORM. 'bulk': how many values and letters a reading holds, each counted each time it is reached (what is shared counts as often as it is met; a slice's spare places count too). A statement '..UptoSaid' is the law's where the arguments, and the package variables that the reading takes, are together of bulk at most 1048576: NARROWER than '..Said'. Prove '..Said' where nothing that the law and all that it calls make is longer than what came in: it says more and counts as full. Else prove '..UptoSaid'. A law counts once. -/
mutual
def uptoBulk {H : Type} : DataW H → Nat
  | .lit (.string bytes) => bytes.length + 1
  | .lit _ => 1
  | .nil => 1
  | .ptr d => uptoBulk d + 1
  | .slice elems spare => uptoBulkAll elems + uptoBulkAll spare + 1
  | .agg parts => uptoBulkAll parts + 1
  | .iface _ d => uptoBulk d + 1
  | .map entries => uptoBulkEntries entries + 1
  | .held _ => 1
def uptoBulkAll {H : Type} : List (DataW H) → Nat
  | [] => 0
  | d :: r => uptoBulk d + uptoBulkAll r
def uptoBulkEntries {H : Type} : List (Lit × DataW H) → Nat
  | [] => 0
  | x :: r => uptoBulkEntry x + uptoBulkEntries r
def uptoBulkEntry {H : Type} : Lit × DataW H → Nat
  | (.string bytes, d) => bytes.length + uptoBulk d + 1
  | (_, d) => uptoBulk d + 1
 end
def uptoSmall : (H : Type) → List (DataW H) → Bool := fun _ ds => decide (uptoBulkAll ds ≤ 1048576)
def OpenSpec.upto (s : _root_.Go.ChangeSpec) : _root_.Go.OpenSpec := { _root_.Go.OpenSpec.ofChange s with cond := some uptoSmall }

/-- 'laws.FnExactOrderValid', WHERE WHAT IT READS IS OF BULK AT MOST 1048576: true; the input reads as it did. -/
def fnExactOrderValidUptoRow : OpenClaim := { program := "ytilmglockldddaa", sum := "40abfebaf533af1a35766ceba5de499c26b7cb1f9b3fc4b4f3e234c1ccd229be", func := "loop.example/sharedinference/laws.FnExactOrderValid", spec := "fnExactOrderValid", apart := false, narrowed := true }
def FnExactOrderValidUptoSaid : Prop := fnExactOrderValidUptoRow.holds Try.pinned (OpenSpec.upto fnExactOrderValidSpec)

/-- 'laws.FnOrderValid', WHERE WHAT IT READS IS OF BULK AT MOST 1048576: true; the input reads as it did. -/
def fnOrderValidUptoRow : OpenClaim := { program := "ytilmglockldddaa", sum := "40abfebaf533af1a35766ceba5de499c26b7cb1f9b3fc4b4f3e234c1ccd229be", func := "loop.example/sharedinference/laws.FnOrderValid", spec := "fnOrderValid", apart := false, narrowed := true }
def FnOrderValidUptoSaid : Prop := fnOrderValidUptoRow.holds Try.pinned (OpenSpec.upto fnOrderValidSpec)

/-- 'laws.FnExactOrderRows', WHERE WHAT IT READS IS OF BULK AT MOST 1048576: true; the input reads as it did. -/
def fnExactOrderRowsUptoRow : OpenClaim := { program := "ytilmglockldddaa", sum := "40abfebaf533af1a35766ceba5de499c26b7cb1f9b3fc4b4f3e234c1ccd229be", func := "loop.example/sharedinference/laws.FnExactOrderRows", spec := "fnExactOrderRows", apart := false, narrowed := true }
def FnExactOrderRowsUptoSaid : Prop := fnExactOrderRowsUptoRow.holds Try.pinned (OpenSpec.upto fnExactOrderRowsSpec)

/-- 'laws.FnOrderRows', WHERE WHAT IT READS IS OF BULK AT MOST 1048576: true; the input reads as it did. -/
def fnOrderRowsUptoRow : OpenClaim := { program := "ytilmglockldddaa", sum := "40abfebaf533af1a35766ceba5de499c26b7cb1f9b3fc4b4f3e234c1ccd229be", func := "loop.example/sharedinference/laws.FnOrderRows", spec := "fnOrderRows", apart := false, narrowed := true }
def FnOrderRowsUptoSaid : Prop := fnOrderRowsUptoRow.holds Try.pinned (OpenSpec.upto fnOrderRowsSpec)

/-- 'laws.FnExactOrderShared', WHERE WHAT IT READS IS OF BULK AT MOST 1048576: true; the input reads as it did. -/
def fnExactOrderSharedUptoRow : OpenClaim := { program := "ytilmglockldddaa", sum := "40abfebaf533af1a35766ceba5de499c26b7cb1f9b3fc4b4f3e234c1ccd229be", func := "loop.example/sharedinference/laws.FnExactOrderShared", spec := "fnExactOrderShared", unfollowed := true, recurses := true, apart := false, narrowed := true }
def FnExactOrderSharedUptoSaid : Prop := fnExactOrderSharedUptoRow.holds Try.pinned (OpenSpec.upto fnExactOrderSharedSpec)

/-- 'laws.FnOrderShared', WHERE WHAT IT READS IS OF BULK AT MOST 1048576: true; the input reads as it did. -/
def fnOrderSharedUptoRow : OpenClaim := { program := "ytilmglockldddaa", sum := "40abfebaf533af1a35766ceba5de499c26b7cb1f9b3fc4b4f3e234c1ccd229be", func := "loop.example/sharedinference/laws.FnOrderShared", spec := "fnOrderShared", unfollowed := true, recurses := true, apart := false, narrowed := true }
def FnOrderSharedUptoSaid : Prop := fnOrderSharedUptoRow.holds Try.pinned (OpenSpec.upto fnOrderSharedSpec)

end Rows
end Go.Proofs.Ytilmglockldddaa
