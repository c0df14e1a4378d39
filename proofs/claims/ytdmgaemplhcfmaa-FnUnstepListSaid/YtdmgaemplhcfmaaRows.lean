/-
  No cell of these rows narrows 'for every input' (looked for: loops, veiled, ifaces, maps, wideKeys, modest, calm, conditions, laid).
  DERIVED. THE GIVEN ROWS OF THIS SEAT. 12 by the template 'for every input the law returns true; each argument reads behind the call as it read before'; 0 by the template 'total and deterministic' (their statements: YtdmgaemplhcfmaaTotals.lean).
  GIVEN WITH THE SEED: the statements are not yours to turn. If you find one false, say at which input.
  Laid BY PROGRAM, IN A SANDBOX (cutbox-rows.mjs): the forced cells as the released guide's own fill.sh prints them over the translation 643c2b4650c14c49… (all of the seat's roots in one cut). By AI agents, Wed Nov 11 2026. No macro, syntax, notation, axiom, sorry.
-/
import Derived.Test.YtdmgaemplhcfmaaChecked
import GoSem.Claim
import GoSem.ClaimJoined
import GoSem.ClaimMapViews
import Derived.JoinedTies
import Derived.KernelRfl
namespace Go.Proofs.Ytdmgaemplhcfmaa
/- THE CELL 'sum', in the pinned program and in every row, IS THE sha256 OF THE DUMP (.gsa) THAT YtdmgaemplhcfmaaProg.lean LOADS. Nothing in Lean hashes anything: it is a label: what it is worth is what the hold of that sum in a sandbox is worth. -/
noncomputable def Try.pinned : Pinned := { name := "ytdmgaemplhcfmaa", sum := "643c2b4650c14c49263dfbb7b7555a707b8c62fe8a19473a32a81de147dc43e8", checked := Try.checked }
namespace Rows
def none {H : Type} : Left H := { results := [], args := [] }

/-- 'laws.FnExactMeanOf': WHATEVER THE INPUT: true; the input reads as it did. -/
def fnExactMeanOfSpec : ChangeSpec := { name := "fnExactMeanOf", fn := fun _ => fun
  | [d] => { results := [.lit (.bool true)], args := [d] }
  | _ => none }
def fnExactMeanOfRow : OpenClaim := { program := "ytdmgaemplhcfmaa", sum := "643c2b4650c14c49263dfbb7b7555a707b8c62fe8a19473a32a81de147dc43e8", func := "loop.example/sharedinference/laws.FnExactMeanOf", spec := "fnExactMeanOf", apart := false }
def FnExactMeanOfSaid : Prop := fnExactMeanOfRow.holds Try.pinned (OpenSpec.ofChange fnExactMeanOfSpec)

/-- ITS FALSE NEIGHBOUR: 'it returns false'. Refute it at one input. -/
def fnExactMeanOfWrong : ChangeSpec := { name := "fnExactMeanOf", fn := fun _ => fun
  | [d] => { results := [.lit (.bool false)], args := [d] }
  | _ => none }
def FnExactMeanOfWrongFalsely : Prop := fnExactMeanOfRow.holds Try.pinned (OpenSpec.ofChange fnExactMeanOfWrong)

/-- 'laws.FnMeanOf': WHATEVER THE INPUT: true; the input reads as it did. -/
def fnMeanOfSpec : ChangeSpec := { name := "fnMeanOf", fn := fun _ => fun
  | [d] => { results := [.lit (.bool true)], args := [d] }
  | _ => none }
def fnMeanOfRow : OpenClaim := { program := "ytdmgaemplhcfmaa", sum := "643c2b4650c14c49263dfbb7b7555a707b8c62fe8a19473a32a81de147dc43e8", func := "loop.example/sharedinference/laws.FnMeanOf", spec := "fnMeanOf", apart := false }
def FnMeanOfSaid : Prop := fnMeanOfRow.holds Try.pinned (OpenSpec.ofChange fnMeanOfSpec)

/-- ITS FALSE NEIGHBOUR: 'it returns false'. Refute it at one input. -/
def fnMeanOfWrong : ChangeSpec := { name := "fnMeanOf", fn := fun _ => fun
  | [d] => { results := [.lit (.bool false)], args := [d] }
  | _ => none }
def FnMeanOfWrongFalsely : Prop := fnMeanOfRow.holds Try.pinned (OpenSpec.ofChange fnMeanOfWrong)

/-- 'laws.FnExactCenterList': WHATEVER THE INPUT: true; the input reads as it did. -/
def fnExactCenterListSpec : ChangeSpec := { name := "fnExactCenterList", fn := fun _ => fun
  | [d] => { results := [.lit (.bool true)], args := [d] }
  | _ => none }
def fnExactCenterListRow : OpenClaim := { program := "ytdmgaemplhcfmaa", sum := "643c2b4650c14c49263dfbb7b7555a707b8c62fe8a19473a32a81de147dc43e8", func := "loop.example/sharedinference/laws.FnExactCenterList", spec := "fnExactCenterList", apart := false }
def FnExactCenterListSaid : Prop := fnExactCenterListRow.holds Try.pinned (OpenSpec.ofChange fnExactCenterListSpec)

/-- ITS FALSE NEIGHBOUR: 'it returns false'. Refute it at one input. -/
def fnExactCenterListWrong : ChangeSpec := { name := "fnExactCenterList", fn := fun _ => fun
  | [d] => { results := [.lit (.bool false)], args := [d] }
  | _ => none }
def FnExactCenterListWrongFalsely : Prop := fnExactCenterListRow.holds Try.pinned (OpenSpec.ofChange fnExactCenterListWrong)

/-- 'laws.FnCenterList': WHATEVER THE INPUT: true; the input reads as it did. -/
def fnCenterListSpec : ChangeSpec := { name := "fnCenterList", fn := fun _ => fun
  | [d] => { results := [.lit (.bool true)], args := [d] }
  | _ => none }
def fnCenterListRow : OpenClaim := { program := "ytdmgaemplhcfmaa", sum := "643c2b4650c14c49263dfbb7b7555a707b8c62fe8a19473a32a81de147dc43e8", func := "loop.example/sharedinference/laws.FnCenterList", spec := "fnCenterList", apart := false }
def FnCenterListSaid : Prop := fnCenterListRow.holds Try.pinned (OpenSpec.ofChange fnCenterListSpec)

/-- ITS FALSE NEIGHBOUR: 'it returns false'. Refute it at one input. -/
def fnCenterListWrong : ChangeSpec := { name := "fnCenterList", fn := fun _ => fun
  | [d] => { results := [.lit (.bool false)], args := [d] }
  | _ => none }
def FnCenterListWrongFalsely : Prop := fnCenterListRow.holds Try.pinned (OpenSpec.ofChange fnCenterListWrong)

/-- 'laws.FnExactRangeOf': WHATEVER THE INPUT: true; the input reads as it did. -/
def fnExactRangeOfSpec : ChangeSpec := { name := "fnExactRangeOf", fn := fun _ => fun
  | [d] => { results := [.lit (.bool true)], args := [d] }
  | _ => none }
def fnExactRangeOfRow : OpenClaim := { program := "ytdmgaemplhcfmaa", sum := "643c2b4650c14c49263dfbb7b7555a707b8c62fe8a19473a32a81de147dc43e8", func := "loop.example/sharedinference/laws.FnExactRangeOf", spec := "fnExactRangeOf", apart := false }
def FnExactRangeOfSaid : Prop := fnExactRangeOfRow.holds Try.pinned (OpenSpec.ofChange fnExactRangeOfSpec)

/-- ITS FALSE NEIGHBOUR: 'it returns false'. Refute it at one input. -/
def fnExactRangeOfWrong : ChangeSpec := { name := "fnExactRangeOf", fn := fun _ => fun
  | [d] => { results := [.lit (.bool false)], args := [d] }
  | _ => none }
def FnExactRangeOfWrongFalsely : Prop := fnExactRangeOfRow.holds Try.pinned (OpenSpec.ofChange fnExactRangeOfWrong)

/-- 'laws.FnRangeOf': WHATEVER THE INPUT: true; the input reads as it did. -/
def fnRangeOfSpec : ChangeSpec := { name := "fnRangeOf", fn := fun _ => fun
  | [d] => { results := [.lit (.bool true)], args := [d] }
  | _ => none }
def fnRangeOfRow : OpenClaim := { program := "ytdmgaemplhcfmaa", sum := "643c2b4650c14c49263dfbb7b7555a707b8c62fe8a19473a32a81de147dc43e8", func := "loop.example/sharedinference/laws.FnRangeOf", spec := "fnRangeOf", apart := false }
def FnRangeOfSaid : Prop := fnRangeOfRow.holds Try.pinned (OpenSpec.ofChange fnRangeOfSpec)

/-- ITS FALSE NEIGHBOUR: 'it returns false'. Refute it at one input. -/
def fnRangeOfWrong : ChangeSpec := { name := "fnRangeOf", fn := fun _ => fun
  | [d] => { results := [.lit (.bool false)], args := [d] }
  | _ => none }
def FnRangeOfWrongFalsely : Prop := fnRangeOfRow.holds Try.pinned (OpenSpec.ofChange fnRangeOfWrong)

/-- 'laws.FnExactStepList': WHATEVER THE INPUT: true; the input reads as it did. -/
def fnExactStepListSpec : ChangeSpec := { name := "fnExactStepList", fn := fun _ => fun
  | [d1, d2] => { results := [.lit (.bool true)], args := [d1, d2] }
  | _ => none }
def fnExactStepListRow : OpenClaim := { program := "ytdmgaemplhcfmaa", sum := "643c2b4650c14c49263dfbb7b7555a707b8c62fe8a19473a32a81de147dc43e8", func := "loop.example/sharedinference/laws.FnExactStepList", spec := "fnExactStepList", apart := false }
def FnExactStepListSaid : Prop := fnExactStepListRow.holds Try.pinned (OpenSpec.ofChange fnExactStepListSpec)

/-- ITS FALSE NEIGHBOUR: 'it returns false'. Refute it at one input. -/
def fnExactStepListWrong : ChangeSpec := { name := "fnExactStepList", fn := fun _ => fun
  | [d1, d2] => { results := [.lit (.bool false)], args := [d1, d2] }
  | _ => none }
def FnExactStepListWrongFalsely : Prop := fnExactStepListRow.holds Try.pinned (OpenSpec.ofChange fnExactStepListWrong)

/-- 'laws.FnStepList': WHATEVER THE INPUT: true; the input reads as it did. -/
def fnStepListSpec : ChangeSpec := { name := "fnStepList", fn := fun _ => fun
  | [d] => { results := [.lit (.bool true)], args := [d] }
  | _ => none }
def fnStepListRow : OpenClaim := { program := "ytdmgaemplhcfmaa", sum := "643c2b4650c14c49263dfbb7b7555a707b8c62fe8a19473a32a81de147dc43e8", func := "loop.example/sharedinference/laws.FnStepList", spec := "fnStepList", apart := false }
def FnStepListSaid : Prop := fnStepListRow.holds Try.pinned (OpenSpec.ofChange fnStepListSpec)

/-- ITS FALSE NEIGHBOUR: 'it returns false'. Refute it at one input. -/
def fnStepListWrong : ChangeSpec := { name := "fnStepList", fn := fun _ => fun
  | [d] => { results := [.lit (.bool false)], args := [d] }
  | _ => none }
def FnStepListWrongFalsely : Prop := fnStepListRow.holds Try.pinned (OpenSpec.ofChange fnStepListWrong)

/-- 'laws.FnExactUnstepList': WHATEVER THE INPUT: true; the input reads as it did. -/
def fnExactUnstepListSpec : ChangeSpec := { name := "fnExactUnstepList", fn := fun _ => fun
  | [d1, d2] => { results := [.lit (.bool true)], args := [d1, d2] }
  | _ => none }
def fnExactUnstepListRow : OpenClaim := { program := "ytdmgaemplhcfmaa", sum := "643c2b4650c14c49263dfbb7b7555a707b8c62fe8a19473a32a81de147dc43e8", func := "loop.example/sharedinference/laws.FnExactUnstepList", spec := "fnExactUnstepList", apart := false }
def FnExactUnstepListSaid : Prop := fnExactUnstepListRow.holds Try.pinned (OpenSpec.ofChange fnExactUnstepListSpec)

/-- ITS FALSE NEIGHBOUR: 'it returns false'. Refute it at one input. -/
def fnExactUnstepListWrong : ChangeSpec := { name := "fnExactUnstepList", fn := fun _ => fun
  | [d1, d2] => { results := [.lit (.bool false)], args := [d1, d2] }
  | _ => none }
def FnExactUnstepListWrongFalsely : Prop := fnExactUnstepListRow.holds Try.pinned (OpenSpec.ofChange fnExactUnstepListWrong)

/-- 'laws.FnUnstepList': WHATEVER THE INPUT: true; the input reads as it did. -/
def fnUnstepListSpec : ChangeSpec := { name := "fnUnstepList", fn := fun _ => fun
  | [d] => { results := [.lit (.bool true)], args := [d] }
  | _ => none }
def fnUnstepListRow : OpenClaim := { program := "ytdmgaemplhcfmaa", sum := "643c2b4650c14c49263dfbb7b7555a707b8c62fe8a19473a32a81de147dc43e8", func := "loop.example/sharedinference/laws.FnUnstepList", spec := "fnUnstepList", apart := false }
def FnUnstepListSaid : Prop := fnUnstepListRow.holds Try.pinned (OpenSpec.ofChange fnUnstepListSpec)

/-- ITS FALSE NEIGHBOUR: 'it returns false'. Refute it at one input. -/
def fnUnstepListWrong : ChangeSpec := { name := "fnUnstepList", fn := fun _ => fun
  | [d] => { results := [.lit (.bool false)], args := [d] }
  | _ => none }
def FnUnstepListWrongFalsely : Prop := fnUnstepListRow.holds Try.pinned (OpenSpec.ofChange fnUnstepListWrong)

/-- 'laws.FnExactStepError': WHATEVER THE INPUT: true; the input reads as it did. -/
def fnExactStepErrorSpec : ChangeSpec := { name := "fnExactStepError", fn := fun _ => fun
  | [d1, d2] => { results := [.lit (.bool true)], args := [d1, d2] }
  | _ => none }
def fnExactStepErrorRow : OpenClaim := { program := "ytdmgaemplhcfmaa", sum := "643c2b4650c14c49263dfbb7b7555a707b8c62fe8a19473a32a81de147dc43e8", func := "loop.example/sharedinference/laws.FnExactStepError", spec := "fnExactStepError", apart := false }
def FnExactStepErrorSaid : Prop := fnExactStepErrorRow.holds Try.pinned (OpenSpec.ofChange fnExactStepErrorSpec)

/-- ITS FALSE NEIGHBOUR: 'it returns false'. Refute it at one input. -/
def fnExactStepErrorWrong : ChangeSpec := { name := "fnExactStepError", fn := fun _ => fun
  | [d1, d2] => { results := [.lit (.bool false)], args := [d1, d2] }
  | _ => none }
def FnExactStepErrorWrongFalsely : Prop := fnExactStepErrorRow.holds Try.pinned (OpenSpec.ofChange fnExactStepErrorWrong)

/-- 'laws.FnStepError': WHATEVER THE INPUT: true; the input reads as it did. -/
def fnStepErrorSpec : ChangeSpec := { name := "fnStepError", fn := fun _ => fun
  | [d] => { results := [.lit (.bool true)], args := [d] }
  | _ => none }
def fnStepErrorRow : OpenClaim := { program := "ytdmgaemplhcfmaa", sum := "643c2b4650c14c49263dfbb7b7555a707b8c62fe8a19473a32a81de147dc43e8", func := "loop.example/sharedinference/laws.FnStepError", spec := "fnStepError", apart := false }
def FnStepErrorSaid : Prop := fnStepErrorRow.holds Try.pinned (OpenSpec.ofChange fnStepErrorSpec)

/-- ITS FALSE NEIGHBOUR: 'it returns false'. Refute it at one input. -/
def fnStepErrorWrong : ChangeSpec := { name := "fnStepError", fn := fun _ => fun
  | [d] => { results := [.lit (.bool false)], args := [d] }
  | _ => none }
def FnStepErrorWrongFalsely : Prop := fnStepErrorRow.holds Try.pinned (OpenSpec.ofChange fnStepErrorWrong)

/- THE SECOND FORM. 'bulk': how many values and letters a reading holds, each counted each time it is reached (what is shared counts as often as it is met; a slice's spare places count too). A statement '..UptoSaid' is the law's where the arguments, and the package variables that the reading takes, are together of bulk at most 1048576: NARROWER than '..Said'. Prove '..Said' where nothing that the law and all that it calls make is longer than what came in: it says more and counts as full. Else prove '..UptoSaid'. A law counts once. -/
mutual
def uptoBulk {H : Type} : DataW H → Nat
  | .lit (.string bytes) => bytes.length + 1
  | .lit _ => 1
  | .nil => 1
  | .ptr d => uptoBulk d + 1
  | .slice elems spare => uptoBulkAll elems + uptoBulkAll spare + 1
  | .agg parts => uptoBulkAll parts + 1
  | .iface _ d => uptoBulk d + 1
  | .map entries => uptoBulkEntries entries + 1
  | .held _ => 1
def uptoBulkAll {H : Type} : List (DataW H) → Nat
  | [] => 0
  | d :: r => uptoBulk d + uptoBulkAll r
def uptoBulkEntries {H : Type} : List (Lit × DataW H) → Nat
  | [] => 0
  | x :: r => uptoBulkEntry x + uptoBulkEntries r
def uptoBulkEntry {H : Type} : Lit × DataW H → Nat
  | (.string bytes, d) => bytes.length + uptoBulk d + 1
  | (_, d) => uptoBulk d + 1
 end
def uptoSmall : (H : Type) → List (DataW H) → Bool := fun _ ds => decide (uptoBulkAll ds ≤ 1048576)
def OpenSpec.upto (s : _root_.Go.ChangeSpec) : _root_.Go.OpenSpec := { _root_.Go.OpenSpec.ofChange s with cond := some uptoSmall }

/-- 'laws.FnExactMeanOf', WHERE WHAT IT READS IS OF BULK AT MOST 1048576: true; the input reads as it did. -/
def fnExactMeanOfUptoRow : OpenClaim := { program := "ytdmgaemplhcfmaa", sum := "643c2b4650c14c49263dfbb7b7555a707b8c62fe8a19473a32a81de147dc43e8", func := "loop.example/sharedinference/laws.FnExactMeanOf", spec := "fnExactMeanOf", apart := false, narrowed := true }
def FnExactMeanOfUptoSaid : Prop := fnExactMeanOfUptoRow.holds Try.pinned (OpenSpec.upto fnExactMeanOfSpec)

/-- 'laws.FnMeanOf', WHERE WHAT IT READS IS OF BULK AT MOST 1048576: true; the input reads as it did. -/
def fnMeanOfUptoRow : OpenClaim := { program := "ytdmgaemplhcfmaa", sum := "643c2b4650c14c49263dfbb7b7555a707b8c62fe8a19473a32a81de147dc43e8", func := "loop.example/sharedinference/laws.FnMeanOf", spec := "fnMeanOf", apart := false, narrowed := true }
def FnMeanOfUptoSaid : Prop := fnMeanOfUptoRow.holds Try.pinned (OpenSpec.upto fnMeanOfSpec)

/-- 'laws.FnExactCenterList', WHERE WHAT IT READS IS OF BULK AT MOST 1048576: true; the input reads as it did. -/
def fnExactCenterListUptoRow : OpenClaim := { program := "ytdmgaemplhcfmaa", sum := "643c2b4650c14c49263dfbb7b7555a707b8c62fe8a19473a32a81de147dc43e8", func := "loop.example/sharedinference/laws.FnExactCenterList", spec := "fnExactCenterList", apart := false, narrowed := true }
def FnExactCenterListUptoSaid : Prop := fnExactCenterListUptoRow.holds Try.pinned (OpenSpec.upto fnExactCenterListSpec)

/-- 'laws.FnCenterList', WHERE WHAT IT READS IS OF BULK AT MOST 1048576: true; the input reads as it did. -/
def fnCenterListUptoRow : OpenClaim := { program := "ytdmgaemplhcfmaa", sum := "643c2b4650c14c49263dfbb7b7555a707b8c62fe8a19473a32a81de147dc43e8", func := "loop.example/sharedinference/laws.FnCenterList", spec := "fnCenterList", apart := false, narrowed := true }
def FnCenterListUptoSaid : Prop := fnCenterListUptoRow.holds Try.pinned (OpenSpec.upto fnCenterListSpec)

/-- 'laws.FnExactRangeOf', WHERE WHAT IT READS IS OF BULK AT MOST 1048576: true; the input reads as it did. -/
def fnExactRangeOfUptoRow : OpenClaim := { program := "ytdmgaemplhcfmaa", sum := "643c2b4650c14c49263dfbb7b7555a707b8c62fe8a19473a32a81de147dc43e8", func := "loop.example/sharedinference/laws.FnExactRangeOf", spec := "fnExactRangeOf", apart := false, narrowed := true }
def FnExactRangeOfUptoSaid : Prop := fnExactRangeOfUptoRow.holds Try.pinned (OpenSpec.upto fnExactRangeOfSpec)

/-- 'laws.FnRangeOf', WHERE WHAT IT READS IS OF BULK AT MOST 1048576: true; the input reads as it did. -/
def fnRangeOfUptoRow : OpenClaim := { program := "ytdmgaemplhcfmaa", sum := "643c2b4650c14c49263dfbb7b7555a707b8c62fe8a19473a32a81de147dc43e8", func := "loop.example/sharedinference/laws.FnRangeOf", spec := "fnRangeOf", apart := false, narrowed := true }
def FnRangeOfUptoSaid : Prop := fnRangeOfUptoRow.holds Try.pinned (OpenSpec.upto fnRangeOfSpec)

/-- 'laws.FnExactStepList', WHERE WHAT IT READS IS OF BULK AT MOST 1048576: true; the input reads as it did. -/
def fnExactStepListUptoRow : OpenClaim := { program := "ytdmgaemplhcfmaa", sum := "643c2b4650c14c49263dfbb7b7555a707b8c62fe8a19473a32a81de147dc43e8", func := "loop.example/sharedinference/laws.FnExactStepList", spec := "fnExactStepList", apart := false, narrowed := true }
def FnExactStepListUptoSaid : Prop := fnExactStepListUptoRow.holds Try.pinned (OpenSpec.upto fnExactStepListSpec)

/-- 'laws.FnStepList', WHERE WHAT IT READS IS OF BULK AT MOST 1048576: true; the input reads as it did. -/
def fnStepListUptoRow : OpenClaim := { program := "ytdmgaemplhcfmaa", sum := "643c2b4650c14c49263dfbb7b7555a707b8c62fe8a19473a32a81de147dc43e8", func := "loop.example/sharedinference/laws.FnStepList", spec := "fnStepList", apart := false, narrowed := true }
def FnStepListUptoSaid : Prop := fnStepListUptoRow.holds Try.pinned (OpenSpec.upto fnStepListSpec)

/-- 'laws.FnExactUnstepList', WHERE WHAT IT READS IS OF BULK AT MOST 1048576: true; the input reads as it did. -/
def fnExactUnstepListUptoRow : OpenClaim := { program := "ytdmgaemplhcfmaa", sum := "643c2b4650c14c49263dfbb7b7555a707b8c62fe8a19473a32a81de147dc43e8", func := "loop.example/sharedinference/laws.FnExactUnstepList", spec := "fnExactUnstepList", apart := false, narrowed := true }
def FnExactUnstepListUptoSaid : Prop := fnExactUnstepListUptoRow.holds Try.pinned (OpenSpec.upto fnExactUnstepListSpec)

/-- 'laws.FnUnstepList', WHERE WHAT IT READS IS OF BULK AT MOST 1048576: true; the input reads as it did. -/
def fnUnstepListUptoRow : OpenClaim := { program := "ytdmgaemplhcfmaa", sum := "643c2b4650c14c49263dfbb7b7555a707b8c62fe8a19473a32a81de147dc43e8", func := "loop.example/sharedinference/laws.FnUnstepList", spec := "fnUnstepList", apart := false, narrowed := true }
def FnUnstepListUptoSaid : Prop := fnUnstepListUptoRow.holds Try.pinned (OpenSpec.upto fnUnstepListSpec)

/-- 'laws.FnExactStepError', WHERE WHAT IT READS IS OF BULK AT MOST 1048576: true; the input reads as it did. -/
def fnExactStepErrorUptoRow : OpenClaim := { program := "ytdmgaemplhcfmaa", sum := "643c2b4650c14c49263dfbb7b7555a707b8c62fe8a19473a32a81de147dc43e8", func := "loop.example/sharedinference/laws.FnExactStepError", spec := "fnExactStepError", apart := false, narrowed := true }
def FnExactStepErrorUptoSaid : Prop := fnExactStepErrorUptoRow.holds Try.pinned (OpenSpec.upto fnExactStepErrorSpec)

/-- 'laws.FnStepError', WHERE WHAT IT READS IS OF BULK AT MOST 1048576: true; the input reads as it did. -/
def fnStepErrorUptoRow : OpenClaim := { program := "ytdmgaemplhcfmaa", sum := "643c2b4650c14c49263dfbb7b7555a707b8c62fe8a19473a32a81de147dc43e8", func := "loop.example/sharedinference/laws.FnStepError", spec := "fnStepError", apart := false, narrowed := true }
def FnStepErrorUptoSaid : Prop := fnStepErrorUptoRow.holds Try.pinned (OpenSpec.upto fnStepErrorSpec)

end Rows
end Go.Proofs.Ytdmgaemplhcfmaa
