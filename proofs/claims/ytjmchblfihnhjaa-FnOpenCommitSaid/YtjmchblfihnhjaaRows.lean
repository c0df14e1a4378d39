/-
  No cell of these rows narrows 'for every input' (looked for: loops, veiled, ifaces, maps, wideKeys, modest, calm, conditions, laid).
  DERIVED. THE GIVEN ROWS OF THIS SEAT. 6 by the template 'for every input the law returns true; each argument reads behind the call as it read before'; 0 by the template 'total and deterministic' (their statements: YtjmchblfihnhjaaTotals.lean).
  GIVEN WITH THE SEED: the statements are not yours to turn. If you find one false, say at which input.
  Laid BY PROGRAM, IN A SANDBOX (cutbox-rows.mjs): the forced cells as the released guide's own fill.sh prints them over the translation 5bbb257f8305d326… (all of the seat's roots in one cut). By AI agents, Wed Nov 11 2026. No macro, syntax, notation, axiom, sorry.
-/
import Derived.Test.YtjmchblfihnhjaaChecked
import GoSem.Claim
import GoSem.ClaimJoined
import GoSem.ClaimMapViews
import Derived.JoinedTies
import Derived.KernelRfl
namespace Go.Proofs.Ytjmchblfihnhjaa
/- THE CELL 'sum', in the pinned program and in every row, IS THE sha256 OF THE DUMP (.gsa) THAT YtjmchblfihnhjaaProg.lean LOADS. Nothing in Lean hashes anything: it is a label: what it is worth is what the hold of that sum in a sandbox is worth. -/
noncomputable def Try.pinned : Pinned := { name := "ytjmchblfihnhjaa", sum := "5bbb257f8305d3266223e3df993be2d7b70e2b6e5b4fcc49cfc60b827b91a52e", checked := Try.checked }
namespace Rows
def none {H : Type} : Left H := { results := [], args := [] }

/-- 'laws.FnExactTranscriptAdd': WHATEVER THE INPUT: true; the input reads as it did. -/
def fnExactTranscriptAddSpec : ChangeSpec := { name := "fnExactTranscriptAdd", fn := fun _ => fun
  | [d1, d2] => { results := [.lit (.bool true)], args := [d1, d2] }
  | _ => none }
def fnExactTranscriptAddRow : OpenClaim := { program := "ytjmchblfihnhjaa", sum := "5bbb257f8305d3266223e3df993be2d7b70e2b6e5b4fcc49cfc60b827b91a52e", func := "loop.example/sharedinference/laws.FnExactTranscriptAdd", spec := "fnExactTranscriptAdd", apart := false }
def FnExactTranscriptAddSaid : Prop := fnExactTranscriptAddRow.holds Try.pinned (OpenSpec.ofChange fnExactTranscriptAddSpec)

/-- ITS FALSE NEIGHBOUR: 'it returns false'. Refute it at one input. -/
def fnExactTranscriptAddWrong : ChangeSpec := { name := "fnExactTranscriptAdd", fn := fun _ => fun
  | [d1, d2] => { results := [.lit (.bool false)], args := [d1, d2] }
  | _ => none }
def FnExactTranscriptAddWrongFalsely : Prop := fnExactTranscriptAddRow.holds Try.pinned (OpenSpec.ofChange fnExactTranscriptAddWrong)

/-- 'laws.FnTranscriptAdd': WHATEVER THE INPUT: true; the input reads as it did. -/
def fnTranscriptAddSpec : ChangeSpec := { name := "fnTranscriptAdd", fn := fun _ => fun
  | [d] => { results := [.lit (.bool true)], args := [d] }
  | _ => none }
def fnTranscriptAddRow : OpenClaim := { program := "ytjmchblfihnhjaa", sum := "5bbb257f8305d3266223e3df993be2d7b70e2b6e5b4fcc49cfc60b827b91a52e", func := "loop.example/sharedinference/laws.FnTranscriptAdd", spec := "fnTranscriptAdd", apart := false }
def FnTranscriptAddSaid : Prop := fnTranscriptAddRow.holds Try.pinned (OpenSpec.ofChange fnTranscriptAddSpec)

/-- ITS FALSE NEIGHBOUR: 'it returns false'. Refute it at one input. -/
def fnTranscriptAddWrong : ChangeSpec := { name := "fnTranscriptAdd", fn := fun _ => fun
  | [d] => { results := [.lit (.bool false)], args := [d] }
  | _ => none }
def FnTranscriptAddWrongFalsely : Prop := fnTranscriptAddRow.holds Try.pinned (OpenSpec.ofChange fnTranscriptAddWrong)

/-- 'laws.FnExactTranscriptOf': WHATEVER THE INPUT: true; the input reads as it did. -/
def fnExactTranscriptOfSpec : ChangeSpec := { name := "fnExactTranscriptOf", fn := fun _ => fun
  | [d] => { results := [.lit (.bool true)], args := [d] }
  | _ => none }
def fnExactTranscriptOfRow : OpenClaim := { program := "ytjmchblfihnhjaa", sum := "5bbb257f8305d3266223e3df993be2d7b70e2b6e5b4fcc49cfc60b827b91a52e", func := "loop.example/sharedinference/laws.FnExactTranscriptOf", spec := "fnExactTranscriptOf", apart := false }
def FnExactTranscriptOfSaid : Prop := fnExactTranscriptOfRow.holds Try.pinned (OpenSpec.ofChange fnExactTranscriptOfSpec)

/-- ITS FALSE NEIGHBOUR: 'it returns false'. Refute it at one input. -/
def fnExactTranscriptOfWrong : ChangeSpec := { name := "fnExactTranscriptOf", fn := fun _ => fun
  | [d] => { results := [.lit (.bool false)], args := [d] }
  | _ => none }
def FnExactTranscriptOfWrongFalsely : Prop := fnExactTranscriptOfRow.holds Try.pinned (OpenSpec.ofChange fnExactTranscriptOfWrong)

/-- 'laws.FnTranscriptOf': WHATEVER THE INPUT: true; the input reads as it did. -/
def fnTranscriptOfSpec : ChangeSpec := { name := "fnTranscriptOf", fn := fun _ => fun
  | [d] => { results := [.lit (.bool true)], args := [d] }
  | _ => none }
def fnTranscriptOfRow : OpenClaim := { program := "ytjmchblfihnhjaa", sum := "5bbb257f8305d3266223e3df993be2d7b70e2b6e5b4fcc49cfc60b827b91a52e", func := "loop.example/sharedinference/laws.FnTranscriptOf", spec := "fnTranscriptOf", apart := false }
def FnTranscriptOfSaid : Prop := fnTranscriptOfRow.holds Try.pinned (OpenSpec.ofChange fnTranscriptOfSpec)

/-- ITS FALSE NEIGHBOUR: 'it returns false'. Refute it at one input. -/
def fnTranscriptOfWrong : ChangeSpec := { name := "fnTranscriptOf", fn := fun _ => fun
  | [d] => { results := [.lit (.bool false)], args := [d] }
  | _ => none }
def FnTranscriptOfWrongFalsely : Prop := fnTranscriptOfRow.holds Try.pinned (OpenSpec.ofChange fnTranscriptOfWrong)

/-- 'laws.FnCommitTo': WHATEVER THE INPUT: true; the input reads as it did. -/
def fnCommitToSpec : ChangeSpec := { name := "fnCommitTo", fn := fun _ => fun
  | [d] => { results := [.lit (.bool true)], args := [d] }
  | _ => none }
def fnCommitToRow : OpenClaim := { program := "ytjmchblfihnhjaa", sum := "5bbb257f8305d3266223e3df993be2d7b70e2b6e5b4fcc49cfc60b827b91a52e", func := "loop.example/sharedinference/laws.FnCommitTo", spec := "fnCommitTo", apart := false }
def FnCommitToSaid : Prop := fnCommitToRow.holds Try.pinned (OpenSpec.ofChange fnCommitToSpec)

/-- ITS FALSE NEIGHBOUR: 'it returns false'. Refute it at one input. -/
def fnCommitToWrong : ChangeSpec := { name := "fnCommitTo", fn := fun _ => fun
  | [d] => { results := [.lit (.bool false)], args := [d] }
  | _ => none }
def FnCommitToWrongFalsely : Prop := fnCommitToRow.holds Try.pinned (OpenSpec.ofChange fnCommitToWrong)

/-- 'laws.FnOpenCommit': WHATEVER THE INPUT: true; the input reads as it did. -/
def fnOpenCommitSpec : ChangeSpec := { name := "fnOpenCommit", fn := fun _ => fun
  | [d] => { results := [.lit (.bool true)], args := [d] }
  | _ => none }
def fnOpenCommitRow : OpenClaim := { program := "ytjmchblfihnhjaa", sum := "5bbb257f8305d3266223e3df993be2d7b70e2b6e5b4fcc49cfc60b827b91a52e", func := "loop.example/sharedinference/laws.FnOpenCommit", spec := "fnOpenCommit", apart := false }
def FnOpenCommitSaid : Prop := fnOpenCommitRow.holds Try.pinned (OpenSpec.ofChange fnOpenCommitSpec)

/-- ITS FALSE NEIGHBOUR: 'it returns false'. Refute it at one input. -/
def fnOpenCommitWrong : ChangeSpec := { name := "fnOpenCommit", fn := fun _ => fun
  | [d] => { results := [.lit (.bool false)], args := [d] }
  | _ => none }
def FnOpenCommitWrongFalsely : Prop := fnOpenCommitRow.holds Try.pinned (OpenSpec.ofChange fnOpenCommitWrong)

/- THE SECOND FORM. 'bulk': how many values and letters a reading holds, each counted each time it is reached (what is shared counts as often as it is met; a slice's spare places count too). A statement '..UptoSaid' is the law's where the arguments, and the package variables that the reading takes, are together of bulk at most 1048576: NARROWER than '..Said'. Prove '..Said' where nothing that the law and all that it calls make is longer than what came in: it says more and counts as full. Else prove '..UptoSaid'. A law counts once. -/
mutual
def uptoBulk {H : Type} : DataW H → Nat
  | .lit (.string bytes) => bytes.length + 1
  | .lit _ => 1
  | .nil => 1
  | .ptr d => uptoBulk d + 1
  | .slice elems spare => uptoBulkAll elems + uptoBulkAll spare + 1
  | .agg parts => uptoBulkAll parts + 1
  | .iface _ d => uptoBulk d + 1
  | .map entries => uptoBulkEntries entries + 1
  | .held _ => 1
def uptoBulkAll {H : Type} : List (DataW H) → Nat
  | [] => 0
  | d :: r => uptoBulk d + uptoBulkAll r
def uptoBulkEntries {H : Type} : List (Lit × DataW H) → Nat
  | [] => 0
  | x :: r => uptoBulkEntry x + uptoBulkEntries r
def uptoBulkEntry {H : Type} : Lit × DataW H → Nat
  | (.string bytes, d) => bytes.length + uptoBulk d + 1
  | (_, d) => uptoBulk d + 1
 end
def uptoSmall : (H : Type) → List (DataW H) → Bool := fun _ ds => decide (uptoBulkAll ds ≤ 1048576)
def OpenSpec.upto (s : _root_.Go.ChangeSpec) : _root_.Go.OpenSpec := { _root_.Go.OpenSpec.ofChange s with cond := some uptoSmall }

/-- 'laws.FnExactTranscriptAdd', WHERE WHAT IT READS IS OF BULK AT MOST 1048576: true; the input reads as it did. -/
def fnExactTranscriptAddUptoRow : OpenClaim := { program := "ytjmchblfihnhjaa", sum := "5bbb257f8305d3266223e3df993be2d7b70e2b6e5b4fcc49cfc60b827b91a52e", func := "loop.example/sharedinference/laws.FnExactTranscriptAdd", spec := "fnExactTranscriptAdd", apart := false, narrowed := true }
def FnExactTranscriptAddUptoSaid : Prop := fnExactTranscriptAddUptoRow.holds Try.pinned (OpenSpec.upto fnExactTranscriptAddSpec)

/-- 'laws.FnTranscriptAdd', WHERE WHAT IT READS IS OF BULK AT MOST 1048576: true; the input reads as it did. -/
def fnTranscriptAddUptoRow : OpenClaim := { program := "ytjmchblfihnhjaa", sum := "5bbb257f8305d3266223e3df993be2d7b70e2b6e5b4fcc49cfc60b827b91a52e", func := "loop.example/sharedinference/laws.FnTranscriptAdd", spec := "fnTranscriptAdd", apart := false, narrowed := true }
def FnTranscriptAddUptoSaid : Prop := fnTranscriptAddUptoRow.holds Try.pinned (OpenSpec.upto fnTranscriptAddSpec)

/-- 'laws.FnExactTranscriptOf', WHERE WHAT IT READS IS OF BULK AT MOST 1048576: true; the input reads as it did. -/
def fnExactTranscriptOfUptoRow : OpenClaim := { program := "ytjmchblfihnhjaa", sum := "5bbb257f8305d3266223e3df993be2d7b70e2b6e5b4fcc49cfc60b827b91a52e", func := "loop.example/sharedinference/laws.FnExactTranscriptOf", spec := "fnExactTranscriptOf", apart := false, narrowed := true }
def FnExactTranscriptOfUptoSaid : Prop := fnExactTranscriptOfUptoRow.holds Try.pinned (OpenSpec.upto fnExactTranscriptOfSpec)

/-- 'laws.FnTranscriptOf', WHERE WHAT IT READS IS OF BULK AT MOST 1048576: true; the input reads as it did. -/
def fnTranscriptOfUptoRow : OpenClaim := { program := "ytjmchblfihnhjaa", sum := "5bbb257f8305d3266223e3df993be2d7b70e2b6e5b4fcc49cfc60b827b91a52e", func := "loop.example/sharedinference/laws.FnTranscriptOf", spec := "fnTranscriptOf", apart := false, narrowed := true }
def FnTranscriptOfUptoSaid : Prop := fnTranscriptOfUptoRow.holds Try.pinned (OpenSpec.upto fnTranscriptOfSpec)

/-- 'laws.FnCommitTo', WHERE WHAT IT READS IS OF BULK AT MOST 1048576: true; the input reads as it did. -/
def fnCommitToUptoRow : OpenClaim := { program := "ytjmchblfihnhjaa", sum := "5bbb257f8305d3266223e3df993be2d7b70e2b6e5b4fcc49cfc60b827b91a52e", func := "loop.example/sharedinference/laws.FnCommitTo", spec := "fnCommitTo", apart := false, narrowed := true }
def FnCommitToUptoSaid : Prop := fnCommitToUptoRow.holds Try.pinned (OpenSpec.upto fnCommitToSpec)

/-- 'laws.FnOpenCommit', WHERE WHAT IT READS IS OF BULK AT MOST 1048576: true; the input reads as it did. -/
def fnOpenCommitUptoRow : OpenClaim := { program := "ytjmchblfihnhjaa", sum := "5bbb257f8305d3266223e3df993be2d7b70e2b6e5b4fcc49cfc60b827b91a52e", func := "loop.example/sharedinference/laws.FnOpenCommit", spec := "fnOpenCommit", apart := false, narrowed := true }
def FnOpenCommitUptoSaid : Prop := fnOpenCommitUptoRow.holds Try.pinned (OpenSpec.upto fnOpenCommitSpec)

end Rows
end Go.Proofs.Ytjmchblfihnhjaa
