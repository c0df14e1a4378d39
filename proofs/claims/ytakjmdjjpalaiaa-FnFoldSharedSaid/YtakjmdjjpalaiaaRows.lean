/-
  No cell of these rows narrows 'for every input' (looked for: loops, veiled, ifaces, maps, wideKeys, modest, calm, conditions, laid).
  DERIVED. THE GIVEN ROWS OF THIS SEAT. 12 by the template 'for every input the law returns true; each argument reads behind the call as it read before'; 0 by the template 'total and deterministic' (their statements: YtakjmdjjpalaiaaTotals.lean).
  GIVEN WITH THE SEED: the statements are not yours to turn. If you find one false, say at which input.
  Laid BY PROGRAM, IN A SANDBOX (cutbox-rows.mjs): the forced cells as the released guide's own fill.sh prints them over the translation 1e0bdd37ef9f3618… (all of the seat's roots in one cut). By AI agents, Wed Nov 11 2026. No macro, syntax, notation, axiom, sorry.
-/
import Derived.Test.YtakjmdjjpalaiaaChecked
import GoSem.Claim
import GoSem.ClaimJoined
import GoSem.ClaimMapViews
import Derived.JoinedTies
import Derived.KernelRfl
namespace Go.Proofs.Ytakjmdjjpalaiaa
/- THE CELL 'sum', in the pinned program and in every row, IS THE sha256 OF THE DUMP (.gsa) THAT YtakjmdjjpalaiaaProg.lean LOADS. Nothing in Lean hashes anything: it is a label: what it is worth is what the hold of that sum in a sandbox is worth. -/
noncomputable def Try.pinned : Pinned := { name := "ytakjmdjjpalaiaa", sum := "1e0bdd37ef9f36180ada7d00a8995366ec8f8fd1d899ae37a6e175d46fa87c1e", checked := Try.checked }
namespace Rows
def none {H : Type} : Left H := { results := [], args := [] }

/-- 'laws.FnExactSumPool': WHATEVER THE INPUT: true; the input reads as it did. -/
def fnExactSumPoolSpec : ChangeSpec := { name := "fnExactSumPool", fn := fun _ => fun
  | [d1, d2] => { results := [.lit (.bool true)], args := [d1, d2] }
  | _ => none }
def fnExactSumPoolRow : OpenClaim := { program := "ytakjmdjjpalaiaa", sum := "1e0bdd37ef9f36180ada7d00a8995366ec8f8fd1d899ae37a6e175d46fa87c1e", func := "loop.example/sharedinference/laws.FnExactSumPool", spec := "fnExactSumPool", unfollowed := true, recurses := true, apart := false }
def FnExactSumPoolSaid : Prop := fnExactSumPoolRow.holds Try.pinned (OpenSpec.ofChange fnExactSumPoolSpec)

/-- ITS FALSE NEIGHBOUR: 'it returns false'. Refute it at one input. -/
def fnExactSumPoolWrong : ChangeSpec := { name := "fnExactSumPool", fn := fun _ => fun
  | [d1, d2] => { results := [.lit (.bool false)], args := [d1, d2] }
  | _ => none }
def FnExactSumPoolWrongFalsely : Prop := fnExactSumPoolRow.holds Try.pinned (OpenSpec.ofChange fnExactSumPoolWrong)

/-- 'laws.FnSumPool': WHATEVER THE INPUT: true; the input reads as it did. -/
def fnSumPoolSpec : ChangeSpec := { name := "fnSumPool", fn := fun _ => fun
  | [d] => { results := [.lit (.bool true)], args := [d] }
  | _ => none }
def fnSumPoolRow : OpenClaim := { program := "ytakjmdjjpalaiaa", sum := "1e0bdd37ef9f36180ada7d00a8995366ec8f8fd1d899ae37a6e175d46fa87c1e", func := "loop.example/sharedinference/laws.FnSumPool", spec := "fnSumPool", unfollowed := true, recurses := true, apart := false }
def FnSumPoolSaid : Prop := fnSumPoolRow.holds Try.pinned (OpenSpec.ofChange fnSumPoolSpec)

/-- ITS FALSE NEIGHBOUR: 'it returns false'. Refute it at one input. -/
def fnSumPoolWrong : ChangeSpec := { name := "fnSumPool", fn := fun _ => fun
  | [d] => { results := [.lit (.bool false)], args := [d] }
  | _ => none }
def FnSumPoolWrongFalsely : Prop := fnSumPoolRow.holds Try.pinned (OpenSpec.ofChange fnSumPoolWrong)

/-- 'laws.FnExactTopPool': WHATEVER THE INPUT: true; the input reads as it did. -/
def fnExactTopPoolSpec : ChangeSpec := { name := "fnExactTopPool", fn := fun _ => fun
  | [d1, d2] => { results := [.lit (.bool true)], args := [d1, d2] }
  | _ => none }
def fnExactTopPoolRow : OpenClaim := { program := "ytakjmdjjpalaiaa", sum := "1e0bdd37ef9f36180ada7d00a8995366ec8f8fd1d899ae37a6e175d46fa87c1e", func := "loop.example/sharedinference/laws.FnExactTopPool", spec := "fnExactTopPool", unfollowed := true, recurses := true, apart := false }
def FnExactTopPoolSaid : Prop := fnExactTopPoolRow.holds Try.pinned (OpenSpec.ofChange fnExactTopPoolSpec)

/-- ITS FALSE NEIGHBOUR: 'it returns false'. Refute it at one input. -/
def fnExactTopPoolWrong : ChangeSpec := { name := "fnExactTopPool", fn := fun _ => fun
  | [d1, d2] => { results := [.lit (.bool false)], args := [d1, d2] }
  | _ => none }
def FnExactTopPoolWrongFalsely : Prop := fnExactTopPoolRow.holds Try.pinned (OpenSpec.ofChange fnExactTopPoolWrong)

/-- 'laws.FnTopPool': WHATEVER THE INPUT: true; the input reads as it did. -/
def fnTopPoolSpec : ChangeSpec := { name := "fnTopPool", fn := fun _ => fun
  | [d] => { results := [.lit (.bool true)], args := [d] }
  | _ => none }
def fnTopPoolRow : OpenClaim := { program := "ytakjmdjjpalaiaa", sum := "1e0bdd37ef9f36180ada7d00a8995366ec8f8fd1d899ae37a6e175d46fa87c1e", func := "loop.example/sharedinference/laws.FnTopPool", spec := "fnTopPool", unfollowed := true, recurses := true, apart := false }
def FnTopPoolSaid : Prop := fnTopPoolRow.holds Try.pinned (OpenSpec.ofChange fnTopPoolSpec)

/-- ITS FALSE NEIGHBOUR: 'it returns false'. Refute it at one input. -/
def fnTopPoolWrong : ChangeSpec := { name := "fnTopPool", fn := fun _ => fun
  | [d] => { results := [.lit (.bool false)], args := [d] }
  | _ => none }
def FnTopPoolWrongFalsely : Prop := fnTopPoolRow.holds Try.pinned (OpenSpec.ofChange fnTopPoolWrong)

/-- 'laws.FnExactSharedPool': WHATEVER THE INPUT: true; the input reads as it did. -/
def fnExactSharedPoolSpec : ChangeSpec := { name := "fnExactSharedPool", fn := fun _ => fun
  | [d1, d2] => { results := [.lit (.bool true)], args := [d1, d2] }
  | _ => none }
def fnExactSharedPoolRow : OpenClaim := { program := "ytakjmdjjpalaiaa", sum := "1e0bdd37ef9f36180ada7d00a8995366ec8f8fd1d899ae37a6e175d46fa87c1e", func := "loop.example/sharedinference/laws.FnExactSharedPool", spec := "fnExactSharedPool", unfollowed := true, recurses := true, apart := false }
def FnExactSharedPoolSaid : Prop := fnExactSharedPoolRow.holds Try.pinned (OpenSpec.ofChange fnExactSharedPoolSpec)

/-- ITS FALSE NEIGHBOUR: 'it returns false'. Refute it at one input. -/
def fnExactSharedPoolWrong : ChangeSpec := { name := "fnExactSharedPool", fn := fun _ => fun
  | [d1, d2] => { results := [.lit (.bool false)], args := [d1, d2] }
  | _ => none }
def FnExactSharedPoolWrongFalsely : Prop := fnExactSharedPoolRow.holds Try.pinned (OpenSpec.ofChange fnExactSharedPoolWrong)

/-- 'laws.FnSharedPool': WHATEVER THE INPUT: true; the input reads as it did. -/
def fnSharedPoolSpec : ChangeSpec := { name := "fnSharedPool", fn := fun _ => fun
  | [d] => { results := [.lit (.bool true)], args := [d] }
  | _ => none }
def fnSharedPoolRow : OpenClaim := { program := "ytakjmdjjpalaiaa", sum := "1e0bdd37ef9f36180ada7d00a8995366ec8f8fd1d899ae37a6e175d46fa87c1e", func := "loop.example/sharedinference/laws.FnSharedPool", spec := "fnSharedPool", unfollowed := true, recurses := true, apart := false }
def FnSharedPoolSaid : Prop := fnSharedPoolRow.holds Try.pinned (OpenSpec.ofChange fnSharedPoolSpec)

/-- ITS FALSE NEIGHBOUR: 'it returns false'. Refute it at one input. -/
def fnSharedPoolWrong : ChangeSpec := { name := "fnSharedPool", fn := fun _ => fun
  | [d] => { results := [.lit (.bool false)], args := [d] }
  | _ => none }
def FnSharedPoolWrongFalsely : Prop := fnSharedPoolRow.holds Try.pinned (OpenSpec.ofChange fnSharedPoolWrong)

/-- 'laws.FnExactFoldMatrix': WHATEVER THE INPUT: true; the input reads as it did. -/
def fnExactFoldMatrixSpec : ChangeSpec := { name := "fnExactFoldMatrix", fn := fun _ => fun
  | [d1, d2] => { results := [.lit (.bool true)], args := [d1, d2] }
  | _ => none }
def fnExactFoldMatrixRow : OpenClaim := { program := "ytakjmdjjpalaiaa", sum := "1e0bdd37ef9f36180ada7d00a8995366ec8f8fd1d899ae37a6e175d46fa87c1e", func := "loop.example/sharedinference/laws.FnExactFoldMatrix", spec := "fnExactFoldMatrix", apart := false }
def FnExactFoldMatrixSaid : Prop := fnExactFoldMatrixRow.holds Try.pinned (OpenSpec.ofChange fnExactFoldMatrixSpec)

/-- ITS FALSE NEIGHBOUR: 'it returns false'. Refute it at one input. -/
def fnExactFoldMatrixWrong : ChangeSpec := { name := "fnExactFoldMatrix", fn := fun _ => fun
  | [d1, d2] => { results := [.lit (.bool false)], args := [d1, d2] }
  | _ => none }
def FnExactFoldMatrixWrongFalsely : Prop := fnExactFoldMatrixRow.holds Try.pinned (OpenSpec.ofChange fnExactFoldMatrixWrong)

/-- 'laws.FnFoldMatrix': WHATEVER THE INPUT: true; the input reads as it did. -/
def fnFoldMatrixSpec : ChangeSpec := { name := "fnFoldMatrix", fn := fun _ => fun
  | [d] => { results := [.lit (.bool true)], args := [d] }
  | _ => none }
def fnFoldMatrixRow : OpenClaim := { program := "ytakjmdjjpalaiaa", sum := "1e0bdd37ef9f36180ada7d00a8995366ec8f8fd1d899ae37a6e175d46fa87c1e", func := "loop.example/sharedinference/laws.FnFoldMatrix", spec := "fnFoldMatrix", unfollowed := true, recurses := true, apart := false }
def FnFoldMatrixSaid : Prop := fnFoldMatrixRow.holds Try.pinned (OpenSpec.ofChange fnFoldMatrixSpec)

/-- ITS FALSE NEIGHBOUR: 'it returns false'. Refute it at one input. -/
def fnFoldMatrixWrong : ChangeSpec := { name := "fnFoldMatrix", fn := fun _ => fun
  | [d] => { results := [.lit (.bool false)], args := [d] }
  | _ => none }
def FnFoldMatrixWrongFalsely : Prop := fnFoldMatrixRow.holds Try.pinned (OpenSpec.ofChange fnFoldMatrixWrong)

/-- 'laws.FnExactFoldShared': WHATEVER THE INPUT: true; the input reads as it did. -/
def fnExactFoldSharedSpec : ChangeSpec := { name := "fnExactFoldShared", fn := fun _ => fun
  | [d1, d2] => { results := [.lit (.bool true)], args := [d1, d2] }
  | _ => none }
def fnExactFoldSharedRow : OpenClaim := { program := "ytakjmdjjpalaiaa", sum := "1e0bdd37ef9f36180ada7d00a8995366ec8f8fd1d899ae37a6e175d46fa87c1e", func := "loop.example/sharedinference/laws.FnExactFoldShared", spec := "fnExactFoldShared", unfollowed := true, recurses := true, apart := false }
def FnExactFoldSharedSaid : Prop := fnExactFoldSharedRow.holds Try.pinned (OpenSpec.ofChange fnExactFoldSharedSpec)

/-- ITS FALSE NEIGHBOUR: 'it returns false'. Refute it at one input. -/
def fnExactFoldSharedWrong : ChangeSpec := { name := "fnExactFoldShared", fn := fun _ => fun
  | [d1, d2] => { results := [.lit (.bool false)], args := [d1, d2] }
  | _ => none }
def FnExactFoldSharedWrongFalsely : Prop := fnExactFoldSharedRow.holds Try.pinned (OpenSpec.ofChange fnExactFoldSharedWrong)

/-- 'laws.FnFoldShared': WHATEVER THE INPUT: true; the input reads as it did. -/
def fnFoldSharedSpec : ChangeSpec := { name := "fnFoldShared", fn := fun _ => fun
  | [d] => { results := [.lit (.bool true)], args := [d] }
  | _ => none }
def fnFoldSharedRow : OpenClaim := { program := "ytakjmdjjpalaiaa", sum := "1e0bdd37ef9f36180ada7d00a8995366ec8f8fd1d899ae37a6e175d46fa87c1e", func := "loop.example/sharedinference/laws.FnFoldShared", spec := "fnFoldShared", unfollowed := true, recurses := true, apart := false }
def FnFoldSharedSaid : Prop := fnFoldSharedRow.holds Try.pinned (OpenSpec.ofChange fnFoldSharedSpec)

/-- ITS FALSE NEIGHBOUR: 'it returns false'. Refute it at one input. -/
def fnFoldSharedWrong : ChangeSpec := { name := "fnFoldShared", fn := fun _ => fun
  | [d] => { results := [.lit (.bool false)], args := [d] }
  | _ => none }
def FnFoldSharedWrongFalsely : Prop := fnFoldSharedRow.holds Try.pinned (OpenSpec.ofChange fnFoldSharedWrong)

/-- 'laws.FnExactEdgeMatrix': WHATEVER THE INPUT: true; the input reads as it did. -/
def fnExactEdgeMatrixSpec : ChangeSpec := { name := "fnExactEdgeMatrix", fn := fun _ => fun
  | [d1, d2] => { results := [.lit (.bool true)], args := [d1, d2] }
  | _ => none }
def fnExactEdgeMatrixRow : OpenClaim := { program := "ytakjmdjjpalaiaa", sum := "1e0bdd37ef9f36180ada7d00a8995366ec8f8fd1d899ae37a6e175d46fa87c1e", func := "loop.example/sharedinference/laws.FnExactEdgeMatrix", spec := "fnExactEdgeMatrix", apart := false }
def FnExactEdgeMatrixSaid : Prop := fnExactEdgeMatrixRow.holds Try.pinned (OpenSpec.ofChange fnExactEdgeMatrixSpec)

/-- ITS FALSE NEIGHBOUR: 'it returns false'. Refute it at one input. -/
def fnExactEdgeMatrixWrong : ChangeSpec := { name := "fnExactEdgeMatrix", fn := fun _ => fun
  | [d1, d2] => { results := [.lit (.bool false)], args := [d1, d2] }
  | _ => none }
def FnExactEdgeMatrixWrongFalsely : Prop := fnExactEdgeMatrixRow.holds Try.pinned (OpenSpec.ofChange fnExactEdgeMatrixWrong)

/-- 'laws.FnEdgeMatrix': WHATEVER THE INPUT: true; the input reads as it did. -/
def fnEdgeMatrixSpec : ChangeSpec := { name := "fnEdgeMatrix", fn := fun _ => fun
  | [d] => { results := [.lit (.bool true)], args := [d] }
  | _ => none }
def fnEdgeMatrixRow : OpenClaim := { program := "ytakjmdjjpalaiaa", sum := "1e0bdd37ef9f36180ada7d00a8995366ec8f8fd1d899ae37a6e175d46fa87c1e", func := "loop.example/sharedinference/laws.FnEdgeMatrix", spec := "fnEdgeMatrix", apart := false }
def FnEdgeMatrixSaid : Prop := fnEdgeMatrixRow.holds Try.pinned (OpenSpec.ofChange fnEdgeMatrixSpec)

/-- ITS FALSE NEIGHBOUR: 'it returns false'. Refute it at one input. -/
def fnEdgeMatrixWrong : ChangeSpec := { name := "fnEdgeMatrix", fn := fun _ => fun
  | [d] => { results := [.lit (.bool false)], args := [d] }
  | _ => none }
def FnEdgeMatrixWrongFalsely : Prop := fnEdgeMatrixRow.holds Try.pinned (OpenSpec.ofChange fnEdgeMatrixWrong)

/- THE SECOND FORM. 'bulk': how many values and letters a reading holds, each counted each time it is reached (what is shared counts as often as it is met; a slice's spare places count too). A statement '..UptoSaid' is the law's where the arguments, and the package variables that the reading takes, are together of bulk at most 1048576: NARROWER than '..Said'. Prove '..Said' where nothing that the law and all that it calls make is longer than what came in: it says more and counts as full. Else prove '..UptoSaid'. A law counts once. -/
mutual
def uptoBulk {H : Type} : DataW H → Nat
  | .lit (.string bytes) => bytes.length + 1
  | .lit _ => 1
  | .nil => 1
  | .ptr d => uptoBulk d + 1
  | .slice elems spare => uptoBulkAll elems + uptoBulkAll spare + 1
  | .agg parts => uptoBulkAll parts + 1
  | .iface _ d => uptoBulk d + 1
  | .map entries => uptoBulkEntries entries + 1
  | .held _ => 1
def uptoBulkAll {H : Type} : List (DataW H) → Nat
  | [] => 0
  | d :: r => uptoBulk d + uptoBulkAll r
def uptoBulkEntries {H : Type} : List (Lit × DataW H) → Nat
  | [] => 0
  | x :: r => uptoBulkEntry x + uptoBulkEntries r
def uptoBulkEntry {H : Type} : Lit × DataW H → Nat
  | (.string bytes, d) => bytes.length + uptoBulk d + 1
  | (_, d) => uptoBulk d + 1
 end
def uptoSmall : (H : Type) → List (DataW H) → Bool := fun _ ds => decide (uptoBulkAll ds ≤ 1048576)
def OpenSpec.upto (s : _root_.Go.ChangeSpec) : _root_.Go.OpenSpec := { _root_.Go.OpenSpec.ofChange s with cond := some uptoSmall }

/-- 'laws.FnExactSumPool', WHERE WHAT IT READS IS OF BULK AT MOST 1048576: true; the input reads as it did. -/
def fnExactSumPoolUptoRow : OpenClaim := { program := "ytakjmdjjpalaiaa", sum := "1e0bdd37ef9f36180ada7d00a8995366ec8f8fd1d899ae37a6e175d46fa87c1e", func := "loop.example/sharedinference/laws.FnExactSumPool", spec := "fnExactSumPool", unfollowed := true, recurses := true, apart := false, narrowed := true }
def FnExactSumPoolUptoSaid : Prop := fnExactSumPoolUptoRow.holds Try.pinned (OpenSpec.upto fnExactSumPoolSpec)

/-- 'laws.FnSumPool', WHERE WHAT IT READS IS OF BULK AT MOST 1048576: true; the input reads as it did. -/
def fnSumPoolUptoRow : OpenClaim := { program := "ytakjmdjjpalaiaa", sum := "1e0bdd37ef9f36180ada7d00a8995366ec8f8fd1d899ae37a6e175d46fa87c1e", func := "loop.example/sharedinference/laws.FnSumPool", spec := "fnSumPool", unfollowed := true, recurses := true, apart := false, narrowed := true }
def FnSumPoolUptoSaid : Prop := fnSumPoolUptoRow.holds Try.pinned (OpenSpec.upto fnSumPoolSpec)

/-- 'laws.FnExactTopPool', WHERE WHAT IT READS IS OF BULK AT MOST 1048576: true; the input reads as it did. -/
def fnExactTopPoolUptoRow : OpenClaim := { program := "ytakjmdjjpalaiaa", sum := "1e0bdd37ef9f36180ada7d00a8995366ec8f8fd1d899ae37a6e175d46fa87c1e", func := "loop.example/sharedinference/laws.FnExactTopPool", spec := "fnExactTopPool", unfollowed := true, recurses := true, apart := false, narrowed := true }
def FnExactTopPoolUptoSaid : Prop := fnExactTopPoolUptoRow.holds Try.pinned (OpenSpec.upto fnExactTopPoolSpec)

/-- 'laws.FnTopPool', WHERE WHAT IT READS IS OF BULK AT MOST 1048576: true; the input reads as it did. -/
def fnTopPoolUptoRow : OpenClaim := { program := "ytakjmdjjpalaiaa", sum := "1e0bdd37ef9f36180ada7d00a8995366ec8f8fd1d899ae37a6e175d46fa87c1e", func := "loop.example/sharedinference/laws.FnTopPool", spec := "fnTopPool", unfollowed := true, recurses := true, apart := false, narrowed := true }
def FnTopPoolUptoSaid : Prop := fnTopPoolUptoRow.holds Try.pinned (OpenSpec.upto fnTopPoolSpec)

/-- 'laws.FnExactSharedPool', WHERE WHAT IT READS IS OF BULK AT MOST 1048576: true; the input reads as it did. -/
def fnExactSharedPoolUptoRow : OpenClaim := { program := "ytakjmdjjpalaiaa", sum := "1e0bdd37ef9f36180ada7d00a8995366ec8f8fd1d899ae37a6e175d46fa87c1e", func := "loop.example/sharedinference/laws.FnExactSharedPool", spec := "fnExactSharedPool", unfollowed := true, recurses := true, apart := false, narrowed := true }
def FnExactSharedPoolUptoSaid : Prop := fnExactSharedPoolUptoRow.holds Try.pinned (OpenSpec.upto fnExactSharedPoolSpec)

/-- 'laws.FnSharedPool', WHERE WHAT IT READS IS OF BULK AT MOST 1048576: true; the input reads as it did. -/
def fnSharedPoolUptoRow : OpenClaim := { program := "ytakjmdjjpalaiaa", sum := "1e0bdd37ef9f36180ada7d00a8995366ec8f8fd1d899ae37a6e175d46fa87c1e", func := "loop.example/sharedinference/laws.FnSharedPool", spec := "fnSharedPool", unfollowed := true, recurses := true, apart := false, narrowed := true }
def FnSharedPoolUptoSaid : Prop := fnSharedPoolUptoRow.holds Try.pinned (OpenSpec.upto fnSharedPoolSpec)

/-- 'laws.FnExactFoldMatrix', WHERE WHAT IT READS IS OF BULK AT MOST 1048576: true; the input reads as it did. -/
def fnExactFoldMatrixUptoRow : OpenClaim := { program := "ytakjmdjjpalaiaa", sum := "1e0bdd37ef9f36180ada7d00a8995366ec8f8fd1d899ae37a6e175d46fa87c1e", func := "loop.example/sharedinference/laws.FnExactFoldMatrix", spec := "fnExactFoldMatrix", apart := false, narrowed := true }
def FnExactFoldMatrixUptoSaid : Prop := fnExactFoldMatrixUptoRow.holds Try.pinned (OpenSpec.upto fnExactFoldMatrixSpec)

/-- 'laws.FnFoldMatrix', WHERE WHAT IT READS IS OF BULK AT MOST 1048576: true; the input reads as it did. -/
def fnFoldMatrixUptoRow : OpenClaim := { program := "ytakjmdjjpalaiaa", sum := "1e0bdd37ef9f36180ada7d00a8995366ec8f8fd1d899ae37a6e175d46fa87c1e", func := "loop.example/sharedinference/laws.FnFoldMatrix", spec := "fnFoldMatrix", unfollowed := true, recurses := true, apart := false, narrowed := true }
def FnFoldMatrixUptoSaid : Prop := fnFoldMatrixUptoRow.holds Try.pinned (OpenSpec.upto fnFoldMatrixSpec)

/-- 'laws.FnExactFoldShared', WHERE WHAT IT READS IS OF BULK AT MOST 1048576: true; the input reads as it did. -/
def fnExactFoldSharedUptoRow : OpenClaim := { program := "ytakjmdjjpalaiaa", sum := "1e0bdd37ef9f36180ada7d00a8995366ec8f8fd1d899ae37a6e175d46fa87c1e", func := "loop.example/sharedinference/laws.FnExactFoldShared", spec := "fnExactFoldShared", unfollowed := true, recurses := true, apart := false, narrowed := true }
def FnExactFoldSharedUptoSaid : Prop := fnExactFoldSharedUptoRow.holds Try.pinned (OpenSpec.upto fnExactFoldSharedSpec)

/-- 'laws.FnFoldShared', WHERE WHAT IT READS IS OF BULK AT MOST 1048576: true; the input reads as it did. -/
def fnFoldSharedUptoRow : OpenClaim := { program := "ytakjmdjjpalaiaa", sum := "1e0bdd37ef9f36180ada7d00a8995366ec8f8fd1d899ae37a6e175d46fa87c1e", func := "loop.example/sharedinference/laws.FnFoldShared", spec := "fnFoldShared", unfollowed := true, recurses := true, apart := false, narrowed := true }
def FnFoldSharedUptoSaid : Prop := fnFoldSharedUptoRow.holds Try.pinned (OpenSpec.upto fnFoldSharedSpec)

/-- 'laws.FnExactEdgeMatrix', WHERE WHAT IT READS IS OF BULK AT MOST 1048576: true; the input reads as it did. -/
def fnExactEdgeMatrixUptoRow : OpenClaim := { program := "ytakjmdjjpalaiaa", sum := "1e0bdd37ef9f36180ada7d00a8995366ec8f8fd1d899ae37a6e175d46fa87c1e", func := "loop.example/sharedinference/laws.FnExactEdgeMatrix", spec := "fnExactEdgeMatrix", apart := false, narrowed := true }
def FnExactEdgeMatrixUptoSaid : Prop := fnExactEdgeMatrixUptoRow.holds Try.pinned (OpenSpec.upto fnExactEdgeMatrixSpec)

/-- 'laws.FnEdgeMatrix', WHERE WHAT IT READS IS OF BULK AT MOST 1048576: true; the input reads as it did. -/
def fnEdgeMatrixUptoRow : OpenClaim := { program := "ytakjmdjjpalaiaa", sum := "1e0bdd37ef9f36180ada7d00a8995366ec8f8fd1d899ae37a6e175d46fa87c1e", func := "loop.example/sharedinference/laws.FnEdgeMatrix", spec := "fnEdgeMatrix", apart := false, narrowed := true }
def FnEdgeMatrixUptoSaid : Prop := fnEdgeMatrixUptoRow.holds Try.pinned (OpenSpec.upto fnEdgeMatrixSpec)

end Rows
end Go.Proofs.Ytakjmdjjpalaiaa
