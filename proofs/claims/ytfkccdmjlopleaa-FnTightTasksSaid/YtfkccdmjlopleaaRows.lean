/-
  No cell of these rows narrows 'for every input' (looked for: loops, veiled, ifaces, maps, wideKeys, modest, calm, conditions, laid).
  DERIVED. THE GIVEN ROWS OF THIS SEAT. 8 by the template 'for every input the law returns true; each argument reads behind the call as it read before'; 0 by the template 'total and deterministic' (their statements: YtfkccdmjlopleaaTotals.lean).
  GIVEN WITH THE SEED: the statements are not yours to turn. If you find one false, say at which input.
  Laid BY PROGRAM, IN A SANDBOX (cutbox-rows.mjs): the forced cells as the released guide's own fill.sh prints them over the translation 36c3e89d3e94205f… (all of the seat's roots in one cut). By AI agents, Wed Nov 11 2026. No macro, syntax, notation, axiom, sorry.
-/
import Derived.Test.YtfkccdmjlopleaaChecked
import GoSem.Claim
import GoSem.ClaimJoined
import GoSem.ClaimMapViews
import Derived.JoinedTies
import Derived.KernelRfl
namespace Go.Proofs.Ytfkccdmjlopleaa
/- THE CELL 'sum', in the pinned program and in every row, IS THE sha256 OF THE DUMP (.gsa) THAT YtfkccdmjlopleaaProg.lean LOADS. Nothing in Lean hashes anything: it is a label: what it is worth is what the hold of that sum in a sandbox is worth. -/
noncomputable def Try.pinned : Pinned := { name := "ytfkccdmjlopleaa", sum := "36c3e89d3e94205f8aa741a8f29a26e2ed638936638581db28a48575789d3311", checked := Try.checked }
namespace Rows
def none {H : Type} : Left H := { results := [], args := [] }

/-- 'laws.FnExactTasksValid': WHATEVER THE INPUT: true; the input reads as it did. -/
def fnExactTasksValidSpec : ChangeSpec := { name := "fnExactTasksValid", fn := fun _ => fun
  | [d] => { results := [.lit (.bool true)], args := [d] }
  | _ => none }
def fnExactTasksValidRow : OpenClaim := { program := "ytfkccdmjlopleaa", sum := "36c3e89d3e94205f8aa741a8f29a26e2ed638936638581db28a48575789d3311", func := "loop.example/sharedinference/laws.FnExactTasksValid", spec := "fnExactTasksValid", apart := false }
def FnExactTasksValidSaid : Prop := fnExactTasksValidRow.holds Try.pinned (OpenSpec.ofChange fnExactTasksValidSpec)

/-- ITS FALSE NEIGHBOUR: 'it returns false'. Refute it at one input. -/
def fnExactTasksValidWrong : ChangeSpec := { name := "fnExactTasksValid", fn := fun _ => fun
  | [d] => { results := [.lit (.bool false)], args := [d] }
  | _ => none }
def FnExactTasksValidWrongFalsely : Prop := fnExactTasksValidRow.holds Try.pinned (OpenSpec.ofChange fnExactTasksValidWrong)

/-- 'laws.FnTasksValid': WHATEVER THE INPUT: true; the input reads as it did. -/
def fnTasksValidSpec : ChangeSpec := { name := "fnTasksValid", fn := fun _ => fun
  | [d] => { results := [.lit (.bool true)], args := [d] }
  | _ => none }
def fnTasksValidRow : OpenClaim := { program := "ytfkccdmjlopleaa", sum := "36c3e89d3e94205f8aa741a8f29a26e2ed638936638581db28a48575789d3311", func := "loop.example/sharedinference/laws.FnTasksValid", spec := "fnTasksValid", apart := false }
def FnTasksValidSaid : Prop := fnTasksValidRow.holds Try.pinned (OpenSpec.ofChange fnTasksValidSpec)

/-- ITS FALSE NEIGHBOUR: 'it returns false'. Refute it at one input. -/
def fnTasksValidWrong : ChangeSpec := { name := "fnTasksValid", fn := fun _ => fun
  | [d] => { results := [.lit (.bool false)], args := [d] }
  | _ => none }
def FnTasksValidWrongFalsely : Prop := fnTasksValidRow.holds Try.pinned (OpenSpec.ofChange fnTasksValidWrong)

/-- 'laws.FnExactTaskRounds': WHATEVER THE INPUT: true; the input reads as it did. -/
def fnExactTaskRoundsSpec : ChangeSpec := { name := "fnExactTaskRounds", fn := fun _ => fun
  | [d] => { results := [.lit (.bool true)], args := [d] }
  | _ => none }
def fnExactTaskRoundsRow : OpenClaim := { program := "ytfkccdmjlopleaa", sum := "36c3e89d3e94205f8aa741a8f29a26e2ed638936638581db28a48575789d3311", func := "loop.example/sharedinference/laws.FnExactTaskRounds", spec := "fnExactTaskRounds", apart := false }
def FnExactTaskRoundsSaid : Prop := fnExactTaskRoundsRow.holds Try.pinned (OpenSpec.ofChange fnExactTaskRoundsSpec)

/-- ITS FALSE NEIGHBOUR: 'it returns false'. Refute it at one input. -/
def fnExactTaskRoundsWrong : ChangeSpec := { name := "fnExactTaskRounds", fn := fun _ => fun
  | [d] => { results := [.lit (.bool false)], args := [d] }
  | _ => none }
def FnExactTaskRoundsWrongFalsely : Prop := fnExactTaskRoundsRow.holds Try.pinned (OpenSpec.ofChange fnExactTaskRoundsWrong)

/-- 'laws.FnTaskRounds': WHATEVER THE INPUT: true; the input reads as it did. -/
def fnTaskRoundsSpec : ChangeSpec := { name := "fnTaskRounds", fn := fun _ => fun
  | [d] => { results := [.lit (.bool true)], args := [d] }
  | _ => none }
def fnTaskRoundsRow : OpenClaim := { program := "ytfkccdmjlopleaa", sum := "36c3e89d3e94205f8aa741a8f29a26e2ed638936638581db28a48575789d3311", func := "loop.example/sharedinference/laws.FnTaskRounds", spec := "fnTaskRounds", apart := false }
def FnTaskRoundsSaid : Prop := fnTaskRoundsRow.holds Try.pinned (OpenSpec.ofChange fnTaskRoundsSpec)

/-- ITS FALSE NEIGHBOUR: 'it returns false'. Refute it at one input. -/
def fnTaskRoundsWrong : ChangeSpec := { name := "fnTaskRounds", fn := fun _ => fun
  | [d] => { results := [.lit (.bool false)], args := [d] }
  | _ => none }
def FnTaskRoundsWrongFalsely : Prop := fnTaskRoundsRow.holds Try.pinned (OpenSpec.ofChange fnTaskRoundsWrong)

/-- 'laws.FnExactLateRounds': WHATEVER THE INPUT: true; the input reads as it did. -/
def fnExactLateRoundsSpec : ChangeSpec := { name := "fnExactLateRounds", fn := fun _ => fun
  | [d] => { results := [.lit (.bool true)], args := [d] }
  | _ => none }
def fnExactLateRoundsRow : OpenClaim := { program := "ytfkccdmjlopleaa", sum := "36c3e89d3e94205f8aa741a8f29a26e2ed638936638581db28a48575789d3311", func := "loop.example/sharedinference/laws.FnExactLateRounds", spec := "fnExactLateRounds", unfollowed := true, recurses := true, apart := false }
def FnExactLateRoundsSaid : Prop := fnExactLateRoundsRow.holds Try.pinned (OpenSpec.ofChange fnExactLateRoundsSpec)

/-- ITS FALSE NEIGHBOUR: 'it returns false'. Refute it at one input. -/
def fnExactLateRoundsWrong : ChangeSpec := { name := "fnExactLateRounds", fn := fun _ => fun
  | [d] => { results := [.lit (.bool false)], args := [d] }
  | _ => none }
def FnExactLateRoundsWrongFalsely : Prop := fnExactLateRoundsRow.holds Try.pinned (OpenSpec.ofChange fnExactLateRoundsWrong)

/-- 'laws.FnLateRounds': WHATEVER THE INPUT: true; the input reads as it did. -/
def fnLateRoundsSpec : ChangeSpec := { name := "fnLateRounds", fn := fun _ => fun
  | [d] => { results := [.lit (.bool true)], args := [d] }
  | _ => none }
def fnLateRoundsRow : OpenClaim := { program := "ytfkccdmjlopleaa", sum := "36c3e89d3e94205f8aa741a8f29a26e2ed638936638581db28a48575789d3311", func := "loop.example/sharedinference/laws.FnLateRounds", spec := "fnLateRounds", unfollowed := true, recurses := true, apart := false }
def FnLateRoundsSaid : Prop := fnLateRoundsRow.holds Try.pinned (OpenSpec.ofChange fnLateRoundsSpec)

/-- ITS FALSE NEIGHBOUR: 'it returns false'. Refute it at one input. -/
def fnLateRoundsWrong : ChangeSpec := { name := "fnLateRounds", fn := fun _ => fun
  | [d] => { results := [.lit (.bool false)], args := [d] }
  | _ => none }
def FnLateRoundsWrongFalsely : Prop := fnLateRoundsRow.holds Try.pinned (OpenSpec.ofChange fnLateRoundsWrong)

/-- 'laws.FnExactTightTasks': WHATEVER THE INPUT: true; the input reads as it did. -/
def fnExactTightTasksSpec : ChangeSpec := { name := "fnExactTightTasks", fn := fun _ => fun
  | [d] => { results := [.lit (.bool true)], args := [d] }
  | _ => none }
def fnExactTightTasksRow : OpenClaim := { program := "ytfkccdmjlopleaa", sum := "36c3e89d3e94205f8aa741a8f29a26e2ed638936638581db28a48575789d3311", func := "loop.example/sharedinference/laws.FnExactTightTasks", spec := "fnExactTightTasks", unfollowed := true, recurses := true, apart := false }
def FnExactTightTasksSaid : Prop := fnExactTightTasksRow.holds Try.pinned (OpenSpec.ofChange fnExactTightTasksSpec)

/-- ITS FALSE NEIGHBOUR: 'it returns false'. Refute it at one input. -/
def fnExactTightTasksWrong : ChangeSpec := { name := "fnExactTightTasks", fn := fun _ => fun
  | [d] => { results := [.lit (.bool false)], args := [d] }
  | _ => none }
def FnExactTightTasksWrongFalsely : Prop := fnExactTightTasksRow.holds Try.pinned (OpenSpec.ofChange fnExactTightTasksWrong)

/-- 'laws.FnTightTasks': WHATEVER THE INPUT: true; the input reads as it did. -/
def fnTightTasksSpec : ChangeSpec := { name := "fnTightTasks", fn := fun _ => fun
  | [d] => { results := [.lit (.bool true)], args := [d] }
  | _ => none }
def fnTightTasksRow : OpenClaim := { program := "ytfkccdmjlopleaa", sum := "36c3e89d3e94205f8aa741a8f29a26e2ed638936638581db28a48575789d3311", func := "loop.example/sharedinference/laws.FnTightTasks", spec := "fnTightTasks", unfollowed := true, recurses := true, apart := false }
def FnTightTasksSaid : Prop := fnTightTasksRow.holds Try.pinned (OpenSpec.ofChange fnTightTasksSpec)

/-- ITS FALSE NEIGHBOUR: 'it returns false'. Refute it at one input. -/
def fnTightTasksWrong : ChangeSpec := { name := "fnTightTasks", fn := fun _ => fun
  | [d] => { results := [.lit (.bool false)], args := [d] }
  | _ => none }
def FnTightTasksWrongFalsely : Prop := fnTightTasksRow.holds Try.pinned (OpenSpec.ofChange fnTightTasksWrong)

/- THE SECOND FORM. 'bulk': how many values and letters a reading holds, each counted each time it is reached (what is shared counts as often as it is met; a slice's spare places count too). A statement '..UptoSaid' is the law's where the arguments, and the package variables that the reading takes, are together of bulk at most 1048576: NARROWER than '..Said'. Prove '..Said' where nothing that the law and all that it calls make is longer than what came in: it says more and counts as full. Else prove '..UptoSaid'. A law counts once. -/
mutual
def uptoBulk {H : Type} : DataW H → Nat
  | .lit (.string bytes) => bytes.length + 1
  | .lit _ => 1
  | .nil => 1
  | .ptr d => uptoBulk d + 1
  | .slice elems spare => uptoBulkAll elems + uptoBulkAll spare + 1
  | .agg parts => uptoBulkAll parts + 1
  | .iface _ d => uptoBulk d + 1
  | .map entries => uptoBulkEntries entries + 1
  | .held _ => 1
def uptoBulkAll {H : Type} : List (DataW H) → Nat
  | [] => 0
  | d :: r => uptoBulk d + uptoBulkAll r
def uptoBulkEntries {H : Type} : List (Lit × DataW H) → Nat
  | [] => 0
  | x :: r => uptoBulkEntry x + uptoBulkEntries r
def uptoBulkEntry {H : Type} : Lit × DataW H → Nat
  | (.string bytes, d) => bytes.length + uptoBulk d + 1
  | (_, d) => uptoBulk d + 1
 end
def uptoSmall : (H : Type) → List (DataW H) → Bool := fun _ ds => decide (uptoBulkAll ds ≤ 1048576)
def OpenSpec.upto (s : _root_.Go.ChangeSpec) : _root_.Go.OpenSpec := { _root_.Go.OpenSpec.ofChange s with cond := some uptoSmall }

/-- 'laws.FnExactTasksValid', WHERE WHAT IT READS IS OF BULK AT MOST 1048576: true; the input reads as it did. -/
def fnExactTasksValidUptoRow : OpenClaim := { program := "ytfkccdmjlopleaa", sum := "36c3e89d3e94205f8aa741a8f29a26e2ed638936638581db28a48575789d3311", func := "loop.example/sharedinference/laws.FnExactTasksValid", spec := "fnExactTasksValid", apart := false, narrowed := true }
def FnExactTasksValidUptoSaid : Prop := fnExactTasksValidUptoRow.holds Try.pinned (OpenSpec.upto fnExactTasksValidSpec)

/-- 'laws.FnTasksValid', WHERE WHAT IT READS IS OF BULK AT MOST 1048576: true; the input reads as it did. -/
def fnTasksValidUptoRow : OpenClaim := { program := "ytfkccdmjlopleaa", sum := "36c3e89d3e94205f8aa741a8f29a26e2ed638936638581db28a48575789d3311", func := "loop.example/sharedinference/laws.FnTasksValid", spec := "fnTasksValid", apart := false, narrowed := true }
def FnTasksValidUptoSaid : Prop := fnTasksValidUptoRow.holds Try.pinned (OpenSpec.upto fnTasksValidSpec)

/-- 'laws.FnExactTaskRounds', WHERE WHAT IT READS IS OF BULK AT MOST 1048576: true; the input reads as it did. -/
def fnExactTaskRoundsUptoRow : OpenClaim := { program := "ytfkccdmjlopleaa", sum := "36c3e89d3e94205f8aa741a8f29a26e2ed638936638581db28a48575789d3311", func := "loop.example/sharedinference/laws.FnExactTaskRounds", spec := "fnExactTaskRounds", apart := false, narrowed := true }
def FnExactTaskRoundsUptoSaid : Prop := fnExactTaskRoundsUptoRow.holds Try.pinned (OpenSpec.upto fnExactTaskRoundsSpec)

/-- 'laws.FnTaskRounds', WHERE WHAT IT READS IS OF BULK AT MOST 1048576: true; the input reads as it did. -/
def fnTaskRoundsUptoRow : OpenClaim := { program := "ytfkccdmjlopleaa", sum := "36c3e89d3e94205f8aa741a8f29a26e2ed638936638581db28a48575789d3311", func := "loop.example/sharedinference/laws.FnTaskRounds", spec := "fnTaskRounds", apart := false, narrowed := true }
def FnTaskRoundsUptoSaid : Prop := fnTaskRoundsUptoRow.holds Try.pinned (OpenSpec.upto fnTaskRoundsSpec)

/-- 'laws.FnExactLateRounds', WHERE WHAT IT READS IS OF BULK AT MOST 1048576: true; the input reads as it did. -/
def fnExactLateRoundsUptoRow : OpenClaim := { program := "ytfkccdmjlopleaa", sum := "36c3e89d3e94205f8aa741a8f29a26e2ed638936638581db28a48575789d3311", func := "loop.example/sharedinference/laws.FnExactLateRounds", spec := "fnExactLateRounds", unfollowed := true, recurses := true, apart := false, narrowed := true }
def FnExactLateRoundsUptoSaid : Prop := fnExactLateRoundsUptoRow.holds Try.pinned (OpenSpec.upto fnExactLateRoundsSpec)

/-- 'laws.FnLateRounds', WHERE WHAT IT READS IS OF BULK AT MOST 1048576: true; the input reads as it did. -/
def fnLateRoundsUptoRow : OpenClaim := { program := "ytfkccdmjlopleaa", sum := "36c3e89d3e94205f8aa741a8f29a26e2ed638936638581db28a48575789d3311", func := "loop.example/sharedinference/laws.FnLateRounds", spec := "fnLateRounds", unfollowed := true, recurses := true, apart := false, narrowed := true }
def FnLateRoundsUptoSaid : Prop := fnLateRoundsUptoRow.holds Try.pinned (OpenSpec.upto fnLateRoundsSpec)

/-- 'laws.FnExactTightTasks', WHERE WHAT IT READS IS OF BULK AT MOST 1048576: true; the input reads as it did. -/
def fnExactTightTasksUptoRow : OpenClaim := { program := "ytfkccdmjlopleaa", sum := "36c3e89d3e94205f8aa741a8f29a26e2ed638936638581db28a48575789d3311", func := "loop.example/sharedinference/laws.FnExactTightTasks", spec := "fnExactTightTasks", unfollowed := true, recurses := true, apart := false, narrowed := true }
def FnExactTightTasksUptoSaid : Prop := fnExactTightTasksUptoRow.holds Try.pinned (OpenSpec.upto fnExactTightTasksSpec)

/-- 'laws.FnTightTasks', WHERE WHAT IT READS IS OF BULK AT MOST 1048576: true; the input reads as it did. -/
def fnTightTasksUptoRow : OpenClaim := { program := "ytfkccdmjlopleaa", sum := "36c3e89d3e94205f8aa741a8f29a26e2ed638936638581db28a48575789d3311", func := "loop.example/sharedinference/laws.FnTightTasks", spec := "fnTightTasks", unfollowed := true, recurses := true, apart := false, narrowed := true }
def FnTightTasksUptoSaid : Prop := fnTightTasksUptoRow.holds Try.pinned (OpenSpec.upto fnTightTasksSpec)

end Rows
end Go.Proofs.Ytfkccdmjlopleaa
