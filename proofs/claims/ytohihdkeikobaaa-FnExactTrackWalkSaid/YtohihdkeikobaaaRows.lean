/-
  No cell of these rows narrows 'for every input' (looked for: loops, veiled, ifaces, maps, wideKeys, modest, calm, conditions, laid).
  DERIVED. THE GIVEN ROWS OF THIS SEAT. 9 by the template 'for every input the law returns true; each argument reads behind the call as it read before'; 0 by the template 'total and deterministic' (their statements: YtohihdkeikobaaaTotals.lean).
  GIVEN WITH THE SEED: the statements are not yours to turn. If you find one false, say at which input.
  Laid BY PROGRAM, IN A SANDBOX (cutbox-rows.mjs): the forced cells as the released guide's own fill.sh prints them over the translation 305b39ce358587ad… (all of the seat's roots in one cut). By AI agents, Wed Nov 11 2026. No macro, syntax, notation, axiom, sorry.
-/
import Derived.Test.YtohihdkeikobaaaChecked
import GoSem.Claim
import GoSem.ClaimJoined
import GoSem.ClaimMapViews
import Derived.JoinedTies
import Derived.KernelRfl
namespace Go.Proofs.Ytohihdkeikobaaa
/- THE CELL 'sum', in the pinned program and in every row, IS THE sha256 OF THE DUMP (.gsa) THAT YtohihdkeikobaaaProg.lean LOADS. Nothing in Lean hashes anything: it is a label: what it is worth is what the hold of that sum in a sandbox is worth. -/
noncomputable def Try.pinned : Pinned := { name := "ytohihdkeikobaaa", sum := "305b39ce358587adaac712d56fdd4dc685d3ad7b0b936867ab5363e4f86f205c", checked := Try.checked }
namespace Rows
def none {H : Type} : Left H := { results := [], args := [] }

/-- 'laws.FnExactTrackValid': WHATEVER THE INPUT: true; the input reads as it did. -/
def fnExactTrackValidSpec : ChangeSpec := { name := "fnExactTrackValid", fn := fun _ => fun
  | [d] => { results := [.lit (.bool true)], args := [d] }
  | _ => none }
def fnExactTrackValidRow : OpenClaim := { program := "ytohihdkeikobaaa", sum := "305b39ce358587adaac712d56fdd4dc685d3ad7b0b936867ab5363e4f86f205c", func := "loop.example/blockboxes/laws.FnExactTrackValid", spec := "fnExactTrackValid", plainKeys := false, apart := false }
def FnExactTrackValidSaid : Prop := fnExactTrackValidRow.holds Try.pinned (OpenSpec.ofChange fnExactTrackValidSpec)

/-- ITS FALSE NEIGHBOUR: 'it returns false'. Refute it at one input. -/
def fnExactTrackValidWrong : ChangeSpec := { name := "fnExactTrackValid", fn := fun _ => fun
  | [d] => { results := [.lit (.bool false)], args := [d] }
  | _ => none }
def FnExactTrackValidWrongFalsely : Prop := fnExactTrackValidRow.holds Try.pinned (OpenSpec.ofChange fnExactTrackValidWrong)

/-- 'laws.FnExactTrackBlocks': WHATEVER THE INPUT: true; the input reads as it did. -/
def fnExactTrackBlocksSpec : ChangeSpec := { name := "fnExactTrackBlocks", fn := fun _ => fun
  | [d] => { results := [.lit (.bool true)], args := [d] }
  | _ => none }
def fnExactTrackBlocksRow : OpenClaim := { program := "ytohihdkeikobaaa", sum := "305b39ce358587adaac712d56fdd4dc685d3ad7b0b936867ab5363e4f86f205c", func := "loop.example/blockboxes/laws.FnExactTrackBlocks", spec := "fnExactTrackBlocks", plainKeys := false, apart := false }
def FnExactTrackBlocksSaid : Prop := fnExactTrackBlocksRow.holds Try.pinned (OpenSpec.ofChange fnExactTrackBlocksSpec)

/-- ITS FALSE NEIGHBOUR: 'it returns false'. Refute it at one input. -/
def fnExactTrackBlocksWrong : ChangeSpec := { name := "fnExactTrackBlocks", fn := fun _ => fun
  | [d] => { results := [.lit (.bool false)], args := [d] }
  | _ => none }
def FnExactTrackBlocksWrongFalsely : Prop := fnExactTrackBlocksRow.holds Try.pinned (OpenSpec.ofChange fnExactTrackBlocksWrong)

/-- 'laws.FnExactTrackTurn': WHATEVER THE INPUT: true; the input reads as it did. -/
def fnExactTrackTurnSpec : ChangeSpec := { name := "fnExactTrackTurn", fn := fun _ => fun
  | [d] => { results := [.lit (.bool true)], args := [d] }
  | _ => none }
def fnExactTrackTurnRow : OpenClaim := { program := "ytohihdkeikobaaa", sum := "305b39ce358587adaac712d56fdd4dc685d3ad7b0b936867ab5363e4f86f205c", func := "loop.example/blockboxes/laws.FnExactTrackTurn", spec := "fnExactTrackTurn", plainKeys := false, apart := false }
def FnExactTrackTurnSaid : Prop := fnExactTrackTurnRow.holds Try.pinned (OpenSpec.ofChange fnExactTrackTurnSpec)

/-- ITS FALSE NEIGHBOUR: 'it returns false'. Refute it at one input. -/
def fnExactTrackTurnWrong : ChangeSpec := { name := "fnExactTrackTurn", fn := fun _ => fun
  | [d] => { results := [.lit (.bool false)], args := [d] }
  | _ => none }
def FnExactTrackTurnWrongFalsely : Prop := fnExactTrackTurnRow.holds Try.pinned (OpenSpec.ofChange fnExactTrackTurnWrong)

/-- 'laws.FnExactTrackStep': WHATEVER THE INPUT: true; the input reads as it did. -/
def fnExactTrackStepSpec : ChangeSpec := { name := "fnExactTrackStep", fn := fun _ => fun
  | [d1, d2] => { results := [.lit (.bool true)], args := [d1, d2] }
  | _ => none }
def fnExactTrackStepRow : OpenClaim := { program := "ytohihdkeikobaaa", sum := "305b39ce358587adaac712d56fdd4dc685d3ad7b0b936867ab5363e4f86f205c", func := "loop.example/blockboxes/laws.FnExactTrackStep", spec := "fnExactTrackStep", plainKeys := false, apart := false }
def FnExactTrackStepSaid : Prop := fnExactTrackStepRow.holds Try.pinned (OpenSpec.ofChange fnExactTrackStepSpec)

/-- ITS FALSE NEIGHBOUR: 'it returns false'. Refute it at one input. -/
def fnExactTrackStepWrong : ChangeSpec := { name := "fnExactTrackStep", fn := fun _ => fun
  | [d1, d2] => { results := [.lit (.bool false)], args := [d1, d2] }
  | _ => none }
def FnExactTrackStepWrongFalsely : Prop := fnExactTrackStepRow.holds Try.pinned (OpenSpec.ofChange fnExactTrackStepWrong)

/-- 'laws.FnExactTrackNext': WHATEVER THE INPUT: true; the input reads as it did. -/
def fnExactTrackNextSpec : ChangeSpec := { name := "fnExactTrackNext", fn := fun _ => fun
  | [d] => { results := [.lit (.bool true)], args := [d] }
  | _ => none }
def fnExactTrackNextRow : OpenClaim := { program := "ytohihdkeikobaaa", sum := "305b39ce358587adaac712d56fdd4dc685d3ad7b0b936867ab5363e4f86f205c", func := "loop.example/blockboxes/laws.FnExactTrackNext", spec := "fnExactTrackNext", plainKeys := false, apart := false }
def FnExactTrackNextSaid : Prop := fnExactTrackNextRow.holds Try.pinned (OpenSpec.ofChange fnExactTrackNextSpec)

/-- ITS FALSE NEIGHBOUR: 'it returns false'. Refute it at one input. -/
def fnExactTrackNextWrong : ChangeSpec := { name := "fnExactTrackNext", fn := fun _ => fun
  | [d] => { results := [.lit (.bool false)], args := [d] }
  | _ => none }
def FnExactTrackNextWrongFalsely : Prop := fnExactTrackNextRow.holds Try.pinned (OpenSpec.ofChange fnExactTrackNextWrong)

/-- 'laws.FnExactTrackWay': WHATEVER THE INPUT: true; the input reads as it did. -/
def fnExactTrackWaySpec : ChangeSpec := { name := "fnExactTrackWay", fn := fun _ => fun
  | [d1, d2] => { results := [.lit (.bool true)], args := [d1, d2] }
  | _ => none }
def fnExactTrackWayRow : OpenClaim := { program := "ytohihdkeikobaaa", sum := "305b39ce358587adaac712d56fdd4dc685d3ad7b0b936867ab5363e4f86f205c", func := "loop.example/blockboxes/laws.FnExactTrackWay", spec := "fnExactTrackWay", plainKeys := false, apart := false }
def FnExactTrackWaySaid : Prop := fnExactTrackWayRow.holds Try.pinned (OpenSpec.ofChange fnExactTrackWaySpec)

/-- ITS FALSE NEIGHBOUR: 'it returns false'. Refute it at one input. -/
def fnExactTrackWayWrong : ChangeSpec := { name := "fnExactTrackWay", fn := fun _ => fun
  | [d1, d2] => { results := [.lit (.bool false)], args := [d1, d2] }
  | _ => none }
def FnExactTrackWayWrongFalsely : Prop := fnExactTrackWayRow.holds Try.pinned (OpenSpec.ofChange fnExactTrackWayWrong)

/-- 'laws.FnExactTrackRun': WHATEVER THE INPUT: true; the input reads as it did. -/
def fnExactTrackRunSpec : ChangeSpec := { name := "fnExactTrackRun", fn := fun _ => fun
  | [d1, d2] => { results := [.lit (.bool true)], args := [d1, d2] }
  | _ => none }
def fnExactTrackRunRow : OpenClaim := { program := "ytohihdkeikobaaa", sum := "305b39ce358587adaac712d56fdd4dc685d3ad7b0b936867ab5363e4f86f205c", func := "loop.example/blockboxes/laws.FnExactTrackRun", spec := "fnExactTrackRun", plainKeys := false, apart := false }
def FnExactTrackRunSaid : Prop := fnExactTrackRunRow.holds Try.pinned (OpenSpec.ofChange fnExactTrackRunSpec)

/-- ITS FALSE NEIGHBOUR: 'it returns false'. Refute it at one input. -/
def fnExactTrackRunWrong : ChangeSpec := { name := "fnExactTrackRun", fn := fun _ => fun
  | [d1, d2] => { results := [.lit (.bool false)], args := [d1, d2] }
  | _ => none }
def FnExactTrackRunWrongFalsely : Prop := fnExactTrackRunRow.holds Try.pinned (OpenSpec.ofChange fnExactTrackRunWrong)

/-- 'laws.FnExactTrackWalk': WHATEVER THE INPUT: true; the input reads as it did. -/
def fnExactTrackWalkSpec : ChangeSpec := { name := "fnExactTrackWalk", fn := fun _ => fun
  | [d] => { results := [.lit (.bool true)], args := [d] }
  | _ => none }
def fnExactTrackWalkRow : OpenClaim := { program := "ytohihdkeikobaaa", sum := "305b39ce358587adaac712d56fdd4dc685d3ad7b0b936867ab5363e4f86f205c", func := "loop.example/blockboxes/laws.FnExactTrackWalk", spec := "fnExactTrackWalk", plainKeys := false, apart := false }
def FnExactTrackWalkSaid : Prop := fnExactTrackWalkRow.holds Try.pinned (OpenSpec.ofChange fnExactTrackWalkSpec)

/-- ITS FALSE NEIGHBOUR: 'it returns false'. Refute it at one input. -/
def fnExactTrackWalkWrong : ChangeSpec := { name := "fnExactTrackWalk", fn := fun _ => fun
  | [d] => { results := [.lit (.bool false)], args := [d] }
  | _ => none }
def FnExactTrackWalkWrongFalsely : Prop := fnExactTrackWalkRow.holds Try.pinned (OpenSpec.ofChange fnExactTrackWalkWrong)

/-- 'laws.FnExactTrackPassed': WHATEVER THE INPUT: true; the input reads as it did. -/
def fnExactTrackPassedSpec : ChangeSpec := { name := "fnExactTrackPassed", fn := fun _ => fun
  | [d] => { results := [.lit (.bool true)], args := [d] }
  | _ => none }
def fnExactTrackPassedRow : OpenClaim := { program := "ytohihdkeikobaaa", sum := "305b39ce358587adaac712d56fdd4dc685d3ad7b0b936867ab5363e4f86f205c", func := "loop.example/blockboxes/laws.FnExactTrackPassed", spec := "fnExactTrackPassed", plainKeys := false, apart := false }
def FnExactTrackPassedSaid : Prop := fnExactTrackPassedRow.holds Try.pinned (OpenSpec.ofChange fnExactTrackPassedSpec)

/-- ITS FALSE NEIGHBOUR: 'it returns false'. Refute it at one input. -/
def fnExactTrackPassedWrong : ChangeSpec := { name := "fnExactTrackPassed", fn := fun _ => fun
  | [d] => { results := [.lit (.bool false)], args := [d] }
  | _ => none }
def FnExactTrackPassedWrongFalsely : Prop := fnExactTrackPassedRow.holds Try.pinned (OpenSpec.ofChange fnExactTrackPassedWrong)

/- THE SECOND FORM. 'bulk': how many values and letters a reading holds, each counted each time it is reached (what is shared counts as often as it is met; a slice's spare places count too). A statement '..UptoSaid' is the law's where the arguments, and the package variables that the reading takes, are together of bulk at most 1048576: NARROWER than '..Said'. Prove '..Said' where nothing that the law and all that it calls make is longer than what came in: it says more and counts as full. Else prove '..UptoSaid'. A law counts once. -/
mutual
def uptoBulk {H : Type} : DataW H → Nat
  | .lit (.string bytes) => bytes.length + 1
  | .lit _ => 1
  | .nil => 1
  | .ptr d => uptoBulk d + 1
  | .slice elems spare => uptoBulkAll elems + uptoBulkAll spare + 1
  | .agg parts => uptoBulkAll parts + 1
  | .iface _ d => uptoBulk d + 1
  | .map entries => uptoBulkEntries entries + 1
  | .held _ => 1
def uptoBulkAll {H : Type} : List (DataW H) → Nat
  | [] => 0
  | d :: r => uptoBulk d + uptoBulkAll r
def uptoBulkEntries {H : Type} : List (Lit × DataW H) → Nat
  | [] => 0
  | x :: r => uptoBulkEntry x + uptoBulkEntries r
def uptoBulkEntry {H : Type} : Lit × DataW H → Nat
  | (.string bytes, d) => bytes.length + uptoBulk d + 1
  | (_, d) => uptoBulk d + 1
 end
def uptoSmall : (H : Type) → List (DataW H) → Bool := fun _ ds => decide (uptoBulkAll ds ≤ 1048576)
def OpenSpec.upto (s : _root_.Go.ChangeSpec) : _root_.Go.OpenSpec := { _root_.Go.OpenSpec.ofChange s with cond := some uptoSmall }

/-- 'laws.FnExactTrackValid', WHERE WHAT IT READS IS OF BULK AT MOST 1048576: true; the input reads as it did. -/
def fnExactTrackValidUptoRow : OpenClaim := { program := "ytohihdkeikobaaa", sum := "305b39ce358587adaac712d56fdd4dc685d3ad7b0b936867ab5363e4f86f205c", func := "loop.example/blockboxes/laws.FnExactTrackValid", spec := "fnExactTrackValid", plainKeys := false, apart := false, narrowed := true }
def FnExactTrackValidUptoSaid : Prop := fnExactTrackValidUptoRow.holds Try.pinned (OpenSpec.upto fnExactTrackValidSpec)

/-- 'laws.FnExactTrackBlocks', WHERE WHAT IT READS IS OF BULK AT MOST 1048576: true; the input reads as it did. -/
def fnExactTrackBlocksUptoRow : OpenClaim := { program := "ytohihdkeikobaaa", sum := "305b39ce358587adaac712d56fdd4dc685d3ad7b0b936867ab5363e4f86f205c", func := "loop.example/blockboxes/laws.FnExactTrackBlocks", spec := "fnExactTrackBlocks", plainKeys := false, apart := false, narrowed := true }
def FnExactTrackBlocksUptoSaid : Prop := fnExactTrackBlocksUptoRow.holds Try.pinned (OpenSpec.upto fnExactTrackBlocksSpec)

/-- 'laws.FnExactTrackTurn', WHERE WHAT IT READS IS OF BULK AT MOST 1048576: true; the input reads as it did. -/
def fnExactTrackTurnUptoRow : OpenClaim := { program := "ytohihdkeikobaaa", sum := "305b39ce358587adaac712d56fdd4dc685d3ad7b0b936867ab5363e4f86f205c", func := "loop.example/blockboxes/laws.FnExactTrackTurn", spec := "fnExactTrackTurn", plainKeys := false, apart := false, narrowed := true }
def FnExactTrackTurnUptoSaid : Prop := fnExactTrackTurnUptoRow.holds Try.pinned (OpenSpec.upto fnExactTrackTurnSpec)

/-- 'laws.FnExactTrackStep', WHERE WHAT IT READS IS OF BULK AT MOST 1048576: true; the input reads as it did. -/
def fnExactTrackStepUptoRow : OpenClaim := { program := "ytohihdkeikobaaa", sum := "305b39ce358587adaac712d56fdd4dc685d3ad7b0b936867ab5363e4f86f205c", func := "loop.example/blockboxes/laws.FnExactTrackStep", spec := "fnExactTrackStep", plainKeys := false, apart := false, narrowed := true }
def FnExactTrackStepUptoSaid : Prop := fnExactTrackStepUptoRow.holds Try.pinned (OpenSpec.upto fnExactTrackStepSpec)

/-- 'laws.FnExactTrackNext', WHERE WHAT IT READS IS OF BULK AT MOST 1048576: true; the input reads as it did. -/
def fnExactTrackNextUptoRow : OpenClaim := { program := "ytohihdkeikobaaa", sum := "305b39ce358587adaac712d56fdd4dc685d3ad7b0b936867ab5363e4f86f205c", func := "loop.example/blockboxes/laws.FnExactTrackNext", spec := "fnExactTrackNext", plainKeys := false, apart := false, narrowed := true }
def FnExactTrackNextUptoSaid : Prop := fnExactTrackNextUptoRow.holds Try.pinned (OpenSpec.upto fnExactTrackNextSpec)

/-- 'laws.FnExactTrackWay', WHERE WHAT IT READS IS OF BULK AT MOST 1048576: true; the input reads as it did. -/
def fnExactTrackWayUptoRow : OpenClaim := { program := "ytohihdkeikobaaa", sum := "305b39ce358587adaac712d56fdd4dc685d3ad7b0b936867ab5363e4f86f205c", func := "loop.example/blockboxes/laws.FnExactTrackWay", spec := "fnExactTrackWay", plainKeys := false, apart := false, narrowed := true }
def FnExactTrackWayUptoSaid : Prop := fnExactTrackWayUptoRow.holds Try.pinned (OpenSpec.upto fnExactTrackWaySpec)

/-- 'laws.FnExactTrackRun', WHERE WHAT IT READS IS OF BULK AT MOST 1048576: true; the input reads as it did. -/
def fnExactTrackRunUptoRow : OpenClaim := { program := "ytohihdkeikobaaa", sum := "305b39ce358587adaac712d56fdd4dc685d3ad7b0b936867ab5363e4f86f205c", func := "loop.example/blockboxes/laws.FnExactTrackRun", spec := "fnExactTrackRun", plainKeys := false, apart := false, narrowed := true }
def FnExactTrackRunUptoSaid : Prop := fnExactTrackRunUptoRow.holds Try.pinned (OpenSpec.upto fnExactTrackRunSpec)

/-- 'laws.FnExactTrackWalk', WHERE WHAT IT READS IS OF BULK AT MOST 1048576: true; the input reads as it did. -/
def fnExactTrackWalkUptoRow : OpenClaim := { program := "ytohihdkeikobaaa", sum := "305b39ce358587adaac712d56fdd4dc685d3ad7b0b936867ab5363e4f86f205c", func := "loop.example/blockboxes/laws.FnExactTrackWalk", spec := "fnExactTrackWalk", plainKeys := false, apart := false, narrowed := true }
def FnExactTrackWalkUptoSaid : Prop := fnExactTrackWalkUptoRow.holds Try.pinned (OpenSpec.upto fnExactTrackWalkSpec)

/-- 'laws.FnExactTrackPassed', WHERE WHAT IT READS IS OF BULK AT MOST 1048576: true; the input reads as it did. -/
def fnExactTrackPassedUptoRow : OpenClaim := { program := "ytohihdkeikobaaa", sum := "305b39ce358587adaac712d56fdd4dc685d3ad7b0b936867ab5363e4f86f205c", func := "loop.example/blockboxes/laws.FnExactTrackPassed", spec := "fnExactTrackPassed", plainKeys := false, apart := false, narrowed := true }
def FnExactTrackPassedUptoSaid : Prop := fnExactTrackPassedUptoRow.holds Try.pinned (OpenSpec.upto fnExactTrackPassedSpec)

end Rows
end Go.Proofs.Ytohihdkeikobaaa
