/-
  No cell of these rows narrows 'for every input' (looked for: loops, veiled, ifaces, maps, wideKeys, modest, calm, conditions, laid).
  DERIVED. THE GIVEN ROWS OF THIS SEAT. 8 by the template 'for every input the law returns true; each argument reads behind the call as it read before'; 0 by the template 'total and deterministic' (their statements: YtkfgimhihknpoaaTotals.lean).
  GIVEN WITH THE SEED: the statements are not yours to turn. If you find one false, say at which input.
  Laid BY PROGRAM, IN A SANDBOX (cutbox-rows.mjs): the forced cells as the released guide's own fill.sh prints them over the translation 8d4f7916a5a3b6b8… (all of the seat's roots in one cut). By AI agents, Wed Nov 11 2026. No macro, syntax, notation, axiom, sorry.
-/
import Derived.Test.YtkfgimhihknpoaaChecked
import GoSem.Claim
import GoSem.ClaimJoined
import GoSem.ClaimMapViews
import Derived.JoinedTies
import Derived.KernelRfl
namespace Go.Proofs.Ytkfgimhihknpoaa
/- THE CELL 'sum', in the pinned program and in every row, IS THE sha256 OF THE DUMP (.gsa) THAT YtkfgimhihknpoaaProg.lean LOADS. Nothing in Lean hashes anything: it is a label: what it is worth is what the hold of that sum in a sandbox is worth. -/
noncomputable def Try.pinned : Pinned := { name := "ytkfgimhihknpoaa", sum := "8d4f7916a5a3b6b89acd83792b30a6b547b110a620391b578fabc9d9eb306452", checked := Try.checked }
namespace Rows
def none {H : Type} : Left H := { results := [], args := [] }

/-- 'laws.FnExactTrackWay': WHATEVER THE INPUT: true; the input reads as it did. -/
def fnExactTrackWaySpec : ChangeSpec := { name := "fnExactTrackWay", fn := fun _ => fun
  | [d1, d2] => { results := [.lit (.bool true)], args := [d1, d2] }
  | _ => none }
def fnExactTrackWayRow : OpenClaim := { program := "ytkfgimhihknpoaa", sum := "8d4f7916a5a3b6b89acd83792b30a6b547b110a620391b578fabc9d9eb306452", func := "loop.example/blockboxes/laws.FnExactTrackWay", spec := "fnExactTrackWay", plainKeys := false, apart := false }
def FnExactTrackWaySaid : Prop := fnExactTrackWayRow.holds Try.pinned (OpenSpec.ofChange fnExactTrackWaySpec)

/-- ITS FALSE NEIGHBOUR: 'it returns false'. Refute it at one input. -/
def fnExactTrackWayWrong : ChangeSpec := { name := "fnExactTrackWay", fn := fun _ => fun
  | [d1, d2] => { results := [.lit (.bool false)], args := [d1, d2] }
  | _ => none }
def FnExactTrackWayWrongFalsely : Prop := fnExactTrackWayRow.holds Try.pinned (OpenSpec.ofChange fnExactTrackWayWrong)

/-- 'laws.FnTrackNext': WHATEVER THE INPUT: true; the input reads as it did. -/
def fnTrackNextSpec : ChangeSpec := { name := "fnTrackNext", fn := fun _ => fun
  | [d] => { results := [.lit (.bool true)], args := [d] }
  | _ => none }
def fnTrackNextRow : OpenClaim := { program := "ytkfgimhihknpoaa", sum := "8d4f7916a5a3b6b89acd83792b30a6b547b110a620391b578fabc9d9eb306452", func := "loop.example/blockboxes/laws.FnTrackNext", spec := "fnTrackNext", plainKeys := false, apart := false }
def FnTrackNextSaid : Prop := fnTrackNextRow.holds Try.pinned (OpenSpec.ofChange fnTrackNextSpec)

/-- ITS FALSE NEIGHBOUR: 'it returns false'. Refute it at one input. -/
def fnTrackNextWrong : ChangeSpec := { name := "fnTrackNext", fn := fun _ => fun
  | [d] => { results := [.lit (.bool false)], args := [d] }
  | _ => none }
def FnTrackNextWrongFalsely : Prop := fnTrackNextRow.holds Try.pinned (OpenSpec.ofChange fnTrackNextWrong)

/-- 'laws.FnTrackStep': WHATEVER THE INPUT: true; the input reads as it did. -/
def fnTrackStepSpec : ChangeSpec := { name := "fnTrackStep", fn := fun _ => fun
  | [d] => { results := [.lit (.bool true)], args := [d] }
  | _ => none }
def fnTrackStepRow : OpenClaim := { program := "ytkfgimhihknpoaa", sum := "8d4f7916a5a3b6b89acd83792b30a6b547b110a620391b578fabc9d9eb306452", func := "loop.example/blockboxes/laws.FnTrackStep", spec := "fnTrackStep", plainKeys := false, apart := false }
def FnTrackStepSaid : Prop := fnTrackStepRow.holds Try.pinned (OpenSpec.ofChange fnTrackStepSpec)

/-- ITS FALSE NEIGHBOUR: 'it returns false'. Refute it at one input. -/
def fnTrackStepWrong : ChangeSpec := { name := "fnTrackStep", fn := fun _ => fun
  | [d] => { results := [.lit (.bool false)], args := [d] }
  | _ => none }
def FnTrackStepWrongFalsely : Prop := fnTrackStepRow.holds Try.pinned (OpenSpec.ofChange fnTrackStepWrong)

/-- 'laws.FnTrackWay': WHATEVER THE INPUT: true; the input reads as it did. -/
def fnTrackWaySpec : ChangeSpec := { name := "fnTrackWay", fn := fun _ => fun
  | [d] => { results := [.lit (.bool true)], args := [d] }
  | _ => none }
def fnTrackWayRow : OpenClaim := { program := "ytkfgimhihknpoaa", sum := "8d4f7916a5a3b6b89acd83792b30a6b547b110a620391b578fabc9d9eb306452", func := "loop.example/blockboxes/laws.FnTrackWay", spec := "fnTrackWay", plainKeys := false, apart := false }
def FnTrackWaySaid : Prop := fnTrackWayRow.holds Try.pinned (OpenSpec.ofChange fnTrackWaySpec)

/-- ITS FALSE NEIGHBOUR: 'it returns false'. Refute it at one input. -/
def fnTrackWayWrong : ChangeSpec := { name := "fnTrackWay", fn := fun _ => fun
  | [d] => { results := [.lit (.bool false)], args := [d] }
  | _ => none }
def FnTrackWayWrongFalsely : Prop := fnTrackWayRow.holds Try.pinned (OpenSpec.ofChange fnTrackWayWrong)

/-- 'laws.FnTrackTurn': WHATEVER THE INPUT: true; the input reads as it did. -/
def fnTrackTurnSpec : ChangeSpec := { name := "fnTrackTurn", fn := fun _ => fun
  | [d1, d2] => { results := [.lit (.bool true)], args := [d1, d2] }
  | _ => none }
def fnTrackTurnRow : OpenClaim := { program := "ytkfgimhihknpoaa", sum := "8d4f7916a5a3b6b89acd83792b30a6b547b110a620391b578fabc9d9eb306452", func := "loop.example/blockboxes/laws.FnTrackTurn", spec := "fnTrackTurn", plainKeys := false, apart := false }
def FnTrackTurnSaid : Prop := fnTrackTurnRow.holds Try.pinned (OpenSpec.ofChange fnTrackTurnSpec)

/-- ITS FALSE NEIGHBOUR: 'it returns false'. Refute it at one input. -/
def fnTrackTurnWrong : ChangeSpec := { name := "fnTrackTurn", fn := fun _ => fun
  | [d1, d2] => { results := [.lit (.bool false)], args := [d1, d2] }
  | _ => none }
def FnTrackTurnWrongFalsely : Prop := fnTrackTurnRow.holds Try.pinned (OpenSpec.ofChange fnTrackTurnWrong)

/-- 'laws.FnTrackRun': WHATEVER THE INPUT: true; the input reads as it did. -/
def fnTrackRunSpec : ChangeSpec := { name := "fnTrackRun", fn := fun _ => fun
  | [d] => { results := [.lit (.bool true)], args := [d] }
  | _ => none }
def fnTrackRunRow : OpenClaim := { program := "ytkfgimhihknpoaa", sum := "8d4f7916a5a3b6b89acd83792b30a6b547b110a620391b578fabc9d9eb306452", func := "loop.example/blockboxes/laws.FnTrackRun", spec := "fnTrackRun", plainKeys := false, apart := false }
def FnTrackRunSaid : Prop := fnTrackRunRow.holds Try.pinned (OpenSpec.ofChange fnTrackRunSpec)

/-- ITS FALSE NEIGHBOUR: 'it returns false'. Refute it at one input. -/
def fnTrackRunWrong : ChangeSpec := { name := "fnTrackRun", fn := fun _ => fun
  | [d] => { results := [.lit (.bool false)], args := [d] }
  | _ => none }
def FnTrackRunWrongFalsely : Prop := fnTrackRunRow.holds Try.pinned (OpenSpec.ofChange fnTrackRunWrong)

/-- 'laws.FnTurnedPassed': WHATEVER THE INPUT: true; the input reads as it did. -/
def fnTurnedPassedSpec : ChangeSpec := { name := "fnTurnedPassed", fn := fun _ => fun
  | [d] => { results := [.lit (.bool true)], args := [d] }
  | _ => none }
def fnTurnedPassedRow : OpenClaim := { program := "ytkfgimhihknpoaa", sum := "8d4f7916a5a3b6b89acd83792b30a6b547b110a620391b578fabc9d9eb306452", func := "loop.example/blockboxes/laws.FnTurnedPassed", spec := "fnTurnedPassed", plainKeys := false, apart := false }
def FnTurnedPassedSaid : Prop := fnTurnedPassedRow.holds Try.pinned (OpenSpec.ofChange fnTurnedPassedSpec)

/-- ITS FALSE NEIGHBOUR: 'it returns false'. Refute it at one input. -/
def fnTurnedPassedWrong : ChangeSpec := { name := "fnTurnedPassed", fn := fun _ => fun
  | [d] => { results := [.lit (.bool false)], args := [d] }
  | _ => none }
def FnTurnedPassedWrongFalsely : Prop := fnTurnedPassedRow.holds Try.pinned (OpenSpec.ofChange fnTurnedPassedWrong)

/-- 'laws.FnTrackWayWalk': WHATEVER THE INPUT: true; the input reads as it did. -/
def fnTrackWayWalkSpec : ChangeSpec := { name := "fnTrackWayWalk", fn := fun _ => fun
  | [d] => { results := [.lit (.bool true)], args := [d] }
  | _ => none }
def fnTrackWayWalkRow : OpenClaim := { program := "ytkfgimhihknpoaa", sum := "8d4f7916a5a3b6b89acd83792b30a6b547b110a620391b578fabc9d9eb306452", func := "loop.example/blockboxes/laws.FnTrackWayWalk", spec := "fnTrackWayWalk", plainKeys := false, apart := false }
def FnTrackWayWalkSaid : Prop := fnTrackWayWalkRow.holds Try.pinned (OpenSpec.ofChange fnTrackWayWalkSpec)

/-- ITS FALSE NEIGHBOUR: 'it returns false'. Refute it at one input. -/
def fnTrackWayWalkWrong : ChangeSpec := { name := "fnTrackWayWalk", fn := fun _ => fun
  | [d] => { results := [.lit (.bool false)], args := [d] }
  | _ => none }
def FnTrackWayWalkWrongFalsely : Prop := fnTrackWayWalkRow.holds Try.pinned (OpenSpec.ofChange fnTrackWayWalkWrong)

/- THE SECOND FORM. 'bulk': how many values and letters a reading holds, each counted each time it is reached (what is shared counts as often as it is met; a slice's spare places count too). A statement '..UptoSaid' is the law's where the arguments, and the package variables that the reading takes, are together of bulk at most 1048576: NARROWER than '..Said'. Prove '..Said' where nothing that the law and all that it calls make is longer than what came in: it says more and counts as full. Else prove '..UptoSaid'. A law counts once. -/
mutual
def uptoBulk {H : Type} : DataW H → Nat
  | .lit (.string bytes) => bytes.length + 1
  | .lit _ => 1
  | .nil => 1
  | .ptr d => uptoBulk d + 1
  | .slice elems spare => uptoBulkAll elems + uptoBulkAll spare + 1
  | .agg parts => uptoBulkAll parts + 1
  | .iface _ d => uptoBulk d + 1
  | .map entries => uptoBulkEntries entries + 1
  | .held _ => 1
def uptoBulkAll {H : Type} : List (DataW H) → Nat
  | [] => 0
  | d :: r => uptoBulk d + uptoBulkAll r
def uptoBulkEntries {H : Type} : List (Lit × DataW H) → Nat
  | [] => 0
  | x :: r => uptoBulkEntry x + uptoBulkEntries r
def uptoBulkEntry {H : Type} : Lit × DataW H → Nat
  | (.string bytes, d) => bytes.length + uptoBulk d + 1
  | (_, d) => uptoBulk d + 1
 end
def uptoSmall : (H : Type) → List (DataW H) → Bool := fun _ ds => decide (uptoBulkAll ds ≤ 1048576)
def OpenSpec.upto (s : _root_.Go.ChangeSpec) : _root_.Go.OpenSpec := { _root_.Go.OpenSpec.ofChange s with cond := some uptoSmall }

/-- 'laws.FnExactTrackWay', WHERE WHAT IT READS IS OF BULK AT MOST 1048576: true; the input reads as it did. -/
def fnExactTrackWayUptoRow : OpenClaim := { program := "ytkfgimhihknpoaa", sum := "8d4f7916a5a3b6b89acd83792b30a6b547b110a620391b578fabc9d9eb306452", func := "loop.example/blockboxes/laws.FnExactTrackWay", spec := "fnExactTrackWay", plainKeys := false, apart := false, narrowed := true }
def FnExactTrackWayUptoSaid : Prop := fnExactTrackWayUptoRow.holds Try.pinned (OpenSpec.upto fnExactTrackWaySpec)

/-- 'laws.FnTrackNext', WHERE WHAT IT READS IS OF BULK AT MOST 1048576: true; the input reads as it did. -/
def fnTrackNextUptoRow : OpenClaim := { program := "ytkfgimhihknpoaa", sum := "8d4f7916a5a3b6b89acd83792b30a6b547b110a620391b578fabc9d9eb306452", func := "loop.example/blockboxes/laws.FnTrackNext", spec := "fnTrackNext", plainKeys := false, apart := false, narrowed := true }
def FnTrackNextUptoSaid : Prop := fnTrackNextUptoRow.holds Try.pinned (OpenSpec.upto fnTrackNextSpec)

/-- 'laws.FnTrackStep', WHERE WHAT IT READS IS OF BULK AT MOST 1048576: true; the input reads as it did. -/
def fnTrackStepUptoRow : OpenClaim := { program := "ytkfgimhihknpoaa", sum := "8d4f7916a5a3b6b89acd83792b30a6b547b110a620391b578fabc9d9eb306452", func := "loop.example/blockboxes/laws.FnTrackStep", spec := "fnTrackStep", plainKeys := false, apart := false, narrowed := true }
def FnTrackStepUptoSaid : Prop := fnTrackStepUptoRow.holds Try.pinned (OpenSpec.upto fnTrackStepSpec)

/-- 'laws.FnTrackWay', WHERE WHAT IT READS IS OF BULK AT MOST 1048576: true; the input reads as it did. -/
def fnTrackWayUptoRow : OpenClaim := { program := "ytkfgimhihknpoaa", sum := "8d4f7916a5a3b6b89acd83792b30a6b547b110a620391b578fabc9d9eb306452", func := "loop.example/blockboxes/laws.FnTrackWay", spec := "fnTrackWay", plainKeys := false, apart := false, narrowed := true }
def FnTrackWayUptoSaid : Prop := fnTrackWayUptoRow.holds Try.pinned (OpenSpec.upto fnTrackWaySpec)

/-- 'laws.FnTrackTurn', WHERE WHAT IT READS IS OF BULK AT MOST 1048576: true; the input reads as it did. -/
def fnTrackTurnUptoRow : OpenClaim := { program := "ytkfgimhihknpoaa", sum := "8d4f7916a5a3b6b89acd83792b30a6b547b110a620391b578fabc9d9eb306452", func := "loop.example/blockboxes/laws.FnTrackTurn", spec := "fnTrackTurn", plainKeys := false, apart := false, narrowed := true }
def FnTrackTurnUptoSaid : Prop := fnTrackTurnUptoRow.holds Try.pinned (OpenSpec.upto fnTrackTurnSpec)

/-- 'laws.FnTrackRun', WHERE WHAT IT READS IS OF BULK AT MOST 1048576: true; the input reads as it did. -/
def fnTrackRunUptoRow : OpenClaim := { program := "ytkfgimhihknpoaa", sum := "8d4f7916a5a3b6b89acd83792b30a6b547b110a620391b578fabc9d9eb306452", func := "loop.example/blockboxes/laws.FnTrackRun", spec := "fnTrackRun", plainKeys := false, apart := false, narrowed := true }
def FnTrackRunUptoSaid : Prop := fnTrackRunUptoRow.holds Try.pinned (OpenSpec.upto fnTrackRunSpec)

/-- 'laws.FnTurnedPassed', WHERE WHAT IT READS IS OF BULK AT MOST 1048576: true; the input reads as it did. -/
def fnTurnedPassedUptoRow : OpenClaim := { program := "ytkfgimhihknpoaa", sum := "8d4f7916a5a3b6b89acd83792b30a6b547b110a620391b578fabc9d9eb306452", func := "loop.example/blockboxes/laws.FnTurnedPassed", spec := "fnTurnedPassed", plainKeys := false, apart := false, narrowed := true }
def FnTurnedPassedUptoSaid : Prop := fnTurnedPassedUptoRow.holds Try.pinned (OpenSpec.upto fnTurnedPassedSpec)

/-- 'laws.FnTrackWayWalk', WHERE WHAT IT READS IS OF BULK AT MOST 1048576: true; the input reads as it did. -/
def fnTrackWayWalkUptoRow : OpenClaim := { program := "ytkfgimhihknpoaa", sum := "8d4f7916a5a3b6b89acd83792b30a6b547b110a620391b578fabc9d9eb306452", func := "loop.example/blockboxes/laws.FnTrackWayWalk", spec := "fnTrackWayWalk", plainKeys := false, apart := false, narrowed := true }
def FnTrackWayWalkUptoSaid : Prop := fnTrackWayWalkUptoRow.holds Try.pinned (OpenSpec.upto fnTrackWayWalkSpec)

end Rows
end Go.Proofs.Ytkfgimhihknpoaa
