/-
  No cell of these rows narrows 'for every input' (looked for: loops, veiled, ifaces, maps, wideKeys, modest, calm, conditions, laid).
  DERIVED. THE GIVEN ROWS OF THIS SEAT. 11 by the template 'for every input the law returns true; each argument reads behind the call as it read before'; 0 by the template 'total and deterministic' (their statements: YtmgakfbchhefcaaTotals.lean).
  GIVEN WITH THE SEED: the statements are not yours to turn. If you find one false, say at which input.
  Laid BY PROGRAM, IN A SANDBOX (cutbox-rows.mjs): the forced cells as the released guide's own fill.sh prints them over the translation e2e2e4c3f785f53c… (all of the seat's roots in one cut). By AI agents, Wed Nov 11 2026. No macro, syntax, notation, axiom, sorry.
-/
import Derived.Test.YtmgakfbchhefcaaChecked
import GoSem.Claim
import GoSem.ClaimJoined
import GoSem.ClaimMapViews
import Derived.JoinedTies
import Derived.KernelRfl
namespace Go.Proofs.Ytmgakfbchhefcaa
/- THE CELL 'sum', in the pinned program and in every row, IS THE sha256 OF THE DUMP (.gsa) THAT YtmgakfbchhefcaaProg.lean LOADS. Nothing in Lean hashes anything: it is a label: what it is worth is what the hold of that sum in a sandbox is worth. -/
noncomputable def Try.pinned : Pinned := { name := "ytmgakfbchhefcaa", sum := "e2e2e4c3f785f53c6f448bb2f064a658d2ebe9ff0e106cf6dfef6d836f70131d", checked := Try.checked }
namespace Rows
def none {H : Type} : Left H := { results := [], args := [] }

/-- 'laws.FnExactLineStep': WHATEVER THE INPUT: true; the input reads as it did. -/
def fnExactLineStepSpec : ChangeSpec := { name := "fnExactLineStep", fn := fun _ => fun
  | [d1, d2] => { results := [.lit (.bool true)], args := [d1, d2] }
  | _ => none }
def fnExactLineStepRow : OpenClaim := { program := "ytmgakfbchhefcaa", sum := "e2e2e4c3f785f53c6f448bb2f064a658d2ebe9ff0e106cf6dfef6d836f70131d", func := "loop.example/blockboxes/laws.FnExactLineStep", spec := "fnExactLineStep", unfollowed := true, recurses := true, apart := false }
def FnExactLineStepSaid : Prop := fnExactLineStepRow.holds Try.pinned (OpenSpec.ofChange fnExactLineStepSpec)

/-- ITS FALSE NEIGHBOUR: 'it returns false'. Refute it at one input. -/
def fnExactLineStepWrong : ChangeSpec := { name := "fnExactLineStep", fn := fun _ => fun
  | [d1, d2] => { results := [.lit (.bool false)], args := [d1, d2] }
  | _ => none }
def FnExactLineStepWrongFalsely : Prop := fnExactLineStepRow.holds Try.pinned (OpenSpec.ofChange fnExactLineStepWrong)

/-- 'laws.FnLineRun': WHATEVER THE INPUT: true; the input reads as it did. -/
def fnLineRunSpec : ChangeSpec := { name := "fnLineRun", fn := fun _ => fun
  | [d] => { results := [.lit (.bool true)], args := [d] }
  | _ => none }
def fnLineRunRow : OpenClaim := { program := "ytmgakfbchhefcaa", sum := "e2e2e4c3f785f53c6f448bb2f064a658d2ebe9ff0e106cf6dfef6d836f70131d", func := "loop.example/blockboxes/laws.FnLineRun", spec := "fnLineRun", inPlace := ["internal/abi.NoEscape"], unfollowed := true, recurses := true, apart := false }
def FnLineRunSaid : Prop := fnLineRunRow.holds Try.pinned (OpenSpec.ofChange fnLineRunSpec)

/-- ITS FALSE NEIGHBOUR: 'it returns false'. Refute it at one input. -/
def fnLineRunWrong : ChangeSpec := { name := "fnLineRun", fn := fun _ => fun
  | [d] => { results := [.lit (.bool false)], args := [d] }
  | _ => none }
def FnLineRunWrongFalsely : Prop := fnLineRunRow.holds Try.pinned (OpenSpec.ofChange fnLineRunWrong)

/-- 'laws.FnLineNew': WHATEVER THE INPUT: true; the input reads as it did. -/
def fnLineNewSpec : ChangeSpec := { name := "fnLineNew", fn := fun _ => fun
  | [d] => { results := [.lit (.bool true)], args := [d] }
  | _ => none }
def fnLineNewRow : OpenClaim := { program := "ytmgakfbchhefcaa", sum := "e2e2e4c3f785f53c6f448bb2f064a658d2ebe9ff0e106cf6dfef6d836f70131d", func := "loop.example/blockboxes/laws.FnLineNew", spec := "fnLineNew", unfollowed := true, recurses := true, apart := false }
def FnLineNewSaid : Prop := fnLineNewRow.holds Try.pinned (OpenSpec.ofChange fnLineNewSpec)

/-- ITS FALSE NEIGHBOUR: 'it returns false'. Refute it at one input. -/
def fnLineNewWrong : ChangeSpec := { name := "fnLineNew", fn := fun _ => fun
  | [d] => { results := [.lit (.bool false)], args := [d] }
  | _ => none }
def FnLineNewWrongFalsely : Prop := fnLineNewRow.holds Try.pinned (OpenSpec.ofChange fnLineNewWrong)

/-- 'laws.FnExactLineValid': WHATEVER THE INPUT: true; the input reads as it did. -/
def fnExactLineValidSpec : ChangeSpec := { name := "fnExactLineValid", fn := fun _ => fun
  | [d] => { results := [.lit (.bool true)], args := [d] }
  | _ => none }
def fnExactLineValidRow : OpenClaim := { program := "ytmgakfbchhefcaa", sum := "e2e2e4c3f785f53c6f448bb2f064a658d2ebe9ff0e106cf6dfef6d836f70131d", func := "loop.example/blockboxes/laws.FnExactLineValid", spec := "fnExactLineValid", unfollowed := true, recurses := true, apart := false }
def FnExactLineValidSaid : Prop := fnExactLineValidRow.holds Try.pinned (OpenSpec.ofChange fnExactLineValidSpec)

/-- ITS FALSE NEIGHBOUR: 'it returns false'. Refute it at one input. -/
def fnExactLineValidWrong : ChangeSpec := { name := "fnExactLineValid", fn := fun _ => fun
  | [d] => { results := [.lit (.bool false)], args := [d] }
  | _ => none }
def FnExactLineValidWrongFalsely : Prop := fnExactLineValidRow.holds Try.pinned (OpenSpec.ofChange fnExactLineValidWrong)

/-- 'laws.FnExactLineWaits': WHATEVER THE INPUT: true; the input reads as it did. -/
def fnExactLineWaitsSpec : ChangeSpec := { name := "fnExactLineWaits", fn := fun _ => fun
  | [d1, d2] => { results := [.lit (.bool true)], args := [d1, d2] }
  | _ => none }
def fnExactLineWaitsRow : OpenClaim := { program := "ytmgakfbchhefcaa", sum := "e2e2e4c3f785f53c6f448bb2f064a658d2ebe9ff0e106cf6dfef6d836f70131d", func := "loop.example/blockboxes/laws.FnExactLineWaits", spec := "fnExactLineWaits", unfollowed := true, recurses := true, apart := false }
def FnExactLineWaitsSaid : Prop := fnExactLineWaitsRow.holds Try.pinned (OpenSpec.ofChange fnExactLineWaitsSpec)

/-- ITS FALSE NEIGHBOUR: 'it returns false'. Refute it at one input. -/
def fnExactLineWaitsWrong : ChangeSpec := { name := "fnExactLineWaits", fn := fun _ => fun
  | [d1, d2] => { results := [.lit (.bool false)], args := [d1, d2] }
  | _ => none }
def FnExactLineWaitsWrongFalsely : Prop := fnExactLineWaitsRow.holds Try.pinned (OpenSpec.ofChange fnExactLineWaitsWrong)

/-- 'laws.FnExactLineDone': WHATEVER THE INPUT: true; the input reads as it did. -/
def fnExactLineDoneSpec : ChangeSpec := { name := "fnExactLineDone", fn := fun _ => fun
  | [d] => { results := [.lit (.bool true)], args := [d] }
  | _ => none }
def fnExactLineDoneRow : OpenClaim := { program := "ytmgakfbchhefcaa", sum := "e2e2e4c3f785f53c6f448bb2f064a658d2ebe9ff0e106cf6dfef6d836f70131d", func := "loop.example/blockboxes/laws.FnExactLineDone", spec := "fnExactLineDone", unfollowed := true, recurses := true, apart := false }
def FnExactLineDoneSaid : Prop := fnExactLineDoneRow.holds Try.pinned (OpenSpec.ofChange fnExactLineDoneSpec)

/-- ITS FALSE NEIGHBOUR: 'it returns false'. Refute it at one input. -/
def fnExactLineDoneWrong : ChangeSpec := { name := "fnExactLineDone", fn := fun _ => fun
  | [d] => { results := [.lit (.bool false)], args := [d] }
  | _ => none }
def FnExactLineDoneWrongFalsely : Prop := fnExactLineDoneRow.holds Try.pinned (OpenSpec.ofChange fnExactLineDoneWrong)

/-- 'laws.FnExactLineIn': WHATEVER THE INPUT: true; the input reads as it did. -/
def fnExactLineInSpec : ChangeSpec := { name := "fnExactLineIn", fn := fun _ => fun
  | [d1, d2] => { results := [.lit (.bool true)], args := [d1, d2] }
  | _ => none }
def fnExactLineInRow : OpenClaim := { program := "ytmgakfbchhefcaa", sum := "e2e2e4c3f785f53c6f448bb2f064a658d2ebe9ff0e106cf6dfef6d836f70131d", func := "loop.example/blockboxes/laws.FnExactLineIn", spec := "fnExactLineIn", unfollowed := true, recurses := true, apart := false }
def FnExactLineInSaid : Prop := fnExactLineInRow.holds Try.pinned (OpenSpec.ofChange fnExactLineInSpec)

/-- ITS FALSE NEIGHBOUR: 'it returns false'. Refute it at one input. -/
def fnExactLineInWrong : ChangeSpec := { name := "fnExactLineIn", fn := fun _ => fun
  | [d1, d2] => { results := [.lit (.bool false)], args := [d1, d2] }
  | _ => none }
def FnExactLineInWrongFalsely : Prop := fnExactLineInRow.holds Try.pinned (OpenSpec.ofChange fnExactLineInWrong)

/-- 'laws.FnLine': WHATEVER THE INPUT: true; the input reads as it did. -/
def fnLineSpec : ChangeSpec := { name := "fnLine", fn := fun _ => fun
  | [d] => { results := [.lit (.bool true)], args := [d] }
  | _ => none }
def fnLineRow : OpenClaim := { program := "ytmgakfbchhefcaa", sum := "e2e2e4c3f785f53c6f448bb2f064a658d2ebe9ff0e106cf6dfef6d836f70131d", func := "loop.example/blockboxes/laws.FnLine", spec := "fnLine", unfollowed := true, recurses := true, apart := false }
def FnLineSaid : Prop := fnLineRow.holds Try.pinned (OpenSpec.ofChange fnLineSpec)

/-- ITS FALSE NEIGHBOUR: 'it returns false'. Refute it at one input. -/
def fnLineWrong : ChangeSpec := { name := "fnLine", fn := fun _ => fun
  | [d] => { results := [.lit (.bool false)], args := [d] }
  | _ => none }
def FnLineWrongFalsely : Prop := fnLineRow.holds Try.pinned (OpenSpec.ofChange fnLineWrong)

/-- 'laws.FnExactLineLeft': WHATEVER THE INPUT: true; the input reads as it did. -/
def fnExactLineLeftSpec : ChangeSpec := { name := "fnExactLineLeft", fn := fun _ => fun
  | [d] => { results := [.lit (.bool true)], args := [d] }
  | _ => none }
def fnExactLineLeftRow : OpenClaim := { program := "ytmgakfbchhefcaa", sum := "e2e2e4c3f785f53c6f448bb2f064a658d2ebe9ff0e106cf6dfef6d836f70131d", func := "loop.example/blockboxes/laws.FnExactLineLeft", spec := "fnExactLineLeft", unfollowed := true, recurses := true, apart := false }
def FnExactLineLeftSaid : Prop := fnExactLineLeftRow.holds Try.pinned (OpenSpec.ofChange fnExactLineLeftSpec)

/-- ITS FALSE NEIGHBOUR: 'it returns false'. Refute it at one input. -/
def fnExactLineLeftWrong : ChangeSpec := { name := "fnExactLineLeft", fn := fun _ => fun
  | [d] => { results := [.lit (.bool false)], args := [d] }
  | _ => none }
def FnExactLineLeftWrongFalsely : Prop := fnExactLineLeftRow.holds Try.pinned (OpenSpec.ofChange fnExactLineLeftWrong)

/-- 'laws.FnLineWaits': WHATEVER THE INPUT: true; the input reads as it did. -/
def fnLineWaitsSpec : ChangeSpec := { name := "fnLineWaits", fn := fun _ => fun
  | [d] => { results := [.lit (.bool true)], args := [d] }
  | _ => none }
def fnLineWaitsRow : OpenClaim := { program := "ytmgakfbchhefcaa", sum := "e2e2e4c3f785f53c6f448bb2f064a658d2ebe9ff0e106cf6dfef6d836f70131d", func := "loop.example/blockboxes/laws.FnLineWaits", spec := "fnLineWaits", unfollowed := true, recurses := true, apart := false }
def FnLineWaitsSaid : Prop := fnLineWaitsRow.holds Try.pinned (OpenSpec.ofChange fnLineWaitsSpec)

/-- ITS FALSE NEIGHBOUR: 'it returns false'. Refute it at one input. -/
def fnLineWaitsWrong : ChangeSpec := { name := "fnLineWaits", fn := fun _ => fun
  | [d] => { results := [.lit (.bool false)], args := [d] }
  | _ => none }
def FnLineWaitsWrongFalsely : Prop := fnLineWaitsRow.holds Try.pinned (OpenSpec.ofChange fnLineWaitsWrong)

/-- 'laws.FnLineStep': WHATEVER THE INPUT: true; the input reads as it did. -/
def fnLineStepSpec : ChangeSpec := { name := "fnLineStep", fn := fun _ => fun
  | [d] => { results := [.lit (.bool true)], args := [d] }
  | _ => none }
def fnLineStepRow : OpenClaim := { program := "ytmgakfbchhefcaa", sum := "e2e2e4c3f785f53c6f448bb2f064a658d2ebe9ff0e106cf6dfef6d836f70131d", func := "loop.example/blockboxes/laws.FnLineStep", spec := "fnLineStep", unfollowed := true, recurses := true, apart := false }
def FnLineStepSaid : Prop := fnLineStepRow.holds Try.pinned (OpenSpec.ofChange fnLineStepSpec)

/-- ITS FALSE NEIGHBOUR: 'it returns false'. Refute it at one input. -/
def fnLineStepWrong : ChangeSpec := { name := "fnLineStep", fn := fun _ => fun
  | [d] => { results := [.lit (.bool false)], args := [d] }
  | _ => none }
def FnLineStepWrongFalsely : Prop := fnLineStepRow.holds Try.pinned (OpenSpec.ofChange fnLineStepWrong)

/- THE SECOND FORM. 'bulk': how many values and letters a reading holds, each counted each time it is reached (what is shared counts as often as it is met; a slice's spare places count too). A statement '..UptoSaid' is the law's where the arguments, and the package variables that the reading takes, are together of bulk at most 1048576: NARROWER than '..Said'. Prove '..Said' where nothing that the law and all that it calls make is longer than what came in: it says more and counts as full. Else prove '..UptoSaid'. A law counts once. -/
mutual
def uptoBulk {H : Type} : DataW H → Nat
  | .lit (.string bytes) => bytes.length + 1
  | .lit _ => 1
  | .nil => 1
  | .ptr d => uptoBulk d + 1
  | .slice elems spare => uptoBulkAll elems + uptoBulkAll spare + 1
  | .agg parts => uptoBulkAll parts + 1
  | .iface _ d => uptoBulk d + 1
  | .map entries => uptoBulkEntries entries + 1
  | .held _ => 1
def uptoBulkAll {H : Type} : List (DataW H) → Nat
  | [] => 0
  | d :: r => uptoBulk d + uptoBulkAll r
def uptoBulkEntries {H : Type} : List (Lit × DataW H) → Nat
  | [] => 0
  | x :: r => uptoBulkEntry x + uptoBulkEntries r
def uptoBulkEntry {H : Type} : Lit × DataW H → Nat
  | (.string bytes, d) => bytes.length + uptoBulk d + 1
  | (_, d) => uptoBulk d + 1
 end
def uptoSmall : (H : Type) → List (DataW H) → Bool := fun _ ds => decide (uptoBulkAll ds ≤ 1048576)
def OpenSpec.upto (s : _root_.Go.ChangeSpec) : _root_.Go.OpenSpec := { _root_.Go.OpenSpec.ofChange s with cond := some uptoSmall }

/-- 'laws.FnExactLineStep', WHERE WHAT IT READS IS OF BULK AT MOST 1048576: true; the input reads as it did. -/
def fnExactLineStepUptoRow : OpenClaim := { program := "ytmgakfbchhefcaa", sum := "e2e2e4c3f785f53c6f448bb2f064a658d2ebe9ff0e106cf6dfef6d836f70131d", func := "loop.example/blockboxes/laws.FnExactLineStep", spec := "fnExactLineStep", unfollowed := true, recurses := true, apart := false, narrowed := true }
def FnExactLineStepUptoSaid : Prop := fnExactLineStepUptoRow.holds Try.pinned (OpenSpec.upto fnExactLineStepSpec)

/-- 'laws.FnLineRun', WHERE WHAT IT READS IS OF BULK AT MOST 1048576: true; the input reads as it did. -/
def fnLineRunUptoRow : OpenClaim := { program := "ytmgakfbchhefcaa", sum := "e2e2e4c3f785f53c6f448bb2f064a658d2ebe9ff0e106cf6dfef6d836f70131d", func := "loop.example/blockboxes/laws.FnLineRun", spec := "fnLineRun", inPlace := ["internal/abi.NoEscape"], unfollowed := true, recurses := true, apart := false, narrowed := true }
def FnLineRunUptoSaid : Prop := fnLineRunUptoRow.holds Try.pinned (OpenSpec.upto fnLineRunSpec)

/-- 'laws.FnLineNew', WHERE WHAT IT READS IS OF BULK AT MOST 1048576: true; the input reads as it did. -/
def fnLineNewUptoRow : OpenClaim := { program := "ytmgakfbchhefcaa", sum := "e2e2e4c3f785f53c6f448bb2f064a658d2ebe9ff0e106cf6dfef6d836f70131d", func := "loop.example/blockboxes/laws.FnLineNew", spec := "fnLineNew", unfollowed := true, recurses := true, apart := false, narrowed := true }
def FnLineNewUptoSaid : Prop := fnLineNewUptoRow.holds Try.pinned (OpenSpec.upto fnLineNewSpec)

/-- 'laws.FnExactLineValid', WHERE WHAT IT READS IS OF BULK AT MOST 1048576: true; the input reads as it did. -/
def fnExactLineValidUptoRow : OpenClaim := { program := "ytmgakfbchhefcaa", sum := "e2e2e4c3f785f53c6f448bb2f064a658d2ebe9ff0e106cf6dfef6d836f70131d", func := "loop.example/blockboxes/laws.FnExactLineValid", spec := "fnExactLineValid", unfollowed := true, recurses := true, apart := false, narrowed := true }
def FnExactLineValidUptoSaid : Prop := fnExactLineValidUptoRow.holds Try.pinned (OpenSpec.upto fnExactLineValidSpec)

/-- 'laws.FnExactLineWaits', WHERE WHAT IT READS IS OF BULK AT MOST 1048576: true; the input reads as it did. -/
def fnExactLineWaitsUptoRow : OpenClaim := { program := "ytmgakfbchhefcaa", sum := "e2e2e4c3f785f53c6f448bb2f064a658d2ebe9ff0e106cf6dfef6d836f70131d", func := "loop.example/blockboxes/laws.FnExactLineWaits", spec := "fnExactLineWaits", unfollowed := true, recurses := true, apart := false, narrowed := true }
def FnExactLineWaitsUptoSaid : Prop := fnExactLineWaitsUptoRow.holds Try.pinned (OpenSpec.upto fnExactLineWaitsSpec)

/-- 'laws.FnExactLineDone', WHERE WHAT IT READS IS OF BULK AT MOST 1048576: true; the input reads as it did. -/
def fnExactLineDoneUptoRow : OpenClaim := { program := "ytmgakfbchhefcaa", sum := "e2e2e4c3f785f53c6f448bb2f064a658d2ebe9ff0e106cf6dfef6d836f70131d", func := "loop.example/blockboxes/laws.FnExactLineDone", spec := "fnExactLineDone", unfollowed := true, recurses := true, apart := false, narrowed := true }
def FnExactLineDoneUptoSaid : Prop := fnExactLineDoneUptoRow.holds Try.pinned (OpenSpec.upto fnExactLineDoneSpec)

/-- 'laws.FnExactLineIn', WHERE WHAT IT READS IS OF BULK AT MOST 1048576: true; the input reads as it did. -/
def fnExactLineInUptoRow : OpenClaim := { program := "ytmgakfbchhefcaa", sum := "e2e2e4c3f785f53c6f448bb2f064a658d2ebe9ff0e106cf6dfef6d836f70131d", func := "loop.example/blockboxes/laws.FnExactLineIn", spec := "fnExactLineIn", unfollowed := true, recurses := true, apart := false, narrowed := true }
def FnExactLineInUptoSaid : Prop := fnExactLineInUptoRow.holds Try.pinned (OpenSpec.upto fnExactLineInSpec)

/-- 'laws.FnLine', WHERE WHAT IT READS IS OF BULK AT MOST 1048576: true; the input reads as it did. -/
def fnLineUptoRow : OpenClaim := { program := "ytmgakfbchhefcaa", sum := "e2e2e4c3f785f53c6f448bb2f064a658d2ebe9ff0e106cf6dfef6d836f70131d", func := "loop.example/blockboxes/laws.FnLine", spec := "fnLine", unfollowed := true, recurses := true, apart := false, narrowed := true }
def FnLineUptoSaid : Prop := fnLineUptoRow.holds Try.pinned (OpenSpec.upto fnLineSpec)

/-- 'laws.FnExactLineLeft', WHERE WHAT IT READS IS OF BULK AT MOST 1048576: true; the input reads as it did. -/
def fnExactLineLeftUptoRow : OpenClaim := { program := "ytmgakfbchhefcaa", sum := "e2e2e4c3f785f53c6f448bb2f064a658d2ebe9ff0e106cf6dfef6d836f70131d", func := "loop.example/blockboxes/laws.FnExactLineLeft", spec := "fnExactLineLeft", unfollowed := true, recurses := true, apart := false, narrowed := true }
def FnExactLineLeftUptoSaid : Prop := fnExactLineLeftUptoRow.holds Try.pinned (OpenSpec.upto fnExactLineLeftSpec)

/-- 'laws.FnLineWaits', WHERE WHAT IT READS IS OF BULK AT MOST 1048576: true; the input reads as it did. -/
def fnLineWaitsUptoRow : OpenClaim := { program := "ytmgakfbchhefcaa", sum := "e2e2e4c3f785f53c6f448bb2f064a658d2ebe9ff0e106cf6dfef6d836f70131d", func := "loop.example/blockboxes/laws.FnLineWaits", spec := "fnLineWaits", unfollowed := true, recurses := true, apart := false, narrowed := true }
def FnLineWaitsUptoSaid : Prop := fnLineWaitsUptoRow.holds Try.pinned (OpenSpec.upto fnLineWaitsSpec)

/-- 'laws.FnLineStep', WHERE WHAT IT READS IS OF BULK AT MOST 1048576: true; the input reads as it did. -/
def fnLineStepUptoRow : OpenClaim := { program := "ytmgakfbchhefcaa", sum := "e2e2e4c3f785f53c6f448bb2f064a658d2ebe9ff0e106cf6dfef6d836f70131d", func := "loop.example/blockboxes/laws.FnLineStep", spec := "fnLineStep", unfollowed := true, recurses := true, apart := false, narrowed := true }
def FnLineStepUptoSaid : Prop := fnLineStepUptoRow.holds Try.pinned (OpenSpec.upto fnLineStepSpec)

end Rows
end Go.Proofs.Ytmgakfbchhefcaa
