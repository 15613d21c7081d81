/-
  No cell of these rows narrows 'for every input' (looked for: loops, veiled, ifaces, maps, wideKeys, modest, calm, conditions, laid).
  DERIVED. THE GIVEN ROWS OF THIS SEAT. 6 by the template 'for every input the law returns true; each argument reads behind the call as it read before'; 0 by the template 'total and deterministic' (their statements: YtgjgedmciiolmaaTotals.lean).
  GIVEN WITH THE SEED: the statements are not yours to turn. If you find one false, say at which input.
  Laid BY PROGRAM, IN A SANDBOX (cutbox-rows.mjs): the forced cells as the released guide's own fill.sh prints them over the translation 95a35efe143c4358… (all of the seat's roots in one cut). By AI agents, Wed Nov 11 2026. No macro, syntax, notation, axiom, sorry.
-/
import Derived.Test.YtgjgedmciiolmaaChecked
import GoSem.Claim
import GoSem.ClaimJoined
import GoSem.ClaimMapViews
import Derived.JoinedTies
import Derived.KernelRfl
namespace Go.Proofs.Ytgjgedmciiolmaa
/- THE CELL 'sum', in the pinned program and in every row, IS THE sha256 OF THE DUMP (.gsa) THAT YtgjgedmciiolmaaProg.lean LOADS. Nothing in Lean hashes anything: it is a label: what it is worth is what the hold of that sum in a sandbox is worth. -/
noncomputable def Try.pinned : Pinned := { name := "ytgjgedmciiolmaa", sum := "95a35efe143c4358e0e5d4b3ee488c7e2fee9fc85b11638e97a0c3b291911cf1", checked := Try.checked }
namespace Rows
def none {H : Type} : Left H := { results := [], args := [] }

/-- 'laws.FnExactCodeText': WHATEVER THE INPUT: true; the input reads as it did. -/
def fnExactCodeTextSpec : ChangeSpec := { name := "fnExactCodeText", fn := fun _ => fun
  | [d] => { results := [.lit (.bool true)], args := [d] }
  | _ => none }
def fnExactCodeTextRow : OpenClaim := { program := "ytgjgedmciiolmaa", sum := "95a35efe143c4358e0e5d4b3ee488c7e2fee9fc85b11638e97a0c3b291911cf1", func := "loop.example/blockboxes/laws.FnExactCodeText", spec := "fnExactCodeText", inPlace := ["internal/abi.NoEscape"], recurses := true, apart := false }
def FnExactCodeTextSaid : Prop := fnExactCodeTextRow.holds Try.pinned (OpenSpec.ofChange fnExactCodeTextSpec)

/-- ITS FALSE NEIGHBOUR: 'it returns false'. Refute it at one input. -/
def fnExactCodeTextWrong : ChangeSpec := { name := "fnExactCodeText", fn := fun _ => fun
  | [d] => { results := [.lit (.bool false)], args := [d] }
  | _ => none }
def FnExactCodeTextWrongFalsely : Prop := fnExactCodeTextRow.holds Try.pinned (OpenSpec.ofChange fnExactCodeTextWrong)

/-- 'laws.FnCountsClear': WHATEVER THE INPUT: true; the input reads as it did. -/
def fnCountsClearSpec : ChangeSpec := { name := "fnCountsClear", fn := fun _ => fun
  | [d1, d2] => { results := [.lit (.bool true)], args := [d1, d2] }
  | _ => none }
def fnCountsClearRow : OpenClaim := { program := "ytgjgedmciiolmaa", sum := "95a35efe143c4358e0e5d4b3ee488c7e2fee9fc85b11638e97a0c3b291911cf1", func := "loop.example/blockboxes/laws.FnCountsClear", spec := "fnCountsClear", apart := false }
def FnCountsClearSaid : Prop := fnCountsClearRow.holds Try.pinned (OpenSpec.ofChange fnCountsClearSpec)

/-- ITS FALSE NEIGHBOUR: 'it returns false'. Refute it at one input. -/
def fnCountsClearWrong : ChangeSpec := { name := "fnCountsClear", fn := fun _ => fun
  | [d1, d2] => { results := [.lit (.bool false)], args := [d1, d2] }
  | _ => none }
def FnCountsClearWrongFalsely : Prop := fnCountsClearRow.holds Try.pinned (OpenSpec.ofChange fnCountsClearWrong)

/-- 'laws.FnCodeBegins': WHATEVER THE INPUT: true; the input reads as it did. -/
def fnCodeBeginsSpec : ChangeSpec := { name := "fnCodeBegins", fn := fun _ => fun
  | [d] => { results := [.lit (.bool true)], args := [d] }
  | _ => none }
def fnCodeBeginsRow : OpenClaim := { program := "ytgjgedmciiolmaa", sum := "95a35efe143c4358e0e5d4b3ee488c7e2fee9fc85b11638e97a0c3b291911cf1", func := "loop.example/blockboxes/laws.FnCodeBegins", spec := "fnCodeBegins", inPlace := ["internal/abi.NoEscape"], apart := false }
def FnCodeBeginsSaid : Prop := fnCodeBeginsRow.holds Try.pinned (OpenSpec.ofChange fnCodeBeginsSpec)

/-- ITS FALSE NEIGHBOUR: 'it returns false'. Refute it at one input. -/
def fnCodeBeginsWrong : ChangeSpec := { name := "fnCodeBegins", fn := fun _ => fun
  | [d] => { results := [.lit (.bool false)], args := [d] }
  | _ => none }
def FnCodeBeginsWrongFalsely : Prop := fnCodeBeginsRow.holds Try.pinned (OpenSpec.ofChange fnCodeBeginsWrong)

/-- 'laws.FnCodeText': WHATEVER THE INPUT: true; the input reads as it did. -/
def fnCodeTextSpec : ChangeSpec := { name := "fnCodeText", fn := fun _ => fun
  | [d] => { results := [.lit (.bool true)], args := [d] }
  | _ => none }
def fnCodeTextRow : OpenClaim := { program := "ytgjgedmciiolmaa", sum := "95a35efe143c4358e0e5d4b3ee488c7e2fee9fc85b11638e97a0c3b291911cf1", func := "loop.example/blockboxes/laws.FnCodeText", spec := "fnCodeText", inPlace := ["internal/abi.NoEscape"], recurses := true, apart := false }
def FnCodeTextSaid : Prop := fnCodeTextRow.holds Try.pinned (OpenSpec.ofChange fnCodeTextSpec)

/-- ITS FALSE NEIGHBOUR: 'it returns false'. Refute it at one input. -/
def fnCodeTextWrong : ChangeSpec := { name := "fnCodeText", fn := fun _ => fun
  | [d] => { results := [.lit (.bool false)], args := [d] }
  | _ => none }
def FnCodeTextWrongFalsely : Prop := fnCodeTextRow.holds Try.pinned (OpenSpec.ofChange fnCodeTextWrong)

/-- 'laws.FnCountsRun': WHATEVER THE INPUT: true; the input reads as it did. -/
def fnCountsRunSpec : ChangeSpec := { name := "fnCountsRun", fn := fun _ => fun
  | [d1, d2] => { results := [.lit (.bool true)], args := [d1, d2] }
  | _ => none }
def fnCountsRunRow : OpenClaim := { program := "ytgjgedmciiolmaa", sum := "95a35efe143c4358e0e5d4b3ee488c7e2fee9fc85b11638e97a0c3b291911cf1", func := "loop.example/blockboxes/laws.FnCountsRun", spec := "fnCountsRun", apart := false }
def FnCountsRunSaid : Prop := fnCountsRunRow.holds Try.pinned (OpenSpec.ofChange fnCountsRunSpec)

/-- ITS FALSE NEIGHBOUR: 'it returns false'. Refute it at one input. -/
def fnCountsRunWrong : ChangeSpec := { name := "fnCountsRun", fn := fun _ => fun
  | [d1, d2] => { results := [.lit (.bool false)], args := [d1, d2] }
  | _ => none }
def FnCountsRunWrongFalsely : Prop := fnCountsRunRow.holds Try.pinned (OpenSpec.ofChange fnCountsRunWrong)

/-- 'laws.FnCodeFrom': WHATEVER THE INPUT: true; the input reads as it did. -/
def fnCodeFromSpec : ChangeSpec := { name := "fnCodeFrom", fn := fun _ => fun
  | [d] => { results := [.lit (.bool true)], args := [d] }
  | _ => none }
def fnCodeFromRow : OpenClaim := { program := "ytgjgedmciiolmaa", sum := "95a35efe143c4358e0e5d4b3ee488c7e2fee9fc85b11638e97a0c3b291911cf1", func := "loop.example/blockboxes/laws.FnCodeFrom", spec := "fnCodeFrom", inPlace := ["internal/abi.NoEscape"], recurses := true, apart := false }
def FnCodeFromSaid : Prop := fnCodeFromRow.holds Try.pinned (OpenSpec.ofChange fnCodeFromSpec)

/-- ITS FALSE NEIGHBOUR: 'it returns false'. Refute it at one input. -/
def fnCodeFromWrong : ChangeSpec := { name := "fnCodeFrom", fn := fun _ => fun
  | [d] => { results := [.lit (.bool false)], args := [d] }
  | _ => none }
def FnCodeFromWrongFalsely : Prop := fnCodeFromRow.holds Try.pinned (OpenSpec.ofChange fnCodeFromWrong)

/- THE SECOND FORM. 'bulk': how many values and letters a reading holds, each counted each time it is reached (what is shared counts as often as it is met; a slice's spare places count too). A statement '..UptoSaid' is the law's where the arguments, and the package variables that the reading takes, are together of bulk at most 1048576: NARROWER than '..Said'. Prove '..Said' where nothing that the law and all that it calls make is longer than what came in: it says more and counts as full. Else prove '..UptoSaid'. A law counts once. -/
mutual
def uptoBulk {H : Type} : DataW H → Nat
  | .lit (.string bytes) => bytes.length + 1
  | .lit _ => 1
  | .nil => 1
  | .ptr d => uptoBulk d + 1
  | .slice elems spare => uptoBulkAll elems + uptoBulkAll spare + 1
  | .agg parts => uptoBulkAll parts + 1
  | .iface _ d => uptoBulk d + 1
  | .map entries => uptoBulkEntries entries + 1
  | .held _ => 1
def uptoBulkAll {H : Type} : List (DataW H) → Nat
  | [] => 0
  | d :: r => uptoBulk d + uptoBulkAll r
def uptoBulkEntries {H : Type} : List (Lit × DataW H) → Nat
  | [] => 0
  | x :: r => uptoBulkEntry x + uptoBulkEntries r
def uptoBulkEntry {H : Type} : Lit × DataW H → Nat
  | (.string bytes, d) => bytes.length + uptoBulk d + 1
  | (_, d) => uptoBulk d + 1
 end
def uptoSmall : (H : Type) → List (DataW H) → Bool := fun _ ds => decide (uptoBulkAll ds ≤ 1048576)
def OpenSpec.upto (s : _root_.Go.ChangeSpec) : _root_.Go.OpenSpec := { _root_.Go.OpenSpec.ofChange s with cond := some uptoSmall }

/-- 'laws.FnExactCodeText', WHERE WHAT IT READS IS OF BULK AT MOST 1048576: true; the input reads as it did. -/
def fnExactCodeTextUptoRow : OpenClaim := { program := "ytgjgedmciiolmaa", sum := "95a35efe143c4358e0e5d4b3ee488c7e2fee9fc85b11638e97a0c3b291911cf1", func := "loop.example/blockboxes/laws.FnExactCodeText", spec := "fnExactCodeText", inPlace := ["internal/abi.NoEscape"], recurses := true, apart := false, narrowed := true }
def FnExactCodeTextUptoSaid : Prop := fnExactCodeTextUptoRow.holds Try.pinned (OpenSpec.upto fnExactCodeTextSpec)

/-- 'laws.FnCountsClear', WHERE WHAT IT READS IS OF BULK AT MOST 1048576: true; the input reads as it did. -/
def fnCountsClearUptoRow : OpenClaim := { program := "ytgjgedmciiolmaa", sum := "95a35efe143c4358e0e5d4b3ee488c7e2fee9fc85b11638e97a0c3b291911cf1", func := "loop.example/blockboxes/laws.FnCountsClear", spec := "fnCountsClear", apart := false, narrowed := true }
def FnCountsClearUptoSaid : Prop := fnCountsClearUptoRow.holds Try.pinned (OpenSpec.upto fnCountsClearSpec)

/-- 'laws.FnCodeBegins', WHERE WHAT IT READS IS OF BULK AT MOST 1048576: true; the input reads as it did. -/
def fnCodeBeginsUptoRow : OpenClaim := { program := "ytgjgedmciiolmaa", sum := "95a35efe143c4358e0e5d4b3ee488c7e2fee9fc85b11638e97a0c3b291911cf1", func := "loop.example/blockboxes/laws.FnCodeBegins", spec := "fnCodeBegins", inPlace := ["internal/abi.NoEscape"], apart := false, narrowed := true }
def FnCodeBeginsUptoSaid : Prop := fnCodeBeginsUptoRow.holds Try.pinned (OpenSpec.upto fnCodeBeginsSpec)

/-- 'laws.FnCodeText', WHERE WHAT IT READS IS OF BULK AT MOST 1048576: true; the input reads as it did. -/
def fnCodeTextUptoRow : OpenClaim := { program := "ytgjgedmciiolmaa", sum := "95a35efe143c4358e0e5d4b3ee488c7e2fee9fc85b11638e97a0c3b291911cf1", func := "loop.example/blockboxes/laws.FnCodeText", spec := "fnCodeText", inPlace := ["internal/abi.NoEscape"], recurses := true, apart := false, narrowed := true }
def FnCodeTextUptoSaid : Prop := fnCodeTextUptoRow.holds Try.pinned (OpenSpec.upto fnCodeTextSpec)

/-- 'laws.FnCountsRun', WHERE WHAT IT READS IS OF BULK AT MOST 1048576: true; the input reads as it did. -/
def fnCountsRunUptoRow : OpenClaim := { program := "ytgjgedmciiolmaa", sum := "95a35efe143c4358e0e5d4b3ee488c7e2fee9fc85b11638e97a0c3b291911cf1", func := "loop.example/blockboxes/laws.FnCountsRun", spec := "fnCountsRun", apart := false, narrowed := true }
def FnCountsRunUptoSaid : Prop := fnCountsRunUptoRow.holds Try.pinned (OpenSpec.upto fnCountsRunSpec)

/-- 'laws.FnCodeFrom', WHERE WHAT IT READS IS OF BULK AT MOST 1048576: true; the input reads as it did. -/
def fnCodeFromUptoRow : OpenClaim := { program := "ytgjgedmciiolmaa", sum := "95a35efe143c4358e0e5d4b3ee488c7e2fee9fc85b11638e97a0c3b291911cf1", func := "loop.example/blockboxes/laws.FnCodeFrom", spec := "fnCodeFrom", inPlace := ["internal/abi.NoEscape"], recurses := true, apart := false, narrowed := true }
def FnCodeFromUptoSaid : Prop := fnCodeFromUptoRow.holds Try.pinned (OpenSpec.upto fnCodeFromSpec)

end Rows
end Go.Proofs.Ytgjgedmciiolmaa
