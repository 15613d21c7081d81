/-
  No cell of these rows narrows 'for every input' (looked for: loops, veiled, ifaces, maps, wideKeys, modest, calm, conditions, laid).
  DERIVED. THE GIVEN ROWS OF THIS SEAT. 12 by the template 'for every input the law returns true; each argument reads behind the call as it read before'; 0 by the template 'total and deterministic' (their statements: YtebejpaghajhkaaTotals.lean).
  GIVEN WITH THE SEED: the statements are not yours to turn. If you find one false, say at which input.
  Laid BY PROGRAM, IN A SANDBOX (cutbox-rows.mjs): the forced cells as the released guide's own fill.sh prints them over the translation 90830069814e337f… (all of the seat's roots in one cut). By AI agents, Wed Nov 11 2026. No macro, syntax, notation, axiom, sorry.
-/
import Derived.Test.YtebejpaghajhkaaChecked
import GoSem.Claim
import GoSem.ClaimJoined
import GoSem.ClaimMapViews
import Derived.JoinedTies
import Derived.KernelRfl
namespace Go.Proofs.Ytebejpaghajhkaa
/- THE CELL 'sum', in the pinned program and in every row, IS THE sha256 OF THE DUMP (.gsa) THAT YtebejpaghajhkaaProg.lean LOADS. Nothing in Lean hashes anything: it is a label: what it is worth is what the hold of that sum in a sandbox is worth. -/
noncomputable def Try.pinned : Pinned := { name := "ytebejpaghajhkaa", sum := "90830069814e337f3f47214c8428cb7316ab3ce7489eb1512edc0b236fd58aef", checked := Try.checked }
namespace Rows
def none {H : Type} : Left H := { results := [], args := [] }

/-- 'laws.FnRegisterOf': WHATEVER THE INPUT: true; the input reads as it did. -/
def fnRegisterOfSpec : ChangeSpec := { name := "fnRegisterOf", fn := fun _ => fun
  | [d] => { results := [.lit (.bool true)], args := [d] }
  | _ => none }
def fnRegisterOfRow : OpenClaim := { program := "ytebejpaghajhkaa", sum := "90830069814e337f3f47214c8428cb7316ab3ce7489eb1512edc0b236fd58aef", func := "loop.example/blockboxes/laws.FnRegisterOf", spec := "fnRegisterOf", inPlace := ["internal/bytealg.IndexByteString", "internal/bytealg.IndexString", "internal/abi.NoEscape"], named := ["internal/bytealg.MaxLen"], apart := false }
def FnRegisterOfSaid : Prop := fnRegisterOfRow.holds Try.pinned (OpenSpec.ofChange fnRegisterOfSpec)

/-- ITS FALSE NEIGHBOUR: 'it returns false'. Refute it at one input. -/
def fnRegisterOfWrong : ChangeSpec := { name := "fnRegisterOf", fn := fun _ => fun
  | [d] => { results := [.lit (.bool false)], args := [d] }
  | _ => none }
def FnRegisterOfWrongFalsely : Prop := fnRegisterOfRow.holds Try.pinned (OpenSpec.ofChange fnRegisterOfWrong)

/-- 'laws.FnExactRegisterText': WHATEVER THE INPUT: true; the input reads as it did. -/
def fnExactRegisterTextSpec : ChangeSpec := { name := "fnExactRegisterText", fn := fun _ => fun
  | [d] => { results := [.lit (.bool true)], args := [d] }
  | _ => none }
def fnExactRegisterTextRow : OpenClaim := { program := "ytebejpaghajhkaa", sum := "90830069814e337f3f47214c8428cb7316ab3ce7489eb1512edc0b236fd58aef", func := "loop.example/blockboxes/laws.FnExactRegisterText", spec := "fnExactRegisterText", inPlace := ["internal/bytealg.IndexByteString", "internal/bytealg.IndexString", "internal/abi.NoEscape"], named := ["internal/bytealg.MaxLen"], apart := false }
def FnExactRegisterTextSaid : Prop := fnExactRegisterTextRow.holds Try.pinned (OpenSpec.ofChange fnExactRegisterTextSpec)

/-- ITS FALSE NEIGHBOUR: 'it returns false'. Refute it at one input. -/
def fnExactRegisterTextWrong : ChangeSpec := { name := "fnExactRegisterText", fn := fun _ => fun
  | [d] => { results := [.lit (.bool false)], args := [d] }
  | _ => none }
def FnExactRegisterTextWrongFalsely : Prop := fnExactRegisterTextRow.holds Try.pinned (OpenSpec.ofChange fnExactRegisterTextWrong)

/-- 'laws.FnExactRegisterOffset': WHATEVER THE INPUT: true; the input reads as it did. -/
def fnExactRegisterOffsetSpec : ChangeSpec := { name := "fnExactRegisterOffset", fn := fun _ => fun
  | [d1, d2, d3] => { results := [.lit (.bool true)], args := [d1, d2, d3] }
  | _ => none }
def fnExactRegisterOffsetRow : OpenClaim := { program := "ytebejpaghajhkaa", sum := "90830069814e337f3f47214c8428cb7316ab3ce7489eb1512edc0b236fd58aef", func := "loop.example/blockboxes/laws.FnExactRegisterOffset", spec := "fnExactRegisterOffset", inPlace := ["internal/bytealg.IndexByteString", "internal/bytealg.IndexString", "internal/abi.NoEscape"], named := ["internal/bytealg.MaxLen"], apart := false }
def FnExactRegisterOffsetSaid : Prop := fnExactRegisterOffsetRow.holds Try.pinned (OpenSpec.ofChange fnExactRegisterOffsetSpec)

/-- ITS FALSE NEIGHBOUR: 'it returns false'. Refute it at one input. -/
def fnExactRegisterOffsetWrong : ChangeSpec := { name := "fnExactRegisterOffset", fn := fun _ => fun
  | [d1, d2, d3] => { results := [.lit (.bool false)], args := [d1, d2, d3] }
  | _ => none }
def FnExactRegisterOffsetWrongFalsely : Prop := fnExactRegisterOffsetRow.holds Try.pinned (OpenSpec.ofChange fnExactRegisterOffsetWrong)

/-- 'laws.FnExactRegisterSlack': WHATEVER THE INPUT: true; the input reads as it did. -/
def fnExactRegisterSlackSpec : ChangeSpec := { name := "fnExactRegisterSlack", fn := fun _ => fun
  | [d1, d2] => { results := [.lit (.bool true)], args := [d1, d2] }
  | _ => none }
def fnExactRegisterSlackRow : OpenClaim := { program := "ytebejpaghajhkaa", sum := "90830069814e337f3f47214c8428cb7316ab3ce7489eb1512edc0b236fd58aef", func := "loop.example/blockboxes/laws.FnExactRegisterSlack", spec := "fnExactRegisterSlack", inPlace := ["internal/bytealg.IndexByteString", "internal/bytealg.IndexString", "internal/abi.NoEscape"], named := ["internal/bytealg.MaxLen"], apart := false }
def FnExactRegisterSlackSaid : Prop := fnExactRegisterSlackRow.holds Try.pinned (OpenSpec.ofChange fnExactRegisterSlackSpec)

/-- ITS FALSE NEIGHBOUR: 'it returns false'. Refute it at one input. -/
def fnExactRegisterSlackWrong : ChangeSpec := { name := "fnExactRegisterSlack", fn := fun _ => fun
  | [d1, d2] => { results := [.lit (.bool false)], args := [d1, d2] }
  | _ => none }
def FnExactRegisterSlackWrongFalsely : Prop := fnExactRegisterSlackRow.holds Try.pinned (OpenSpec.ofChange fnExactRegisterSlackWrong)

/-- 'laws.FnRegisterUntil': WHATEVER THE INPUT: true; the input reads as it did. -/
def fnRegisterUntilSpec : ChangeSpec := { name := "fnRegisterUntil", fn := fun _ => fun
  | [d] => { results := [.lit (.bool true)], args := [d] }
  | _ => none }
def fnRegisterUntilRow : OpenClaim := { program := "ytebejpaghajhkaa", sum := "90830069814e337f3f47214c8428cb7316ab3ce7489eb1512edc0b236fd58aef", func := "loop.example/blockboxes/laws.FnRegisterUntil", spec := "fnRegisterUntil", inPlace := ["internal/bytealg.IndexByteString", "internal/bytealg.IndexString"], named := ["internal/bytealg.MaxLen"], apart := false }
def FnRegisterUntilSaid : Prop := fnRegisterUntilRow.holds Try.pinned (OpenSpec.ofChange fnRegisterUntilSpec)

/-- ITS FALSE NEIGHBOUR: 'it returns false'. Refute it at one input. -/
def fnRegisterUntilWrong : ChangeSpec := { name := "fnRegisterUntil", fn := fun _ => fun
  | [d] => { results := [.lit (.bool false)], args := [d] }
  | _ => none }
def FnRegisterUntilWrongFalsely : Prop := fnRegisterUntilRow.holds Try.pinned (OpenSpec.ofChange fnRegisterUntilWrong)

/-- 'laws.FnExactRegisterSound': WHATEVER THE INPUT: true; the input reads as it did. -/
def fnExactRegisterSoundSpec : ChangeSpec := { name := "fnExactRegisterSound", fn := fun _ => fun
  | [d] => { results := [.lit (.bool true)], args := [d] }
  | _ => none }
def fnExactRegisterSoundRow : OpenClaim := { program := "ytebejpaghajhkaa", sum := "90830069814e337f3f47214c8428cb7316ab3ce7489eb1512edc0b236fd58aef", func := "loop.example/blockboxes/laws.FnExactRegisterSound", spec := "fnExactRegisterSound", inPlace := ["internal/bytealg.IndexByteString", "internal/bytealg.IndexString", "internal/abi.NoEscape"], unfollowed := true, recurses := true, named := ["internal/bytealg.MaxLen"], apart := false }
def FnExactRegisterSoundSaid : Prop := fnExactRegisterSoundRow.holds Try.pinned (OpenSpec.ofChange fnExactRegisterSoundSpec)

/-- ITS FALSE NEIGHBOUR: 'it returns false'. Refute it at one input. -/
def fnExactRegisterSoundWrong : ChangeSpec := { name := "fnExactRegisterSound", fn := fun _ => fun
  | [d] => { results := [.lit (.bool false)], args := [d] }
  | _ => none }
def FnExactRegisterSoundWrongFalsely : Prop := fnExactRegisterSoundRow.holds Try.pinned (OpenSpec.ofChange fnExactRegisterSoundWrong)

/-- 'laws.FnExactRegisterMissing': WHATEVER THE INPUT: true; the input reads as it did. -/
def fnExactRegisterMissingSpec : ChangeSpec := { name := "fnExactRegisterMissing", fn := fun _ => fun
  | [d1, d2, d3] => { results := [.lit (.bool true)], args := [d1, d2, d3] }
  | _ => none }
def fnExactRegisterMissingRow : OpenClaim := { program := "ytebejpaghajhkaa", sum := "90830069814e337f3f47214c8428cb7316ab3ce7489eb1512edc0b236fd58aef", func := "loop.example/blockboxes/laws.FnExactRegisterMissing", spec := "fnExactRegisterMissing", inPlace := ["internal/bytealg.IndexByteString", "internal/bytealg.IndexString", "internal/abi.NoEscape"], named := ["internal/bytealg.MaxLen"], apart := false }
def FnExactRegisterMissingSaid : Prop := fnExactRegisterMissingRow.holds Try.pinned (OpenSpec.ofChange fnExactRegisterMissingSpec)

/-- ITS FALSE NEIGHBOUR: 'it returns false'. Refute it at one input. -/
def fnExactRegisterMissingWrong : ChangeSpec := { name := "fnExactRegisterMissing", fn := fun _ => fun
  | [d1, d2, d3] => { results := [.lit (.bool false)], args := [d1, d2, d3] }
  | _ => none }
def FnExactRegisterMissingWrongFalsely : Prop := fnExactRegisterMissingRow.holds Try.pinned (OpenSpec.ofChange fnExactRegisterMissingWrong)

/-- 'laws.FnOffset': WHATEVER THE INPUT: true; the input reads as it did. -/
def fnOffsetSpec : ChangeSpec := { name := "fnOffset", fn := fun _ => fun
  | [d] => { results := [.lit (.bool true)], args := [d] }
  | _ => none }
def fnOffsetRow : OpenClaim := { program := "ytebejpaghajhkaa", sum := "90830069814e337f3f47214c8428cb7316ab3ce7489eb1512edc0b236fd58aef", func := "loop.example/blockboxes/laws.FnOffset", spec := "fnOffset", inPlace := ["internal/bytealg.IndexByteString", "internal/bytealg.IndexString", "internal/abi.NoEscape"], named := ["internal/bytealg.MaxLen"], apart := false }
def FnOffsetSaid : Prop := fnOffsetRow.holds Try.pinned (OpenSpec.ofChange fnOffsetSpec)

/-- ITS FALSE NEIGHBOUR: 'it returns false'. Refute it at one input. -/
def fnOffsetWrong : ChangeSpec := { name := "fnOffset", fn := fun _ => fun
  | [d] => { results := [.lit (.bool false)], args := [d] }
  | _ => none }
def FnOffsetWrongFalsely : Prop := fnOffsetRow.holds Try.pinned (OpenSpec.ofChange fnOffsetWrong)

/-- 'laws.FnLateBack': WHATEVER THE INPUT: true; the input reads as it did. -/
def fnLateBackSpec : ChangeSpec := { name := "fnLateBack", fn := fun _ => fun
  | [d] => { results := [.lit (.bool true)], args := [d] }
  | _ => none }
def fnLateBackRow : OpenClaim := { program := "ytebejpaghajhkaa", sum := "90830069814e337f3f47214c8428cb7316ab3ce7489eb1512edc0b236fd58aef", func := "loop.example/blockboxes/laws.FnLateBack", spec := "fnLateBack", inPlace := ["internal/bytealg.IndexByteString", "internal/bytealg.IndexString", "internal/abi.NoEscape"], named := ["internal/bytealg.MaxLen"], apart := false }
def FnLateBackSaid : Prop := fnLateBackRow.holds Try.pinned (OpenSpec.ofChange fnLateBackSpec)

/-- ITS FALSE NEIGHBOUR: 'it returns false'. Refute it at one input. -/
def fnLateBackWrong : ChangeSpec := { name := "fnLateBack", fn := fun _ => fun
  | [d] => { results := [.lit (.bool false)], args := [d] }
  | _ => none }
def FnLateBackWrongFalsely : Prop := fnLateBackRow.holds Try.pinned (OpenSpec.ofChange fnLateBackWrong)

/-- 'laws.FnSlack': WHATEVER THE INPUT: true; the input reads as it did. -/
def fnSlackSpec : ChangeSpec := { name := "fnSlack", fn := fun _ => fun
  | [d] => { results := [.lit (.bool true)], args := [d] }
  | _ => none }
def fnSlackRow : OpenClaim := { program := "ytebejpaghajhkaa", sum := "90830069814e337f3f47214c8428cb7316ab3ce7489eb1512edc0b236fd58aef", func := "loop.example/blockboxes/laws.FnSlack", spec := "fnSlack", inPlace := ["internal/bytealg.IndexByteString", "internal/bytealg.IndexString", "internal/abi.NoEscape"], named := ["internal/bytealg.MaxLen"], apart := false }
def FnSlackSaid : Prop := fnSlackRow.holds Try.pinned (OpenSpec.ofChange fnSlackSpec)

/-- ITS FALSE NEIGHBOUR: 'it returns false'. Refute it at one input. -/
def fnSlackWrong : ChangeSpec := { name := "fnSlack", fn := fun _ => fun
  | [d] => { results := [.lit (.bool false)], args := [d] }
  | _ => none }
def FnSlackWrongFalsely : Prop := fnSlackRow.holds Try.pinned (OpenSpec.ofChange fnSlackWrong)

/-- 'laws.FnOffsetLate': WHATEVER THE INPUT: true; the input reads as it did. -/
def fnOffsetLateSpec : ChangeSpec := { name := "fnOffsetLate", fn := fun _ => fun
  | [d] => { results := [.lit (.bool true)], args := [d] }
  | _ => none }
def fnOffsetLateRow : OpenClaim := { program := "ytebejpaghajhkaa", sum := "90830069814e337f3f47214c8428cb7316ab3ce7489eb1512edc0b236fd58aef", func := "loop.example/blockboxes/laws.FnOffsetLate", spec := "fnOffsetLate", inPlace := ["internal/bytealg.IndexByteString", "internal/bytealg.IndexString", "internal/abi.NoEscape"], named := ["internal/bytealg.MaxLen"], apart := false }
def FnOffsetLateSaid : Prop := fnOffsetLateRow.holds Try.pinned (OpenSpec.ofChange fnOffsetLateSpec)

/-- ITS FALSE NEIGHBOUR: 'it returns false'. Refute it at one input. -/
def fnOffsetLateWrong : ChangeSpec := { name := "fnOffsetLate", fn := fun _ => fun
  | [d] => { results := [.lit (.bool false)], args := [d] }
  | _ => none }
def FnOffsetLateWrongFalsely : Prop := fnOffsetLateRow.holds Try.pinned (OpenSpec.ofChange fnOffsetLateWrong)

/-- 'laws.FnExactRegisterBlock': WHATEVER THE INPUT: true; the input reads as it did. -/
def fnExactRegisterBlockSpec : ChangeSpec := { name := "fnExactRegisterBlock", fn := fun _ => fun
  | [d1, d2] => { results := [.lit (.bool true)], args := [d1, d2] }
  | _ => none }
def fnExactRegisterBlockRow : OpenClaim := { program := "ytebejpaghajhkaa", sum := "90830069814e337f3f47214c8428cb7316ab3ce7489eb1512edc0b236fd58aef", func := "loop.example/blockboxes/laws.FnExactRegisterBlock", spec := "fnExactRegisterBlock", inPlace := ["internal/bytealg.IndexByteString", "internal/bytealg.IndexString", "internal/abi.NoEscape"], unfollowed := true, recurses := true, named := ["internal/bytealg.MaxLen"], apart := false }
def FnExactRegisterBlockSaid : Prop := fnExactRegisterBlockRow.holds Try.pinned (OpenSpec.ofChange fnExactRegisterBlockSpec)

/-- ITS FALSE NEIGHBOUR: 'it returns false'. Refute it at one input. -/
def fnExactRegisterBlockWrong : ChangeSpec := { name := "fnExactRegisterBlock", fn := fun _ => fun
  | [d1, d2] => { results := [.lit (.bool false)], args := [d1, d2] }
  | _ => none }
def FnExactRegisterBlockWrongFalsely : Prop := fnExactRegisterBlockRow.holds Try.pinned (OpenSpec.ofChange fnExactRegisterBlockWrong)

/- THE SECOND FORM. 'bulk': how many values and letters a reading holds, each counted each time it is reached (what is shared counts as often as it is met; a slice's spare places count too). A statement '..UptoSaid' is the law's where the arguments, and the package variables that the reading takes, are together of bulk at most 1048576: NARROWER than '..Said'. Prove '..Said' where nothing that the law and all that it calls make is longer than what came in: it says more and counts as full. Else prove '..UptoSaid'. A law counts once. -/
mutual
def uptoBulk {H : Type} : DataW H → Nat
  | .lit (.string bytes) => bytes.length + 1
  | .lit _ => 1
  | .nil => 1
  | .ptr d => uptoBulk d + 1
  | .slice elems spare => uptoBulkAll elems + uptoBulkAll spare + 1
  | .agg parts => uptoBulkAll parts + 1
  | .iface _ d => uptoBulk d + 1
  | .map entries => uptoBulkEntries entries + 1
  | .held _ => 1
def uptoBulkAll {H : Type} : List (DataW H) → Nat
  | [] => 0
  | d :: r => uptoBulk d + uptoBulkAll r
def uptoBulkEntries {H : Type} : List (Lit × DataW H) → Nat
  | [] => 0
  | x :: r => uptoBulkEntry x + uptoBulkEntries r
def uptoBulkEntry {H : Type} : Lit × DataW H → Nat
  | (.string bytes, d) => bytes.length + uptoBulk d + 1
  | (_, d) => uptoBulk d + 1
 end
def uptoSmall : (H : Type) → List (DataW H) → Bool := fun _ ds => decide (uptoBulkAll ds ≤ 1048576)
def OpenSpec.upto (s : _root_.Go.ChangeSpec) : _root_.Go.OpenSpec := { _root_.Go.OpenSpec.ofChange s with cond := some uptoSmall }

/-- 'laws.FnRegisterOf', WHERE WHAT IT READS IS OF BULK AT MOST 1048576: true; the input reads as it did. -/
def fnRegisterOfUptoRow : OpenClaim := { program := "ytebejpaghajhkaa", sum := "90830069814e337f3f47214c8428cb7316ab3ce7489eb1512edc0b236fd58aef", func := "loop.example/blockboxes/laws.FnRegisterOf", spec := "fnRegisterOf", inPlace := ["internal/bytealg.IndexByteString", "internal/bytealg.IndexString", "internal/abi.NoEscape"], named := ["internal/bytealg.MaxLen"], apart := false, narrowed := true }
def FnRegisterOfUptoSaid : Prop := fnRegisterOfUptoRow.holds Try.pinned (OpenSpec.upto fnRegisterOfSpec)

/-- 'laws.FnExactRegisterText', WHERE WHAT IT READS IS OF BULK AT MOST 1048576: true; the input reads as it did. -/
def fnExactRegisterTextUptoRow : OpenClaim := { program := "ytebejpaghajhkaa", sum := "90830069814e337f3f47214c8428cb7316ab3ce7489eb1512edc0b236fd58aef", func := "loop.example/blockboxes/laws.FnExactRegisterText", spec := "fnExactRegisterText", inPlace := ["internal/bytealg.IndexByteString", "internal/bytealg.IndexString", "internal/abi.NoEscape"], named := ["internal/bytealg.MaxLen"], apart := false, narrowed := true }
def FnExactRegisterTextUptoSaid : Prop := fnExactRegisterTextUptoRow.holds Try.pinned (OpenSpec.upto fnExactRegisterTextSpec)

/-- 'laws.FnExactRegisterOffset', WHERE WHAT IT READS IS OF BULK AT MOST 1048576: true; the input reads as it did. -/
def fnExactRegisterOffsetUptoRow : OpenClaim := { program := "ytebejpaghajhkaa", sum := "90830069814e337f3f47214c8428cb7316ab3ce7489eb1512edc0b236fd58aef", func := "loop.example/blockboxes/laws.FnExactRegisterOffset", spec := "fnExactRegisterOffset", inPlace := ["internal/bytealg.IndexByteString", "internal/bytealg.IndexString", "internal/abi.NoEscape"], named := ["internal/bytealg.MaxLen"], apart := false, narrowed := true }
def FnExactRegisterOffsetUptoSaid : Prop := fnExactRegisterOffsetUptoRow.holds Try.pinned (OpenSpec.upto fnExactRegisterOffsetSpec)

/-- 'laws.FnExactRegisterSlack', WHERE WHAT IT READS IS OF BULK AT MOST 1048576: true; the input reads as it did. -/
def fnExactRegisterSlackUptoRow : OpenClaim := { program := "ytebejpaghajhkaa", sum := "90830069814e337f3f47214c8428cb7316ab3ce7489eb1512edc0b236fd58aef", func := "loop.example/blockboxes/laws.FnExactRegisterSlack", spec := "fnExactRegisterSlack", inPlace := ["internal/bytealg.IndexByteString", "internal/bytealg.IndexString", "internal/abi.NoEscape"], named := ["internal/bytealg.MaxLen"], apart := false, narrowed := true }
def FnExactRegisterSlackUptoSaid : Prop := fnExactRegisterSlackUptoRow.holds Try.pinned (OpenSpec.upto fnExactRegisterSlackSpec)

/-- 'laws.FnRegisterUntil', WHERE WHAT IT READS IS OF BULK AT MOST 1048576: true; the input reads as it did. -/
def fnRegisterUntilUptoRow : OpenClaim := { program := "ytebejpaghajhkaa", sum := "90830069814e337f3f47214c8428cb7316ab3ce7489eb1512edc0b236fd58aef", func := "loop.example/blockboxes/laws.FnRegisterUntil", spec := "fnRegisterUntil", inPlace := ["internal/bytealg.IndexByteString", "internal/bytealg.IndexString"], named := ["internal/bytealg.MaxLen"], apart := false, narrowed := true }
def FnRegisterUntilUptoSaid : Prop := fnRegisterUntilUptoRow.holds Try.pinned (OpenSpec.upto fnRegisterUntilSpec)

/-- 'laws.FnExactRegisterSound', WHERE WHAT IT READS IS OF BULK AT MOST 1048576: true; the input reads as it did. -/
def fnExactRegisterSoundUptoRow : OpenClaim := { program := "ytebejpaghajhkaa", sum := "90830069814e337f3f47214c8428cb7316ab3ce7489eb1512edc0b236fd58aef", func := "loop.example/blockboxes/laws.FnExactRegisterSound", spec := "fnExactRegisterSound", inPlace := ["internal/bytealg.IndexByteString", "internal/bytealg.IndexString", "internal/abi.NoEscape"], unfollowed := true, recurses := true, named := ["internal/bytealg.MaxLen"], apart := false, narrowed := true }
def FnExactRegisterSoundUptoSaid : Prop := fnExactRegisterSoundUptoRow.holds Try.pinned (OpenSpec.upto fnExactRegisterSoundSpec)

/-- 'laws.FnExactRegisterMissing', WHERE WHAT IT READS IS OF BULK AT MOST 1048576: true; the input reads as it did. -/
def fnExactRegisterMissingUptoRow : OpenClaim := { program := "ytebejpaghajhkaa", sum := "90830069814e337f3f47214c8428cb7316ab3ce7489eb1512edc0b236fd58aef", func := "loop.example/blockboxes/laws.FnExactRegisterMissing", spec := "fnExactRegisterMissing", inPlace := ["internal/bytealg.IndexByteString", "internal/bytealg.IndexString", "internal/abi.NoEscape"], named := ["internal/bytealg.MaxLen"], apart := false, narrowed := true }
def FnExactRegisterMissingUptoSaid : Prop := fnExactRegisterMissingUptoRow.holds Try.pinned (OpenSpec.upto fnExactRegisterMissingSpec)

/-- 'laws.FnOffset', WHERE WHAT IT READS IS OF BULK AT MOST 1048576: true; the input reads as it did. -/
def fnOffsetUptoRow : OpenClaim := { program := "ytebejpaghajhkaa", sum := "90830069814e337f3f47214c8428cb7316ab3ce7489eb1512edc0b236fd58aef", func := "loop.example/blockboxes/laws.FnOffset", spec := "fnOffset", inPlace := ["internal/bytealg.IndexByteString", "internal/bytealg.IndexString", "internal/abi.NoEscape"], named := ["internal/bytealg.MaxLen"], apart := false, narrowed := true }
def FnOffsetUptoSaid : Prop := fnOffsetUptoRow.holds Try.pinned (OpenSpec.upto fnOffsetSpec)

/-- 'laws.FnLateBack', WHERE WHAT IT READS IS OF BULK AT MOST 1048576: true; the input reads as it did. -/
def fnLateBackUptoRow : OpenClaim := { program := "ytebejpaghajhkaa", sum := "90830069814e337f3f47214c8428cb7316ab3ce7489eb1512edc0b236fd58aef", func := "loop.example/blockboxes/laws.FnLateBack", spec := "fnLateBack", inPlace := ["internal/bytealg.IndexByteString", "internal/bytealg.IndexString", "internal/abi.NoEscape"], named := ["internal/bytealg.MaxLen"], apart := false, narrowed := true }
def FnLateBackUptoSaid : Prop := fnLateBackUptoRow.holds Try.pinned (OpenSpec.upto fnLateBackSpec)

/-- 'laws.FnSlack', WHERE WHAT IT READS IS OF BULK AT MOST 1048576: true; the input reads as it did. -/
def fnSlackUptoRow : OpenClaim := { program := "ytebejpaghajhkaa", sum := "90830069814e337f3f47214c8428cb7316ab3ce7489eb1512edc0b236fd58aef", func := "loop.example/blockboxes/laws.FnSlack", spec := "fnSlack", inPlace := ["internal/bytealg.IndexByteString", "internal/bytealg.IndexString", "internal/abi.NoEscape"], named := ["internal/bytealg.MaxLen"], apart := false, narrowed := true }
def FnSlackUptoSaid : Prop := fnSlackUptoRow.holds Try.pinned (OpenSpec.upto fnSlackSpec)

/-- 'laws.FnOffsetLate', WHERE WHAT IT READS IS OF BULK AT MOST 1048576: true; the input reads as it did. -/
def fnOffsetLateUptoRow : OpenClaim := { program := "ytebejpaghajhkaa", sum := "90830069814e337f3f47214c8428cb7316ab3ce7489eb1512edc0b236fd58aef", func := "loop.example/blockboxes/laws.FnOffsetLate", spec := "fnOffsetLate", inPlace := ["internal/bytealg.IndexByteString", "internal/bytealg.IndexString", "internal/abi.NoEscape"], named := ["internal/bytealg.MaxLen"], apart := false, narrowed := true }
def FnOffsetLateUptoSaid : Prop := fnOffsetLateUptoRow.holds Try.pinned (OpenSpec.upto fnOffsetLateSpec)

/-- 'laws.FnExactRegisterBlock', WHERE WHAT IT READS IS OF BULK AT MOST 1048576: true; the input reads as it did. -/
def fnExactRegisterBlockUptoRow : OpenClaim := { program := "ytebejpaghajhkaa", sum := "90830069814e337f3f47214c8428cb7316ab3ce7489eb1512edc0b236fd58aef", func := "loop.example/blockboxes/laws.FnExactRegisterBlock", spec := "fnExactRegisterBlock", inPlace := ["internal/bytealg.IndexByteString", "internal/bytealg.IndexString", "internal/abi.NoEscape"], unfollowed := true, recurses := true, named := ["internal/bytealg.MaxLen"], apart := false, narrowed := true }
def FnExactRegisterBlockUptoSaid : Prop := fnExactRegisterBlockUptoRow.holds Try.pinned (OpenSpec.upto fnExactRegisterBlockSpec)

end Rows
end Go.Proofs.Ytebejpaghajhkaa
