/-
  Lines: the laws' helpers on lines, copies. No condition.
-/
import Derived.Test.YtebejpaghajhkaaLn2
namespace Go.Proofs.Ytebejpaghajhkaa
open Go.RowKit
set_option linter.unusedVariables false
set_option linter.unusedSimpArgs false



set_option maxHeartbeats 400000 in
theorem eqBlock_same (n : Int) (i o : Bool) (w : World) : Calls Try.prog 48 #[.agg #[.int .i64 n, .bool i, .bool o], .agg #[.int .i64 n, .bool i, .bool o]] w fun e w' => e = .returned (.bool true) ∧ Below w.heap.size w w' := by
  go_enter Try.func48, Try.ntmps48
  go_wp2
  go_ret
  exact ⟨rfl, below_new' (below_new w _) _⟩

end Go.Proofs.Ytebejpaghajhkaa
