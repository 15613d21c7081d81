/-
  Lines: LineLeft of the program and of the reference. No condition.
-/
import Derived.Test.YtebejpaghajhkaaLn8
namespace Go.Proofs.Ytebejpaghajhkaa
open Go.RowKit
set_option linter.unusedVariables false
set_option linter.unusedSimpArgs false

theorem leftQ_t {q t : Nat} (h : 0 < t) : leftQ q t = if q = 1 then 5 * (t : Int) - 1 else if q = 2 then 5 * (t : Int) - 2 else if q = 3 then 5 * (t : Int) + 2 else if q = 4 then 5 * (t : Int) + 1 else 5 * (t : Int) := by
  unfold leftQ; rw [if_pos h, if_pos h]



end Go.Proofs.Ytebejpaghajhkaa
