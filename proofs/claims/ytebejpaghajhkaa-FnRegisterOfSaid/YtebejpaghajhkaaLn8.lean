/-
  Lines: LineDone of the program and of the reference. No condition.
-/
import Derived.Test.YtebejpaghajhkaaLnP2
namespace Go.Proofs.Ytebejpaghajhkaa
open Go.RowKit
set_option linter.unusedVariables false
set_option linter.unusedSimpArgs false

theorem zB_of {bs : List BV} {j : Nat} {n : Int} {i o : Bool} (h : bs.getD j Z3 = (n, i, o)) : zB bs j = decide ((n, i, o) = Z3) := by unfold zB; rw [h]
theorem endB_of {n : Nat} {ts : List Int} {j : Nat} {x : Int} (h : ts.getD j 0 = x) : endB n ts j = decide (x = 2 * (n : Int)) := by unfold endB; rw [h]



end Go.Proofs.Ytebejpaghajhkaa
