/-
  The law FnTrackBlocks. No condition.
-/
import Derived.Test.YtkfgimhihknpoaaTl1
namespace Go.Proofs.Ytkfgimhihknpoaa
open Go.RowKit
set_option linter.unusedVariables false

theorem blk_facts : ∀ n, n < 9 → ∀ s, s < 256 → s < 2 ^ n → blk (revT s n) n = blk s n ∧ 2 * blk s n ≤ n + 1 ∧ (decide (blk s n = 0) = decide (cnt s n = 0)) ∧ revT (revT s n) n = s := by decide +kernel

theorem eq0_bool {B C : Nat} (h : B = 0 ↔ C = 0) : (((B : Int) == 0) == ((C : Int) == 0)) = true := by
  have e : ((B : Int) == 0) = ((C : Int) == 0) := by
    rw [Bool.eq_iff_iff, beq_iff_eq, beq_iff_eq]
    omega
  rw [e]; simp

end Go.Proofs.Ytkfgimhihknpoaa
