/-
  Lines: a move of a railway. No condition.
-/
import Derived.Test.YtebejpaghajhkaaLn11
import Derived.Deep.DeepCutAuto
namespace Go.Proofs.Ytebejpaghajhkaa
open Go.RowKit
set_option linter.unusedVariables false
set_option linter.unusedSimpArgs false

theorem str_e {s : ByteArray} : (s.toList == (⟨#[101]⟩ : ByteArray).toList) = decide (s = ⟨#[101]⟩) := by
  rw [Bool.eq_iff_iff, beq_iff_eq, decide_eq_true_eq]
  exact ⟨fun h => by rw [ByteArray.toList_eq, ByteArray.toList_eq] at h; obtain ⟨⟨l⟩⟩ := s; simp at h; rw [h], fun h => by rw [h]⟩
theorem str_l {s : ByteArray} : (s.toList == (⟨#[108]⟩ : ByteArray).toList) = decide (s = ⟨#[108]⟩) := by
  rw [Bool.eq_iff_iff, beq_iff_eq, decide_eq_true_eq]
  exact ⟨fun h => by rw [ByteArray.toList_eq, ByteArray.toList_eq] at h; obtain ⟨⟨l⟩⟩ := s; simp at h; rw [h], fun h => by rw [h]⟩
theorem lit_e : (⟨#[101]⟩ : ByteArray).toList = [101] := by rw [ByteArray.toList_eq]
theorem lit_l : (⟨#[108]⟩ : ByteArray).toList = [108] := by rw [ByteArray.toList_eq]
theorem blk_set3 {W : World} {P : Nat} {T : TypeId} {a b c : Value} (h : Blk W P T #[a, b, c]) (x y z : Value) : Blk (((W.setCell ⟨P, 0, none⟩ x).setCell ⟨P, 1, none⟩ y).setCell ⟨P, 2, none⟩ z) P T #[x, y, z] := by
  have := ((h.set_ 0 x).set_ 1 y).set_ 2 z
  simpa using this
end Go.Proofs.Ytebejpaghajhkaa
