/-
  Lines: LineStep of the program. No condition.
-/
import Derived.Test.YtebejpaghajhkaaLn12
namespace Go.Proofs.Ytebejpaghajhkaa
open Go.RowKit
set_option linter.unusedVariables false
set_option linter.unusedSimpArgs false

/-- Two cells of a block of the call's own, written. -/
theorem store2 {w W : World} {R : Nat} {T : TypeId} {a0 b0 : Value} (h : Below w.heap.size w W) (hR : w.heap.size ≤ R) (k : Blk W R T #[a0, b0]) (a b : Value) :
    Below w.heap.size w ((W.setCell ⟨R, 0, none⟩ a).setCell ⟨R, 1, none⟩ b) ∧ ((W.setCell ⟨R, 0, none⟩ a).setCell ⟨R, 1, none⟩ b).cell? ⟨R, 0, none⟩ = some a ∧ ((W.setCell ⟨R, 0, none⟩ a).setCell ⟨R, 1, none⟩ b).cell? ⟨R, 1, none⟩ = some b := by
  have k1 := (k.set_ 0 a).set_ 1 b
  refine ⟨(h.setCell hR _).setCell hR _, ?_, ?_⟩
  · rw [k1.cell 0]; simp
  · rw [k1.cell 1]; simp
theorem blkCells2 {W : World} {R : Nat} {T : TypeId} {a b : Value} (k : Blk W R T #[a, b]) : W.cell? ⟨R, 0, none⟩ = some a ∧ W.cell? ⟨R, 1, none⟩ = some b ∧ W.frozen? ⟨R, 0, none⟩ = false ∧ W.frozen? ⟨R, 1, none⟩ = false := by
  have h0 := k.cell 0
  have h1 := k.cell 1
  exact ⟨by simpa using h0, by simpa using h1, k.frozen 0, k.frozen 1⟩
/-- A line of the call's own. -/
def LnO (W : World) (base g d g' d' : Nat) (bs : List BV) (ts : List Int) : Prop := OwnB W base g d bs ∧ Own W base g' d' ts ∧ g ≠ g'
theorem LnO.far {W : World} {base g d g' d' : Nat} {bs : List BV} {ts : List Int} (h : LnO W base g d g' d' bs ts) {p : Addr} (h1 : g ≠ p.block) (h2 : g' ≠ p.block) (v : Value) : LnO (W.setCell p v) base g d g' d' bs ts := ⟨OwnV.far h.1 h1 _, OwnV.far h.2.1 h2 _, h.2.2⟩
theorem LnO.below {W W' : World} {base g d g' d' : Nat} {bs : List BV} {ts : List Int} (h : LnO W base g d g' d' bs ts) (k : Below W.heap.size W W') : LnO W' base g d g' d' bs ts := ⟨h.1.below k h.1.lt, h.2.1.below k h.2.1.lt, h.2.2⟩


/-- What LineStep leaves: nothing, or a new line. -/
def StepO (w : World) (o : Option (List BV × List Int)) (e : Ending) (w' : World) : Prop :=
  match o with
  | none => e = .returned (.tuple #[.agg #[.slice none 0 0, .slice none 0 0], .bool false]) ∧ Below w.heap.size w w'
  | some p => ∃ g d g' d', e = .returned (.tuple #[.agg #[.slice (some ⟨g, 0, none⟩) p.1.length d, .slice (some ⟨g', 0, none⟩) p.2.length d'], .bool true]) ∧ OwnB w' w.heap.size g d p.1 ∧ Own w' w.heap.size g' d' p.2 ∧ g ≠ g' ∧ Below w.heap.size w w'
end Go.Proofs.Ytebejpaghajhkaa
