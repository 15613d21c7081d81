/-
  The reader beside memory that grows (the lemmas of XLn19's head, for seats without a drawn line). No condition.
-/
import Derived.Test.YtebejpaghajhkaaDrawL
namespace Go.Proofs.Ytebejpaghajhkaa
open Go.RowKit
set_option linter.unusedVariables false

theorem gbR {w : World} {row : Option Nat} : w.grownBy w row := World.grownBy.refl _ _
theorem gbA {w W : World} {row : Option Nat} {o : Obj} (h : w.grownBy W row) : w.grownBy (W.alloc o) row := grownBy_alloc h o
theorem gbD {w W : World} {row : Option Nat} (h : w.grownBy W row) : w.grownBy W.drew row := ⟨h.os, h.tape, h.output, h.size, h.block⟩
theorem gbB {w W W' : World} {row : Option Nat} (h : w.grownBy W row) (k : Below W.heap.size W W') : w.grownBy W' row := grownBy_trans h ⟨k.os, k.tape, k.output, k.size, fun i hi _ => k.block i hi⟩
theorem rdA {w : World} {base R p : Nat} {o : Obj} (h : Rdr w base R p) : Rdr (w.alloc o) base R p := h.alloc o
theorem rdD {w : World} {base R p : Nat} (h : Rdr w base R p) : Rdr w.drew base R p := h
theorem rdB {w w' : World} {base R p : Nat} (h : Rdr w base R p) (k : Below w.heap.size w w') : Rdr w' base R p := h.below k h.lt
theorem blkG {X Y : World} {R P : Nat} {T : TypeId} {cs : Array Value} (hg : X.grownBy Y (some R)) (hk : Blk X P T cs) (hne : P ≠ R) : Blk Y P T cs := hk.grown hg (fun e => hne (by injection e))
theorem gbS {w W : World} {R P i : Nat} (h : w.grownBy W (some R)) (hP : w.heap.size ≤ P) (v : Value) : w.grownBy (W.setCell ⟨P, i, none⟩ v) (some R) :=
  ⟨h.os, h.tape, h.output, by simpa using h.size, fun j hj hne => (Below.heap_setCell _ _ _ _ (by show j ≠ P; omega)).trans (h.block j hj hne)⟩
theorem rdS {w : World} {base R p P i : Nat} (h : Rdr w base R p) (hP : R < P) (v : Value) : Rdr (w.setCell ⟨P, i, none⟩ v) base R p := h.keep fun b hb => Below.heap_setCell _ _ _ _ (by show b ≠ P; omega)
theorem gbG {w W W' : World} {R g : Nat} (h : w.grownBy W (some R)) (k : W.grownBy W' (some g)) (hg : w.heap.size ≤ g) : w.grownBy W' (some R) :=
  ⟨k.os.trans h.os, k.tape.trans h.tape, k.output.trans h.output, Nat.le_trans h.size k.size, fun i hi hne => (k.block i (Nat.lt_of_lt_of_le hi h.size) (by intro e; injection e; omega)).trans (h.block i hi hne)⟩
end Go.Proofs.Ytebejpaghajhkaa
