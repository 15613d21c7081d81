/-
  Two registers that were drawn, in memory. No condition.
-/
import Derived.Test.YtebejpaghajhkaaRg25
import Derived.Test.YtebejpaghajhkaaRg30
import Derived.Test.YtebejpaghajhkaaRg7
namespace Go.Proofs.Ytebejpaghajhkaa
open Go.RowKit
set_option linter.unusedVariables false
set_option linter.unusedSimpArgs false

/-- The law's list. -/
def Lu (w W : World) (g : Nat) (ns : List NV) : Prop := Below w.heap.size w W ∧ g < W.heap.size ∧ AtNt W g 0 ns
section
variable {w W W' : World} {g off : Nat} {ns : List NV}
theorem Lu.step (h : Lu w W g ns) (k : Below W.heap.size W W') : Lu w W' g ns := ⟨below_to h.1 k h.1.size, Nat.lt_of_lt_of_le h.2.1 k.size, h.2.2.below k h.2.1⟩
theorem Lu.drewN (h : Lu w W g ns) (n : Nat) : Lu w (W.drewN n) g ns := h.step (Qt.below ⟨n, rfl⟩ _)
theorem Lu.rd (h : Lu w W g ns) : RdNt W (some ⟨g, 0, none⟩) ns := fun _ => ⟨g, 0, rfl, h.2.1, h.2.2⟩
theorem Lu.cell (h : Lu w W g ns) {k : Nat} (hk : k < ns.length) : W.cell? ⟨g, k * 2, none⟩ = some (.int .i64 (ns.getD k Z2).1) := by
  have := (h.2.2 k hk).1
  rwa [Nat.zero_add] at this
theorem szN_of (h : Sz2 ns) (hn : ns.length ≤ 33) : SzNt ns := ⟨by omega, fun k hk => by have := h k hk; omega⟩
end
/-- The law's two lists. -/
def Lw (w W : World) (g : Nat) (xs : List NV) (g' : Nat) (ys : List NV) : Prop := Lu w W g xs ∧ Lu w W g' ys
section
variable {w W W' : World} {g g' : Nat} {xs ys : List NV}
theorem Lw.step (h : Lw w W g xs g' ys) (k : Below W.heap.size W W') : Lw w W' g xs g' ys := ⟨h.1.step k, h.2.step k⟩
theorem Lw.drewN (h : Lw w W g xs g' ys) (n : Nat) : Lw w (W.drewN n) g xs g' ys := ⟨h.1.drewN n, h.2.drewN n⟩
end
end Go.Proofs.Ytebejpaghajhkaa
