/-
  Lines: one event of a block, of the program and of the reference. No condition.
-/
import Derived.Test.YtebejpaghajhkaaLn9
import Derived.Deep.RegionWith
namespace Go.Proofs.Ytebejpaghajhkaa
open Go.RowKit
set_option linter.unusedVariables false
set_option linter.unusedSimpArgs false

/-- nextS over the letter's number. -/
def nextI (q : Nat) (x : Int) : Nat :=
  if q = 0 ∧ x = 111 then 1 else if q = 1 ∧ x = 114 then 0 else if q = 1 ∧ x = 97 then 2 else if q = 2 ∧ x = 99 then 0 else if q = 2 ∧ x = 101 then 3 else if q = 3 ∧ x = 108 then 4 else if q = 4 ∧ x = 102 then 0 else 5
theorem u8_iff (c : UInt8) (n : Nat) (hn : n < 256) : c = UInt8.ofNat n ↔ (c.toNat : Int) = (n : Int) := by
  constructor
  · rintro rfl; simp; omega
  · intro h
    have : c.toNat = n := by omega
    rw [← this]; simp
theorem nextS_nextI (q : Nat) (c : UInt8) : nextS q c = nextI q (c.toNat : Int) := by
  unfold nextS nextI
  have h : ∀ n : Nat, n < 256 → (c = UInt8.ofNat n) = ((c.toNat : Int) = (n : Int)) := fun n hn => propext (u8_iff c n hn)
  have e1 := h 111 (by omega)
  have e2 := h 114 (by omega)
  have e3 := h 97 (by omega)
  have e4 := h 99 (by omega)
  have e5 := h 101 (by omega)
  have e6 := h 108 (by omega)
  have e7 := h 102 (by omega)
  simp only [show (UInt8.ofNat 111) = 111 from rfl, show (UInt8.ofNat 114) = 114 from rfl, show (UInt8.ofNat 97) = 97 from rfl, show (UInt8.ofNat 99) = 99 from rfl, show (UInt8.ofNat 101) = 101 from rfl, show (UInt8.ofNat 108) = 108 from rfl, show (UInt8.ofNat 102) = 102 from rfl] at e1 e2 e3 e4 e5 e6 e7
  simp only [e1, e2, e3, e4, e5, e6, e7]
  rfl
theorem nextI_le (q : Nat) (x : Int) : nextI q x ≤ 5 := by
  unfold nextI
  repeat' split
  all_goals omega

/-- What stateBehind hands back. -/
def behV (q : Nat) (x : Int) : Value := if nextI q x = 5 then .tuple #[ifc q, .bool false] else .tuple #[ifc (nextI q x), .bool true]
set_option maxHeartbeats 1600000 in
theorem behind_0 (x : Int) (w : World) : Calls Try.prog 92 #[ifc 0, .int .u8 x] w fun e w' => e = .returned (behV 0 x) ∧ w = w' := by
  have ta0 : ∀ W : World, (Instr.typeAssert (.iface 130 (.agg #[])) 120 130 true).run Try.prog W = .ok (.tuple #[.agg #[], .bool true]) W := fun _ => by kernel_rfl
  by_cases h111 : x = 111
  · subst h111
    rw [show behV 0 111 = .tuple #[ifc 1, .bool true] from rfl]
    simp only [ifc]
    go_enter Try.func92, Try.ntmps92
    go_wp2
    go_ret2
    exact ⟨rfl, rfl⟩
  rw [show behV 0 x = .tuple #[ifc 0, .bool false] by simp [behV, nextI, h111]]
  simp only [ifc]
  have th111 := beq_f h111
  clear h111
  go_enter Try.func92, Try.ntmps92
  go_wp2
  go_ret2
  exact ⟨rfl, rfl⟩
set_option maxHeartbeats 1600000 in
theorem behind_1 (x : Int) (w : World) : Calls Try.prog 92 #[ifc 1, .int .u8 x] w fun e w' => e = .returned (behV 1 x) ∧ w = w' := by
  have ta0 : ∀ W : World, (Instr.typeAssert (.iface 131 (.agg #[])) 120 130 true).run Try.prog W = .ok (.tuple #[.agg #[], .bool false]) W := fun _ => by kernel_rfl
  have ta1 : ∀ W : World, (Instr.typeAssert (.iface 131 (.agg #[])) 120 131 true).run Try.prog W = .ok (.tuple #[.agg #[], .bool true]) W := fun _ => by kernel_rfl
  by_cases h114 : x = 114
  · subst h114
    rw [show behV 1 114 = .tuple #[ifc 0, .bool true] from rfl]
    simp only [ifc]
    go_enter Try.func92, Try.ntmps92
    go_wp2
    go_ret2
    exact ⟨rfl, rfl⟩
  by_cases h97 : x = 97
  · subst h97
    clear h114
    rw [show behV 1 97 = .tuple #[ifc 2, .bool true] from rfl]
    simp only [ifc]
    go_enter Try.func92, Try.ntmps92
    go_wp2
    go_ret2
    exact ⟨rfl, rfl⟩
  rw [show behV 1 x = .tuple #[ifc 1, .bool false] by simp [behV, nextI, h114, h97]]
  simp only [ifc]
  have th114 := beq_f h114
  have th97 := beq_f h97
  clear h114 h97
  go_enter Try.func92, Try.ntmps92
  go_wp2
  go_ret2
  exact ⟨rfl, rfl⟩
set_option maxHeartbeats 1600000 in
theorem behind_2 (x : Int) (w : World) : Calls Try.prog 92 #[ifc 2, .int .u8 x] w fun e w' => e = .returned (behV 2 x) ∧ w = w' := by
  have ta0 : ∀ W : World, (Instr.typeAssert (.iface 132 (.agg #[])) 120 130 true).run Try.prog W = .ok (.tuple #[.agg #[], .bool false]) W := fun _ => by kernel_rfl
  have ta1 : ∀ W : World, (Instr.typeAssert (.iface 132 (.agg #[])) 120 131 true).run Try.prog W = .ok (.tuple #[.agg #[], .bool false]) W := fun _ => by kernel_rfl
  have ta2 : ∀ W : World, (Instr.typeAssert (.iface 132 (.agg #[])) 120 132 true).run Try.prog W = .ok (.tuple #[.agg #[], .bool true]) W := fun _ => by kernel_rfl
  by_cases h99 : x = 99
  · subst h99
    rw [show behV 2 99 = .tuple #[ifc 0, .bool true] from rfl]
    simp only [ifc]
    go_enter Try.func92, Try.ntmps92
    go_wp2
    go_ret2
    exact ⟨rfl, rfl⟩
  by_cases h101 : x = 101
  · subst h101
    clear h99
    rw [show behV 2 101 = .tuple #[ifc 3, .bool true] from rfl]
    simp only [ifc]
    go_enter Try.func92, Try.ntmps92
    go_wp2
    go_ret2
    exact ⟨rfl, rfl⟩
  rw [show behV 2 x = .tuple #[ifc 2, .bool false] by simp [behV, nextI, h99, h101]]
  simp only [ifc]
  have th99 := beq_f h99
  have th101 := beq_f h101
  clear h99 h101
  go_enter Try.func92, Try.ntmps92
  go_wp2
  go_ret2
  exact ⟨rfl, rfl⟩
set_option maxHeartbeats 1600000 in
theorem behind_3 (x : Int) (w : World) : Calls Try.prog 92 #[ifc 3, .int .u8 x] w fun e w' => e = .returned (behV 3 x) ∧ w = w' := by
  have ta0 : ∀ W : World, (Instr.typeAssert (.iface 133 (.agg #[])) 120 130 true).run Try.prog W = .ok (.tuple #[.agg #[], .bool false]) W := fun _ => by kernel_rfl
  have ta1 : ∀ W : World, (Instr.typeAssert (.iface 133 (.agg #[])) 120 131 true).run Try.prog W = .ok (.tuple #[.agg #[], .bool false]) W := fun _ => by kernel_rfl
  have ta2 : ∀ W : World, (Instr.typeAssert (.iface 133 (.agg #[])) 120 132 true).run Try.prog W = .ok (.tuple #[.agg #[], .bool false]) W := fun _ => by kernel_rfl
  have ta3 : ∀ W : World, (Instr.typeAssert (.iface 133 (.agg #[])) 120 133 true).run Try.prog W = .ok (.tuple #[.agg #[], .bool true]) W := fun _ => by kernel_rfl
  by_cases h108 : x = 108
  · subst h108
    rw [show behV 3 108 = .tuple #[ifc 4, .bool true] from rfl]
    simp only [ifc]
    go_enter Try.func92, Try.ntmps92
    go_wp2
    go_ret2
    exact ⟨rfl, rfl⟩
  rw [show behV 3 x = .tuple #[ifc 3, .bool false] by simp [behV, nextI, h108]]
  simp only [ifc]
  have th108 := beq_f h108
  clear h108
  go_enter Try.func92, Try.ntmps92
  go_wp2
  go_ret2
  exact ⟨rfl, rfl⟩
set_option maxHeartbeats 1600000 in
theorem behind_4 (x : Int) (w : World) : Calls Try.prog 92 #[ifc 4, .int .u8 x] w fun e w' => e = .returned (behV 4 x) ∧ w = w' := by
  have ta0 : ∀ W : World, (Instr.typeAssert (.iface 134 (.agg #[])) 120 130 true).run Try.prog W = .ok (.tuple #[.agg #[], .bool false]) W := fun _ => by kernel_rfl
  have ta1 : ∀ W : World, (Instr.typeAssert (.iface 134 (.agg #[])) 120 131 true).run Try.prog W = .ok (.tuple #[.agg #[], .bool false]) W := fun _ => by kernel_rfl
  have ta2 : ∀ W : World, (Instr.typeAssert (.iface 134 (.agg #[])) 120 132 true).run Try.prog W = .ok (.tuple #[.agg #[], .bool false]) W := fun _ => by kernel_rfl
  have ta3 : ∀ W : World, (Instr.typeAssert (.iface 134 (.agg #[])) 120 133 true).run Try.prog W = .ok (.tuple #[.agg #[], .bool false]) W := fun _ => by kernel_rfl
  have ta4 : ∀ W : World, (Instr.typeAssert (.iface 134 (.agg #[])) 120 134 true).run Try.prog W = .ok (.tuple #[.agg #[], .bool true]) W := fun _ => by kernel_rfl
  by_cases h102 : x = 102
  · subst h102
    rw [show behV 4 102 = .tuple #[ifc 0, .bool true] from rfl]
    simp only [ifc]
    go_enter Try.func92, Try.ntmps92
    go_wp2
    go_ret2
    exact ⟨rfl, rfl⟩
  rw [show behV 4 x = .tuple #[ifc 4, .bool false] by simp [behV, nextI, h102]]
  simp only [ifc]
  have th102 := beq_f h102
  clear h102
  go_enter Try.func92, Try.ntmps92
  go_wp2
  go_ret2
  exact ⟨rfl, rfl⟩
theorem behind_any (q : Nat) (x : Int) (w : World) (hq : q < 5) : Calls Try.prog 92 #[ifc q, .int .u8 x] w fun e w' => e = .returned (behV q x) ∧ w = w' := by
  rcases (show q = 0 ∨ q = 1 ∨ q = 2 ∨ q = 3 ∨ q = 4 by omega) with rfl | rfl | rfl | rfl | rfl
  · exact behind_0 x w
  · exact behind_1 x w
  · exact behind_2 x w
  · exact behind_3 x w
  · exact behind_4 x w

/-- The block behind a text's event, the empty one if there is none. -/
def bst (b : BV) (s : ByteArray) : BV := if bstep b s < 5 then st (bstep b s) else Z3
theorem bst_f {b : BV} {s : ByteArray} (h : bstep b s = 5) : bst b s = Z3 := by unfold bst; rw [h]; rfl
theorem bst_t {b : BV} {s : ByteArray} {j : Nat} (h : bstep b s = j) (hj : j < 5) : bst b s = st j := by unfold bst; rw [h, if_pos hj]
theorem bstep_imposs {b : BV} {s : ByteArray} (h : stN b = 5) : bstep b s = 5 := by
  unfold bstep
  split
  · rw [h]; simp [nextS]
  · rfl
theorem bstep_get {b : BV} {s : ByteArray} (h : s.size = 1) : bstep b s = nextI (stN b) (s[0].toNat : Int) := by
  obtain ⟨c, rfl⟩ := size_one h
  rw [bstep_one, nextS_nextI]
  rfl
/-- What a block's step hands back. -/
def BstV (w : World) (b : BV) (s : ByteArray) (e : Ending) (w' : World) : Prop := e = .returned (.tuple #[bv (bst b s), .bool (decide (bstep b s < 5))]) ∧ Below w.heap.size w w'
/-- Three cells of a block of the call's own, written. -/
theorem store3 {w W : World} {R : Nat} {T : TypeId} {cs : Array Value} (h : Below w.heap.size w W) (hR : w.heap.size ≤ R) (k : Blk W R T cs) (hc : cs.size = 3) (a b c : Value) :
    Below w.heap.size w (((W.setCell ⟨R, 0, none⟩ a).setCell ⟨R, 1, none⟩ b).setCell ⟨R, 2, none⟩ c) ∧ (((W.setCell ⟨R, 0, none⟩ a).setCell ⟨R, 1, none⟩ b).setCell ⟨R, 2, none⟩ c).cell? ⟨R, 0, none⟩ = some a ∧ (((W.setCell ⟨R, 0, none⟩ a).setCell ⟨R, 1, none⟩ b).setCell ⟨R, 2, none⟩ c).cell? ⟨R, 1, none⟩ = some b ∧ (((W.setCell ⟨R, 0, none⟩ a).setCell ⟨R, 1, none⟩ b).setCell ⟨R, 2, none⟩ c).cell? ⟨R, 2, none⟩ = some c := by
  have k1 := ((k.set_ 0 a).set_ 1 b).set_ 2 c
  refine ⟨((h.setCell hR _).setCell hR _).setCell hR _, ?_, ?_, ?_⟩
  · rw [k1.cell 0]; simp [hc]
  · rw [k1.cell 1]; simp [hc]
  · rw [k1.cell 2]; simp [hc]
theorem blkCells {W : World} {R : Nat} {T : TypeId} {a b c : Value} (k : Blk W R T #[a, b, c]) : W.cell? ⟨R, 0, none⟩ = some a ∧ W.cell? ⟨R, 1, none⟩ = some b ∧ W.cell? ⟨R, 2, none⟩ = some c ∧ W.frozen? ⟨R, 0, none⟩ = false ∧ W.frozen? ⟨R, 1, none⟩ = false ∧ W.frozen? ⟨R, 2, none⟩ = false := by
  have h0 := k.cell 0
  have h1 := k.cell 1
  have h2 := k.cell 2
  exact ⟨by simpa using h0, by simpa using h1, by simpa using h2, k.frozen 0, k.frozen 1, k.frozen 2⟩
end Go.Proofs.Ytebejpaghajhkaa
