/-
  The program's tracks: trackOf, occupied, changed, can, text; TrackValid of the reference. No condition but strings that have a length.
-/
import Derived.Test.YtgjgedmciiolmaaInts
import Derived.Test.YtgjgedmciiolmaaTkPlain
namespace Go.Proofs.Ytgjgedmciiolmaa
open Go.RowKit
set_option linter.unusedVariables false

/-- Block g is just the cells cs of element type t, none frozen. -/
def Blk (w : World) (g : Nat) (t : TypeId) (cs : Array Value) : Prop := w.heap[g]? = some (.cells cs t (0, 0))
section
variable {w w' : World} {g : Nat} {t : TypeId} {cs : Array Value}
theorem Blk.lt (h : Blk w g t cs) : g < w.heap.size := by
  rcases Nat.lt_or_ge g w.heap.size with hlt | hge
  · exact hlt
  · unfold Blk at h; rw [Array.getElem?_eq_none hge] at h; cases h
theorem Blk.cell (h : Blk w g t cs) (i : Nat) : w.cell? ⟨g, i, none⟩ = cs[i]? := cell_of_row w g i cs t (0, 0) h
theorem Blk.frozen (h : Blk w g t cs) (i : Nat) : w.frozen? ⟨g, i, none⟩ = false := by
  unfold Blk at h
  simp [World.frozen?, h]
theorem Blk.new (w : World) (t : TypeId) (cs : Array Value) : Blk (w.alloc (.cells cs t)) w.heap.size t cs := heap_alloc_new w _
theorem Blk.drew (h : Blk w g t cs) : Blk w.drew g t cs := h
theorem Blk.alloc (h : Blk w g t cs) (o : Obj) : Blk (w.alloc o) g t cs := (Below.heap_alloc w o g h.lt).trans h
theorem Blk.set_ (h : Blk w g t cs) (i : Nat) (u : Value) : Blk (w.setCell ⟨g, i, none⟩ u) g t (cs.setIfInBounds i u) := by
  unfold Blk at h ⊢
  simp [World.setCell, Array.getElem?_modify, h]
theorem Blk.far (h : Blk w g t cs) {p : Addr} (hp : g ≠ p.block) (u : Value) : Blk (w.setCell p u) g t cs := (Below.heap_setCell w p u g hp).trans h
theorem Blk.below {B : Nat} (h : Blk w g t cs) (hb : Below B w w') (hg : g < B) : Blk w' g t cs := (hb.block g hg).trans h
theorem Blk.grown {row : Option Nat} (h : Blk w g t cs) (hb : w.grownBy w' row) (hg : some g ≠ row) : Blk w' g t cs := (hb.block g h.lt hg).trans h
end





def trB (S : ByteArray) : Bool := inB 1 8 S.size && S.data.toList.all okCh
def tset (S : ByteArray) : Nat := if trB S = true then tbk S.data.toList S.size else 0
def tsz (S : ByteArray) : Nat := if trB S = true then S.size else 0
theorem S_get (S : ByteArray) (k : Nat) (h : k < S.size) : S.data.toList.getD k 0 = S[k] := by
  have hl : S.data.toList.length = S.size := Array.length_toList
  rw [List.getD, List.getElem?_eq_getElem (by omega)]
  rfl
theorem S_all (S : ByteArray) (k : Nat) (h : k < S.size) (ha : (S.data.toList.take k).all okCh = true) (hx : okCh S[k] = true) : (S.data.toList.take (k + 1)).all okCh = true := by
  have hl : S.data.toList.length = S.size := Array.length_toList
  rw [List.take_succ_eq_append_getElem (by omega), List.all_append, ha]
  have : S.data.toList[k]'(by omega) = S[k] := rfl
  simp [this, hx]
theorem S_no (S : ByteArray) (k : Nat) (h : k < S.size) (hx : okCh S[k] = false) : S.data.toList.all okCh = false := by
  have hl : S.data.toList.length = S.size := Array.length_toList
  rw [List.all_eq_false]
  exact ⟨S.data.toList[k]'(by omega), List.getElem_mem _, by have : S.data.toList[k]'(by omega) = S[k] := rfl; rw [this, hx]; simp⟩
theorem S_take (S : ByteArray) (k : Nat) (h : ¬ k < S.size) : S.data.toList.take k = S.data.toList := by
  have hl : S.data.toList.length = S.size := Array.length_toList
  exact List.take_of_length_le (by omega)
theorem trB_len {S : ByteArray} (h : trB S = true) : 1 ≤ S.size ∧ S.size ≤ 8 := by
  unfold trB at h
  rw [Bool.and_eq_true] at h
  have := inB_iff.1 h.1
  omega
/-- A valid text is the text of its bits. -/
theorem trB_T {S : ByteArray} (h : trB S = true) : ∃ s n, 1 ≤ n ∧ n ≤ 8 ∧ s < 2 ^ n ∧ S = T s n := by
  have hl := trB_len h
  unfold trB at h
  rw [Bool.and_eq_true] at h
  exact ⟨_, S.size, hl.1, hl.2, tbk_lt _ _, T_tb h.2⟩
theorem trB_of (s n : Nat) (h1 : 1 ≤ n) (h2 : n ≤ 8) : trB (T s n) = true := by
  unfold trB
  rw [T_size, T_data, tx_ok, inB_true (by omega)]
  rfl


end Go.Proofs.Ytgjgedmciiolmaa
