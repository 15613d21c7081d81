/-
  Lines: LineNew of the program and of the reference. No condition.
-/
import Derived.Test.YtebejpaghajhkaaLn13
import Derived.Laws.MakeOwn
namespace Go.Proofs.Ytebejpaghajhkaa
open Go.RowKit
set_option linter.unusedVariables false
set_option linter.unusedSimpArgs false

theorem make_run {T e size bytes : Nat} {z : Value} (S : SlT T e size bytes z) (n : Nat) (hn : n ≤ 1048576) (hb : bytes ≤ 64) (W : World) :
    (Instr.makeSlice T (.int .i64 (n : Int)) (.int .i64 (n : Int))).run Try.prog W = .ok (.slice (some ⟨W.heap.size, 0, none⟩) n n) (W.alloc (.cells (madeCells z.cells (n * size)) e)) := by
  obtain ⟨i, hi, hz, hsz, hby⟩ := S.info
  have h := run_make W T e i z S.und hi hz .i64 .i64 (n : Int) (n : Int) (by omega) (Int.le_refl _) (by
    rw [hby]
    have : bytes * n ≤ 64 * 1048576 := Nat.mul_le_mul hb hn
    have e1 : (bytes : Int) * (n : Int) = ((bytes * n : Nat) : Int) := by simp
    omega) (by omega)
  rw [h, hsz]
  rfl
theorem own_made {W : World} {base e size g n : Nat} {cs : Array Value} (h : Blk W g e cs) (hb : base ≤ g) (hl : cs.size = n * size) (hn : n ≤ 1048576) : OwnV W base e size g n n cs.toList :=
  OwnV.mk' (by rw [Array.length_toList]; exact hl) cs hb h (Nat.le_refl _) (by unfold maxLen; omega) hl (List.take_of_length_le (by rw [Array.length_toList, hl]; exact Nat.le_refl _))
/-- The new line of n sections. -/
def newV (n t : Int) : Option (List BV × List Int) := if inB 1 5 n && inB 0 5 t then some (List.replicate n.toNat Z3, List.replicate t.toNat 0) else none
theorem nwD {W : World} {T : TypeId} {cs : Array Value} {g : Nat} (h : Blk W g T cs) : Blk W.drew g T cs := h
theorem nwS {W : World} {T : TypeId} {cs : Array Value} {g : Nat} (h : g = W.heap.size) : Blk (W.alloc (.cells cs T)) g T cs := by subst h; exact Blk.new _ _ _
theorem nwO {W : World} {T : TypeId} {cs : Array Value} {g : Nat} {o : Obj} (h : Blk W g T cs) : Blk (W.alloc o) g T cs := h.alloc o
theorem new_b {W : World} {base g n : Nat} {cs : Array Value} (hl : cs.toList = bcells (List.replicate n Z3)) (hz : cs.size = n * 3) (h : Blk W g 59 cs) (hb : base ≤ g) (hn : n ≤ 1048576) : OwnB W base g n (List.replicate n Z3) := by
  have := own_made (size := 3) h hb hz hn
  unfold OwnB
  rw [← hl, List.length_replicate]
  exact this
theorem new_i {W : World} {base g n : Nat} {cs : Array Value} (hl : cs.toList = List.replicate n (.int .i64 0)) (hz : cs.size = n * 1) (h : Blk W g 3 cs) (hb : base ≤ g) (hn : n ≤ 1048576) : Own W base g n (List.replicate n 0) := by
  have := own_made (size := 1) h hb hz hn
  unfold Own
  rw [List.map_replicate, ← hl, List.length_replicate]
  exact this
theorem new_none {w : World} {n t : Int} (h : (inB 1 5 n && inB 0 5 t) = false) : StepO w (newV n t) = fun e w' => e = .returned (.tuple #[.agg #[.slice none 0 0, .slice none 0 0], .bool false]) ∧ Below w.heap.size w w' := by
  unfold newV; rw [h]; rfl
theorem new_some {w : World} {n t : Nat} (h : (inB 1 5 n && inB 0 5 t) = true) : StepO w (newV n t) = fun e w' => ∃ g d g' d', e = .returned (.tuple #[.agg #[.slice (some ⟨g, 0, none⟩) n d, .slice (some ⟨g', 0, none⟩) t d'], .bool true]) ∧ OwnB w' w.heap.size g d (List.replicate n Z3) ∧ Own w' w.heap.size g' d' (List.replicate t 0) ∧ g ≠ g' ∧ Below w.heap.size w w' := by
  unfold newV; rw [h]; funext e w'; simp [StepO]

set_option maxHeartbeats 1600000 in
theorem specNew_any (n t : Int) (w : World) : Calls Try.prog 50 #[.int .i64 n, .int .i64 t] w (StepO w (newV n t)) := by
  have hs1 := fun w => l6In_any n 1 5 w
  have hs2 := fun w => l6In_any t 0 5 w
  by_cases h1 : inB 1 5 n = true
  · rw [h1] at hs1
    have HS1 := Lib.hid hs1
    by_cases h2 : inB 0 5 t = true
    · obtain ⟨n, rfl⟩ : ∃ k : Nat, n = (k : Int) := ⟨n.toNat, by have := inB_iff.1 h1; omega⟩
      obtain ⟨t, rfl⟩ : ∃ k : Nat, t = (k : Int) := ⟨t.toNat, by have := inB_iff.1 h2; omega⟩
      rw [new_some (by rw [h1, h2]; rfl)]
      rw [h2] at hs2
      have HS2 := Lib.hid hs2
      have b1 := inB_iff.1 h1
      have b2 := inB_iff.1 h2
      have m1 := fun W => make_run slBl n (by omega) (by decide) W
      have m2 := fun W => make_run slInt t (by omega) (by decide) W
      have L1 := made_bl n
      have L2 : (madeCells (Value.int .i64 0).cells (t * 1)).toList = List.replicate t (.int .i64 0) := by rw [Nat.mul_one]; exact toList_madeCells_one _ _
      have Z1 : (madeCells (Value.agg #[.int .i64 0, .bool false, .bool false]).cells (n * 3)).size = n * 3 := by
        rw [← Array.length_toList, L1, bcells_length]; simp
      have Z2' : (madeCells (Value.int .i64 0).cells (t * 1)).size = t * 1 := by rw [← Array.length_toList, L2]; simp
      generalize madeCells (Value.agg #[.int .i64 0, .bool false, .bool false]).cells (n * 3) = CB at *
      generalize madeCells (Value.int .i64 0).cells (t * 1) = CT at *
      have HL1 := Lib.hid L1
      have HL2 := Lib.hid L2
      have HZ1 := Lib.hid Z1
      have HZ2 := Lib.hid Z2'
      clear L1 L2 Z1 Z2' h1 h2 hs1 hs2
      go_enter Try.func50, Try.ntmps50
      go_wp2_with fail
      refine (HS1.out _).mono ?_
      rintro e w2 ⟨rfl, rfl⟩
      go_wp2_with fail
      refine (HS2.out _).mono ?_
      rintro e w2 ⟨rfl, rfl⟩
      go_wp2_with fail
      go_region
      all_goals
        go_wp2_with fail
        first
          | exact bodyPost_ret (v := .tuple #[.agg #[.slice (some ⟨w.heap.size + 1, 0, none⟩) n n, .slice (some ⟨w.heap.size + 1 + 1, 0, none⟩) t t], .bool true]) (by simp [results, Try.results50, go_sem]) rfl ⟨w.heap.size + 1, n, w.heap.size + 1 + 1, t, rfl, new_b HL1.out HZ1.out (by simp (maxDischargeDepth := 12) [nwS, nwO, nwD]) (by omega) (by omega), new_i HL2.out HZ2.out (by simp (maxDischargeDepth := 12) [nwS, nwO, nwD]) (by omega) (by omega), by omega, (below_new' (below_new' (below_new w _) _) _).drew⟩
          | exact bodyPost_ret (v := .tuple #[.agg #[.slice (some ⟨w.heap.size + 1 + 1, 0, none⟩) n n, .slice (some ⟨w.heap.size + 1, 0, none⟩) t t], .bool true]) (by simp [results, Try.results50, go_sem]) rfl ⟨w.heap.size + 1 + 1, n, w.heap.size + 1, t, rfl, new_b HL1.out HZ1.out (by simp (maxDischargeDepth := 12) [nwS, nwO, nwD]) (by omega) (by omega), new_i HL2.out HZ2.out (by simp (maxDischargeDepth := 12) [nwS, nwO, nwD]) (by omega) (by omega), by omega, (below_new' (below_new' (below_new w _) _) _).drew⟩
    · have h2' : inB 0 5 t = false := by simpa using h2
      rw [new_none (by rw [h2']; simp)]
      rw [h2'] at hs2
      have HS2 := Lib.hid hs2
      clear h1 h2 h2' hs1 hs2
      go_enter Try.func50, Try.ntmps50
      go_wp2_with fail
      refine (HS1.out _).mono ?_
      rintro e w2 ⟨rfl, rfl⟩
      go_wp2_with fail
      refine (HS2.out _).mono ?_
      rintro e w2 ⟨rfl, rfl⟩
      go_wp2_with fail
      exact bodyPost_ret (v := .tuple #[.agg #[.slice none 0 0, .slice none 0 0], .bool false]) (by simp [results, Try.results50, go_sem]) rfl ⟨rfl, below_new w _⟩
  · have h1' : inB 1 5 n = false := by simpa using h1
    rw [h1'] at hs1
    have HS1 := Lib.hid hs1
    rw [new_none (by rw [h1']; simp)]
    clear h1 h1' hs1 hs2
    go_enter Try.func50, Try.ntmps50
    go_wp2_with fail
    refine (HS1.out _).mono ?_
    rintro e w2 ⟨rfl, rfl⟩
    go_wp2_with fail
    exact bodyPost_ret (v := .tuple #[.agg #[.slice none 0 0, .slice none 0 0], .bool false]) (by simp [results, Try.results50, go_sem]) rfl ⟨rfl, below_new w _⟩
end Go.Proofs.Ytebejpaghajhkaa
