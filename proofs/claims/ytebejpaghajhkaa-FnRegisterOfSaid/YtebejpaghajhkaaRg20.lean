/-
  Registers' draws: BlockNext of the reference, weakly: some letters. No condition.
-/
import Derived.Test.YtebejpaghajhkaaGb
import Derived.Test.YtebejpaghajhkaaLn11
import Derived.Deep.DeepCutAuto
namespace Go.Proofs.Ytebejpaghajhkaa
open Go.RowKit
set_option linter.unusedVariables false
set_option linter.unusedSimpArgs false

def SomeNext (w : World) (e : Ending) (w' : World) : Prop := ∃ S : ByteArray, e = .returned (.string S) ∧ S.size ≤ 7 ∧ Below w.heap.size w w'
def Bn (w W : World) (n : Int) (i o : Bool) : Prop := Below w.heap.size w W ∧ Blk W w.heap.size 59 #[.int .i64 n, .bool i, .bool o]
theorem Bn.step {w W W' : World} {n : Int} {i o : Bool} (h : Bn w W n i o) (k : Below W.heap.size W W') : Bn w W' n i o := ⟨below_to h.1 k h.1.size, h.2.below k h.2.lt⟩
theorem next_ext (i : Nat) (h : i < 7) : (ByteArray.extract ⟨#[97, 99, 101, 102, 108, 111, 114]⟩ i (i + 1)).size = 1 := by
  rcases (show i = 0 ∨ i = 1 ∨ i = 2 ∨ i = 3 ∨ i = 4 ∨ i = 5 ∨ i = 6 by omega) with rfl | rfl | rfl | rfl | rfl | rfl | rfl <;> decide
set_option maxHeartbeats 1600000 in
theorem blockNext_any (n : Int) (i o : Bool) (w : World) : Calls Try.prog 103 #[.agg #[.int .i64 n, .bool i, .bool o]] w (SomeNext w) := by
  have S1 : Hid (Bn w (w.alloc (.cells #[.int .i64 n, .bool i, .bool o] 59)) n i o) := Lib.hid ⟨below_new w _, Blk.new _ _ _⟩
  have hbs := fun (s : ByteArray) (hs : s.size = 1) (W : World) => specBstep_any n i o s W (by omega)
  unfold BstV at hbs
  have HBS := Lib.hid hbs
  clear hbs
  go_enter Try.func103, Try.ntmps103
  go_wp2_with fail
  generalize w.alloc (.cells #[.int .i64 n, .bool i, .bool o] 59) = W1 at *
  go_loopw [4, 5] (fun q a wr => ∃ (k : Nat) (S : ByteArray), k ≤ 7 ∧ a = .int .i64 k ∧ q = .string S ∧ S.size ≤ k ∧ Bn w wr n i o) (fun _ a _ => 7 - (intOf a).toNat)
  case atStart => exact ⟨0, ByteArray.empty, by omega, rfl, rfl, by decide, S1.out⟩
  case round =>
    clear S1
    obtain ⟨k, S, hk, rfl, rfl, hS, hb⟩ := hrel
    have S4 := Lib.hid hb
    clear hb
    by_cases hlt : k < 7
    · have t0 := dec_t (show (k : Int) < 7 by omega)
      have i2 : (k : Int) < 7 := by omega
      have i3 : (k : Int) + 1 ≤ 7 := by omega
      have i4 : (0 : Int) ≤ (k : Int) := by omega
      have i5 : (k : Int) ≤ (k : Int) + 1 := by omega
      have i6 : IntKind.i64.wrap ((k : Int) + 1) = (k : Int) + 1 := IntWalk.i64_in _ (by omega)
      have hex := next_ext k hlt
      obtain ⟨x, hx⟩ : ∃ x, ByteArray.extract ⟨#[97, 99, 101, 102, 108, 111, 114]⟩ k (k + 1) = x := ⟨_, rfl⟩
      rw [hx] at hex
      obtain ⟨⟨Xn, Xi, Xo⟩, hX⟩ : ∃ b, bst (n, i, o) x = b := ⟨_, rfl⟩
      obtain ⟨V, hV⟩ : ∃ V, decide (bstep (n, i, o) x < 5) = V := ⟨_, rfl⟩
      have hbx := HBS.out x hex
      rw [hX, hV] at hbx
      simp only [bv] at hbx
      have HBX := Lib.hid hbx
      clear hbx hX hV
      obtain ⟨c0, c1, c2, _, _, _⟩ := blkCells S4.out.2
      have n0 := World.new_ne wr _ c0
      have n1 := World.new_ne wr _ c1
      have n2 := World.new_ne wr _ c2
      go_upto_region 6 with fail
      go_cut [7] (fun a7 wx => a7 = .bool V ∧ Bn w wx n i o)
      case first =>
        go_region_held3 (fun w' => w'.cell? ⟨w.heap.size, 0, none⟩ = some (.int .i64 n) ∧ w'.cell? ⟨w.heap.size, 1, none⟩ = some (.bool i) ∧ w'.cell? ⟨w.heap.size, 2, none⟩ = some (.bool o)) (go_keep) ((go_at_call 98; go_must (go_fit (HBX.out _); rintro e w8 ⟨rfl, hb8⟩; (first | (have B8 : Hid (Below wr.heap.size wr w8) := Lib.hid ((Below.refl _ _).drew.trans hb8); have S8 := Lib.hid (S4.out.step B8.out); obtain ⟨y0, y1, y2, _, _, _⟩ := blkCells S8.out.2; clear hb8) | (have B8 : Hid (Below wr.heap.size wr w8) := Lib.hid (below_to (below_new wr _).drew hb8 (by simp)); have S8 := Lib.hid (S4.out.step B8.out); have KB := Lib.hid ((Blk.new wr _ _).drew.below hb8 (by simp)); obtain ⟨e0, e1, e2, e3, e4, e5⟩ := blkCells KB.out; obtain ⟨y0, y1, y2, _, _, _⟩ := blkCells S8.out.2; clear hb8)))))
        all_goals
          go_wp2_with fail
          go_meet
          first
            | exact ⟨rfl, S8.out.step (below_new w8 _)⟩
            | exact ⟨rfl, S4.out.step (((B8.out.setCell (Nat.le_refl _) _).setCell (Nat.le_refl _) _).setCell (Nat.le_refl _) _)⟩
      obtain ⟨rfl, hv8⟩ := hcut
      have S8 := Lib.hid hv8
      clear hv8 S4 c0 c1 c2 n0 n1 n2
      have HEX := Lib.hid hex
      have hcc : S.size + x.size ≤ 9223372036854775807 := by omega
      have hcc2 : ¬ 9223372036854775807 < S.size + x.size := by omega
      have hklt : k + 1 ≤ 7 := hlt
      clear hlt hex
      cases V with
      | false =>
        go_wp2_with fail
        go_roundw
        case rel => exact ⟨k + 1, S, hklt, by go_num, rfl, by omega, S8.out⟩
        case measure => simp [intOf]; omega
      | true =>
        go_wp2_with fail
        go_roundw
        case rel => exact ⟨k + 1, S ++ x, hklt, by go_num, rfl, by rw [ByteArray.size_append, HEX.out]; omega, S8.out⟩
        case measure => simp [intOf]; omega
    · obtain rfl : k = 7 := by omega
      go_wp2_with fail
      go_ret
      exact ⟨S, rfl, hS, S4.out.1⟩
end Go.Proofs.Ytebejpaghajhkaa
