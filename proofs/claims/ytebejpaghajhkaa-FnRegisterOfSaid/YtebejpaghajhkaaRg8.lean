/-
  The block behind a text of events: BlockRun and BlockLegal of the program and of the reference. No condition but lengths that fit.
-/
import Derived.Test.YtebejpaghajhkaaLn11
import Derived.Deep.DeepCutAuto
namespace Go.Proofs.Ytebejpaghajhkaa
open Go.RowKit
set_option linter.unusedVariables false
set_option linter.unusedSimpArgs false

/-- The state's number behind the first k events, 5 if there is none. -/
def runK (s : ByteArray) (q : Nat) : Nat → Nat
  | 0 => q
  | k + 1 => nextS (runK s q k) (s.data.toList.getD k 0)
theorem nextS_5 (c : UInt8) : nextS 5 c = 5 := by simp [nextS]
theorem runK_le {s : ByteArray} {q : Nat} (hq : q ≤ 5) (k : Nat) : runK s q k ≤ 5 := by
  cases k with
  | zero => exact hq
  | succ k => exact nextS_le _ _
theorem runK_five {s : ByteArray} {q k n : Nat} (h : runK s q k = 5) (hn : k ≤ n) : runK s q n = 5 := by
  induction n with
  | zero => obtain rfl : k = 0 := by omega
            exact h
  | succ n ih =>
    rcases Nat.lt_or_ge n k with h1 | h1
    · obtain rfl : k = n + 1 := by omega
      exact h
    · simp only [runK]; rw [ih h1]; exact nextS_5 _
def runV (q : Nat) (s : ByteArray) : Nat := if s.size ≤ 30 then runK s q s.size else 5
theorem runV_t {q : Nat} {s : ByteArray} (h : s.size ≤ 30) : runV q s = runK s q s.size := if_pos h
theorem runV_f {q : Nat} {s : ByteArray} (h : ¬ s.size ≤ 30) : runV q s = 5 := if_neg h
theorem runV_le {q : Nat} {s : ByteArray} (hq : q ≤ 5) : runV q s ≤ 5 := by
  unfold runV
  split
  · exact runK_le hq _
  · omega
/-- The block of a state, the normal one if there is none. -/
def rst (j : Nat) : BV := if j < 5 then st j else Z3
theorem rst_t {j : Nat} (h : j < 5) : rst j = st j := if_pos h
theorem rst_5 : rst 5 = Z3 := rfl
def runE (j : Nat) : Value := .tuple #[.agg #[.int .i64 (rst j).1, .bool (rst j).2.1, .bool (rst j).2.2], .bool (decide (j < 5))]
def RunE (w : World) (j : Nat) (e : Ending) (w' : World) : Prop := e = .returned (runE j) ∧ Below w.heap.size w w'
theorem runE_5 : runE 5 = .tuple #[.agg #[.int .i64 0, .bool false, .bool false], .bool false] := rfl
theorem byte_get (S : ByteArray) (k : Nat) (h : k < S.size) : S[k] = S.data.toList.getD k 0 := by
  have hl : k < S.data.toList.length := by simpa using h
  simp [List.getD, List.getElem?_eq_getElem hl]
  rfl

set_option maxRecDepth 100000 in
set_option maxHeartbeats 3200000 in
theorem implRun_any (q : Nat) (s : ByteArray) (w : World) (hq : q < 5) (hs : s.size ≤ 9223372036854775807) :
    Calls Try.prog 79 #[.agg #[.int .i64 (st q).1, .bool (st q).2.1, .bool (st q).2.2], .string s] w (RunE w (runV q s)) := by
  have hqn := stN_st hq
  obtain ⟨⟨n, i, o⟩, hst⟩ : ∃ x, st q = x := ⟨_, rfl⟩
  rw [hst] at hqn ⊢
  simp only
  let W2 := (w.alloc (.cells #[.int .i64 n, .bool i, .bool o] 59)).alloc (.cells #[.int .i64 0, .bool false, .bool false] 59)
  have K2 : Hid (Below w.heap.size w W2 ∧ Blk W2 (w.heap.size + 1) 59 #[.int .i64 0, .bool false, .bool false]) := Lib.hid ⟨below_new' (below_new w _) _, by simpa using Blk.new (w.alloc (.cells #[.int .i64 n, .bool i, .bool o] 59)) 59 #[.int .i64 0, .bool false, .bool false]⟩
  have HST : Hid (∀ W, (Below w.heap.size w W ∧ Blk W (w.heap.size + 1) 59 #[.int .i64 0, .bool false, .bool false]) → ∀ W', Below W.heap.size W W' → (Below w.heap.size w W' ∧ Blk W' (w.heap.size + 1) 59 #[.int .i64 0, .bool false, .bool false])) := Lib.hid fun W h W' k => ⟨below_to h.1 k h.1.size, h.2.below k h.2.lt⟩
  have hin := fun w => instr_any n i o w
  obtain ⟨V, hV⟩ : ∃ V, ifc q = V := ⟨_, rfl⟩
  rw [hqn, dec_t hq, hV] at hin
  have HVQ := Lib.hid hV
  have HI := Lib.hid hin
  have HQ := Lib.hid hq
  obtain ⟨J, hJ⟩ : ∃ J, runV q s = J := ⟨_, rfl⟩
  rw [hJ]
  have HJ := Lib.hid hJ
  clear hin hqn hq hJ hst hV
  by_cases h30 : s.size ≤ 30
  · have t0 := dec_f (show ¬ (30 : Int) < (s.size : Int) by omega)
    have R0 : Hid (runK s q 0 = q) := Lib.hid rfl
    go_enter Try.func79, Try.ntmps79
    go_wp2_with fail
    refine (HI.out _).mono ?_
    rintro e w3 ⟨rfl, hb3⟩
    have S3 := Lib.hid (HST.out _ K2.out _ hb3)
    clear hb3
    go_wp2_with fail
    go_loopw [6, 24] (fun a i wr => ∃ (k j : Nat), k ≤ s.size ∧ i = .int .i64 k ∧ a = ifc j ∧ j < 5 ∧ Hid (runK s q k = j) ∧ Below w.heap.size w wr ∧ Blk wr (w.heap.size + 1) 59 #[.int .i64 0, .bool false, .bool false]) (fun _ i _ => s.size - (intOf i).toNat)
    case atStart => exact ⟨0, q, Nat.zero_le _, rfl, HVQ.out.symm, HQ.out, R0, S3.out.1, S3.out.2⟩
    case round =>
      clear S3 K2 R0
      obtain ⟨k, j, hk, rfl, rfl, hj, HR, hb, hblk⟩ := hrel
      have S4 : Hid (Below w.heap.size w wr ∧ Blk wr (w.heap.size + 1) 59 #[.int .i64 0, .bool false, .bool false]) := Lib.hid ⟨hb, hblk⟩
      obtain ⟨c0, c1, c2, f0, f1, f2⟩ := blkCells hblk
      clear hb hblk
      by_cases hlt : k < s.size
      · have hg := byte_get s k hlt
        have hnx : runK s q (k + 1) = nextS j (s.data.toList.getD k 0) := by rw [← HR.out]; rfl
        obtain ⟨c, hc⟩ : ∃ c, s.data.toList.getD k 0 = c := ⟨_, rfl⟩
        rw [hc] at hg hnx
        rw [nextS_nextI] at hnx
        have i1 : (k : Int) < (s.size : Int) := by omega
        have hbh := fun w => behind_any j (c.toNat : Int) w hj
        have hle := nextI_le j (c.toNat : Int)
        unfold behV at hbh
        obtain ⟨j2, hj2⟩ : ∃ j2, nextI j (c.toNat : Int) = j2 := ⟨_, rfl⟩
        rw [hj2] at hbh hle hnx
        have HNX := Lib.hid hnx
        by_cases h5 : j2 = 5
        · rw [if_pos h5] at hbh
          have HBH := Lib.hid hbh
          have HJ5 : Hid (J = 5) := Lib.hid (by rw [← HJ.out, runV_t h30]; exact runK_five (by rw [HNX.out, h5]) hlt)
          clear hc hj2 hbh hnx h5 hle hj
          go_wp2_with fail
          refine (HBH.out _).mono ?_
          rintro e w5 ⟨rfl, rfl⟩
          go_wp2_with fail
          have F := store3 S4.out.1 (by omega) S4.out.2 rfl (.int .i64 0) (.bool false) (.bool false)
          rw [HJ5.out]
          exact bodyPost_ret (v := .tuple #[.agg #[.int .i64 0, .bool false, .bool false], .bool false]) (by have r0 := F.2.1; have r1 := F.2.2.1; have r2 := F.2.2.2; simp [results, Try.results79, go_sem, r0, r1, r2]) rfl ⟨rfl, F.1⟩
        · rw [if_neg h5] at hbh
          have HBH := Lib.hid hbh
          have hj5 : j2 < 5 := by omega
          clear hc hj2 hbh hnx h5 hle hj
          go_wp2_with fail
          refine (HBH.out _).mono ?_
          rintro e w5 ⟨rfl, rfl⟩
          go_wp2_with fail
          go_roundw
          case rel => exact ⟨k + 1, j2, by omega, by go_num, rfl, hj5, HNX, S4.out.1, S4.out.2⟩
          case measure => simp [intOf]; omega
      · obtain rfl : k = s.size := by omega
        have HJ5 : Hid (J = j) := Lib.hid (by rw [← HJ.out, runV_t h30]; exact HR.out)
        clear hlt
        rcases (show j = 0 ∨ j = 1 ∨ j = 2 ∨ j = 3 ∨ j = 4 by omega) with rfl | rfl | rfl | rfl | rfl
        · have hm : ∀ W : World, (method 258 130 (.agg #[]) "loop.example/blockboxes/impl.block").run Try.prog W = .ok (126, .agg #[]) W := fun _ => by kernel_rfl
          have HBK := Lib.hid (fun w => blk0 w)
          simp only [ifc]
          go_wp2_with (go_at_call 126; go_must (go_fit (HBK.out _); rintro e w5 ⟨rfl, hb5⟩; have S5 := Lib.hid (HST.out _ S4.out _ hb5); obtain ⟨d0, d1, d2, g0, g1, g2⟩ := blkCells S5.out.2; clear hb5))
          have F := store3 S5.out.1 (by omega) S5.out.2 rfl (.int .i64 0) (.bool false) (.bool false)
          rw [HJ5.out]
          exact bodyPost_ret (v := .tuple #[.agg #[.int .i64 0, .bool false, .bool false], .bool true]) (by have r0 := F.2.1; have r1 := F.2.2.1; have r2 := F.2.2.2; simp [results, Try.results79, go_sem, r0, r1, r2]) rfl ⟨rfl, F.1⟩
        · have hm : ∀ W : World, (method 258 131 (.agg #[]) "loop.example/blockboxes/impl.block").run Try.prog W = .ok (127, .agg #[]) W := fun _ => by kernel_rfl
          have HBK := Lib.hid (fun w => blk1 w)
          simp only [ifc]
          go_wp2_with (go_at_call 127; go_must (go_fit (HBK.out _); rintro e w5 ⟨rfl, hb5⟩; have S5 := Lib.hid (HST.out _ S4.out _ hb5); obtain ⟨d0, d1, d2, g0, g1, g2⟩ := blkCells S5.out.2; clear hb5))
          have F := store3 S5.out.1 (by omega) S5.out.2 rfl (.int .i64 0) (.bool false) (.bool true)
          rw [HJ5.out]
          exact bodyPost_ret (v := .tuple #[.agg #[.int .i64 0, .bool false, .bool true], .bool true]) (by have r0 := F.2.1; have r1 := F.2.2.1; have r2 := F.2.2.2; simp [results, Try.results79, go_sem, r0, r1, r2]) rfl ⟨rfl, F.1⟩
        · have hm : ∀ W : World, (method 258 132 (.agg #[]) "loop.example/blockboxes/impl.block").run Try.prog W = .ok (128, .agg #[]) W := fun _ => by kernel_rfl
          have HBK := Lib.hid (fun w => blk2 w)
          simp only [ifc]
          go_wp2_with (go_at_call 128; go_must (go_fit (HBK.out _); rintro e w5 ⟨rfl, hb5⟩; have S5 := Lib.hid (HST.out _ S4.out _ hb5); obtain ⟨d0, d1, d2, g0, g1, g2⟩ := blkCells S5.out.2; clear hb5))
          have F := store3 S5.out.1 (by omega) S5.out.2 rfl (.int .i64 1) (.bool false) (.bool false)
          rw [HJ5.out]
          exact bodyPost_ret (v := .tuple #[.agg #[.int .i64 1, .bool false, .bool false], .bool true]) (by have r0 := F.2.1; have r1 := F.2.2.1; have r2 := F.2.2.2; simp [results, Try.results79, go_sem, r0, r1, r2]) rfl ⟨rfl, F.1⟩
        · have hm : ∀ W : World, (method 258 133 (.agg #[]) "loop.example/blockboxes/impl.block").run Try.prog W = .ok (129, .agg #[]) W := fun _ => by kernel_rfl
          have HBK := Lib.hid (fun w => blk3 w)
          simp only [ifc]
          go_wp2_with (go_at_call 129; go_must (go_fit (HBK.out _); rintro e w5 ⟨rfl, hb5⟩; have S5 := Lib.hid (HST.out _ S4.out _ hb5); obtain ⟨d0, d1, d2, g0, g1, g2⟩ := blkCells S5.out.2; clear hb5))
          have F := store3 S5.out.1 (by omega) S5.out.2 rfl (.int .i64 2) (.bool true) (.bool false)
          rw [HJ5.out]
          exact bodyPost_ret (v := .tuple #[.agg #[.int .i64 2, .bool true, .bool false], .bool true]) (by have r0 := F.2.1; have r1 := F.2.2.1; have r2 := F.2.2.2; simp [results, Try.results79, go_sem, r0, r1, r2]) rfl ⟨rfl, F.1⟩
        · have hm : ∀ W : World, (method 258 134 (.agg #[]) "loop.example/blockboxes/impl.block").run Try.prog W = .ok (130, .agg #[]) W := fun _ => by kernel_rfl
          have HBK := Lib.hid (fun w => blk4 w)
          simp only [ifc]
          go_wp2_with (go_at_call 130; go_must (go_fit (HBK.out _); rintro e w5 ⟨rfl, hb5⟩; have S5 := Lib.hid (HST.out _ S4.out _ hb5); obtain ⟨d0, d1, d2, g0, g1, g2⟩ := blkCells S5.out.2; clear hb5))
          have F := store3 S5.out.1 (by omega) S5.out.2 rfl (.int .i64 2) (.bool false) (.bool false)
          rw [HJ5.out]
          exact bodyPost_ret (v := .tuple #[.agg #[.int .i64 2, .bool false, .bool false], .bool true]) (by have r0 := F.2.1; have r1 := F.2.2.1; have r2 := F.2.2.2; simp [results, Try.results79, go_sem, r0, r1, r2]) rfl ⟨rfl, F.1⟩
  · have t0 := dec_t (show (30 : Int) < (s.size : Int) by omega)
    have HJ5 : Hid (J = 5) := Lib.hid (by rw [← HJ.out, runV_f h30])
    rw [HJ5.out]
    go_enter Try.func79, Try.ntmps79
    go_wp2_with fail
    refine (HI.out _).mono ?_
    rintro e w3 ⟨rfl, hb3⟩
    have S3 := Lib.hid (HST.out _ K2.out _ hb3)
    obtain ⟨c0, c1, c2, f0, f1, f2⟩ := blkCells S3.out.2
    clear hb3
    go_wp2_with fail
    have F := store3 S3.out.1 (by omega) S3.out.2 rfl (.int .i64 0) (.bool false) (.bool false)
    exact bodyPost_ret (v := .tuple #[.agg #[.int .i64 0, .bool false, .bool false], .bool false]) (by have r0 := F.2.1; have r1 := F.2.2.1; have r2 := F.2.2.2; simp [results, Try.results79, go_sem, r0, r1, r2]) rfl ⟨rfl, F.1⟩
end Go.Proofs.Ytebejpaghajhkaa
