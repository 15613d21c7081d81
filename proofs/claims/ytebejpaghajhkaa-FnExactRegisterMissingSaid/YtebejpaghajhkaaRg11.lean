/-
  The block at a minute, of the program and of the reference. No condition but lengths that fit.
-/
import Derived.Test.YtebejpaghajhkaaRg10
namespace Go.Proofs.Ytebejpaghajhkaa
open Go.RowKit
set_option linter.unusedVariables false
set_option linter.unusedSimpArgs false

/-- The state's number at a minute, 5 if there is none. -/
def blkJ (ns : List NV) (m : Int) : Nat := if sndB ns then runV 0 (txt (ns.take (unN ns m))) else 5
theorem snd_reg {ns : List NV} (h : sndB ns = true) : regB ns = true := by
  unfold sndB at h
  rw [Bool.and_eq_true] at h
  exact h.1
set_option maxRecDepth 100000 in
set_option maxHeartbeats 1600000 in
theorem implRBlock_any (A : Option Addr) (c : Nat) (ns : List NV) (m : Int) (w : World) (hs : SzNt ns) (hr : RdNt w A ns) :
    Calls Try.prog 47 #[.slice A ns.length c, .int .i64 m] w (RunE w (blkJ ns m)) := by
  have HSO := Lib.hid (soundOf_any A c ns (w.alloc (.cells #[.int .i64 0, .bool false, .bool false] 59)) hs (hr.below (below_new w _)))
  have S1 : Hid (Below w.heap.size w (w.alloc (.cells #[.int .i64 0, .bool false, .bool false] 59)) ∧ Blk (w.alloc (.cells #[.int .i64 0, .bool false, .bool false] 59)) w.heap.size 59 #[.int .i64 0, .bool false, .bool false]) := Lib.hid ⟨below_new w _, Blk.new _ _ _⟩
  have HST : Hid (∀ W W', (Below w.heap.size w W ∧ Blk W w.heap.size 59 #[.int .i64 0, .bool false, .bool false]) → Below W.heap.size W W' → (Below w.heap.size w W' ∧ Blk W' w.heap.size 59 #[.int .i64 0, .bool false, .bool false])) := Lib.hid fun W W' h k => ⟨below_to h.1 k h.1.size, h.2.below k h.2.lt⟩
  clear hr hs
  cases hv : sndB ns with
  | false =>
    have hj : blkJ ns m = 5 := by unfold blkJ; rw [if_neg (by rw [hv]; simp)]
    rw [hv] at HSO
    rw [hj]
    clear hv hj
    go_enter Try.func47, Try.ntmps47
    go_wp2_with fail
    generalize w.alloc (.cells #[.int .i64 0, .bool false, .bool false] 59) = W1 at *
    refine HSO.out.mono ?_
    rintro e w2 ⟨R, rfl, hb2, _⟩
    have S2 := Lib.hid (HST.out _ _ S1.out hb2)
    obtain ⟨c0, c1, c2, f0, f1, f2⟩ := blkCells S2.out.2
    clear hb2
    go_wp2_with fail
    have F := store3 S2.out.1 (Nat.le_refl _) S2.out.2 rfl (.int .i64 0) (.bool false) (.bool false)
    exact bodyPost_ret (v := .tuple #[.agg #[.int .i64 0, .bool false, .bool false], .bool false]) (by have r0 := F.2.1; have r1 := F.2.2.1; have r2 := F.2.2.2; simp [results, Try.results47, go_sem, r0, r1, r2]) rfl ⟨rfl, F.1⟩
  | true =>
    have hj : blkJ ns m = runV 0 (txt (ns.take (unN ns m))) := by unfold blkJ; rw [if_pos hv]
    have hrg := snd_reg hv
    have hl := reg_len hrg
    have hrt := reg_take hrg (unN ns m)
    have hz := txt_size hrt
    have hlt := reg_len hrt
    rw [hv] at HSO
    rw [hj]
    have HUN := Lib.hid (fun base R E w h => until_any base R E ns m w hl h)
    have HT := Lib.hid (fun base R E w h => text_any base R E (ns.take (unN ns m)) w hrt h)
    generalize ns.take (unN ns m) = ns2 at *
    have hrun := fun w : World => (show Calls Try.prog 79 #[.agg #[.int .i64 0, .bool false, .bool false], .string (txt ns2)] w (RunE w (runV 0 (txt ns2))) from implRun_any 0 (txt ns2) w (by omega) (by omega))
    generalize txt ns2 = X at *
    obtain ⟨J, hJ⟩ : ∃ J, runV 0 X = J := ⟨_, rfl⟩
    rw [hJ] at hrun ⊢
    unfold RunE at hrun ⊢
    obtain ⟨x, hx⟩ := runE_form J
    rw [hx] at hrun ⊢
    generalize decide (J < 5) = V at *
    have HRUN := Lib.hid hrun
    clear hv hj hrg hrt hz hlt hrun hJ hx
    go_enter Try.func47, Try.ntmps47
    go_wp2_with fail
    generalize w.alloc (.cells #[.int .i64 0, .bool false, .bool false] 59) = W1 at *
    refine HSO.out.mono ?_
    rintro e w2 ⟨R, rfl, hb2, hex⟩
    obtain ⟨E, hr2⟩ := hex rfl
    have S2 := Lib.hid (HST.out _ _ S1.out hb2)
    have R2 := Lib.hid hr2
    clear hb2 hr2 hex S1
    go_wp2_with fail
    refine (HUN.out _ _ _ _ R2.out).mono ?_
    rintro e w3 ⟨R', E', rfl, hr3, hb3⟩
    have S3 := Lib.hid (HST.out _ _ S2.out hb3)
    have R3 := Lib.hid hr3
    clear hb3 hr3 S2
    go_wp2_with fail
    refine (HT.out _ _ _ _ R3.out).mono ?_
    rintro e w4 ⟨rfl, hb4⟩
    have S4 := Lib.hid (HST.out _ _ S3.out hb4)
    clear hb4 S3
    go_wp2_with fail
    refine (HRUN.out _).mono ?_
    rintro e w5 ⟨rfl, hb5⟩
    have S5 := Lib.hid (HST.out _ _ S4.out hb5)
    obtain ⟨c0, c1, c2, f0, f1, f2⟩ := blkCells S5.out.2
    clear hb5 S4
    go_wp2_with fail
    have F := store3 S5.out.1 (Nat.le_refl _) S5.out.2 rfl (.int .i64 x.1) (.bool x.2.1) (.bool x.2.2)
    exact bodyPost_ret (v := .tuple #[.agg #[.int .i64 x.1, .bool x.2.1, .bool x.2.2], .bool V]) (by have r0 := F.2.1; have r1 := F.2.2.1; have r2 := F.2.2.2; simp [results, Try.results47, go_sem, r0, r1, r2]) rfl ⟨rfl, F.1⟩
set_option maxRecDepth 100000 in
set_option maxHeartbeats 1600000 in
theorem specRBlock_any (b off c : Nat) (ns : List NV) (m : Int) (w : World) (hs : SzNt ns) (hc : ns.length ≤ c) (hc2 : c ≤ 9223372036854775807) (hb : b < w.heap.size) (ha : AtNt w b off ns) :
    Calls Try.prog 46 #[.slice (some ⟨b, off, none⟩) ns.length c, .int .i64 m] w (RunE w (blkJ ns m)) := by
  have HSO := Lib.hid (specSound_any (some ⟨b, off, none⟩) c ns (w.alloc (.cells #[.int .i64 0, .bool false, .bool false] 59)) hs (fun _ => ⟨b, off, rfl, by simp; omega, ha.below (below_new w _) hb⟩))
  have S1 : Hid (Below w.heap.size w (w.alloc (.cells #[.int .i64 0, .bool false, .bool false] 59)) ∧ Blk (w.alloc (.cells #[.int .i64 0, .bool false, .bool false] 59)) w.heap.size 59 #[.int .i64 0, .bool false, .bool false]) := Lib.hid ⟨below_new w _, Blk.new _ _ _⟩
  have HST : Hid (∀ W W', (Below w.heap.size w W ∧ Blk W w.heap.size 59 #[.int .i64 0, .bool false, .bool false]) → Below W.heap.size W W' → (Below w.heap.size w W' ∧ Blk W' w.heap.size 59 #[.int .i64 0, .bool false, .bool false])) := Lib.hid fun W W' h k => ⟨below_to h.1 k h.1.size, h.2.below k h.2.lt⟩
  have HUN := Lib.hid (fun W (k : Below w.heap.size w W) => l5Until_any b off c ns m W hs.1 hc hc2 (Nat.lt_of_lt_of_le hb k.size) (ha.below k hb))
  clear ha hs
  cases hv : sndB ns with
  | false =>
    have hj : blkJ ns m = 5 := by unfold blkJ; rw [if_neg (by rw [hv]; simp)]
    rw [hv] at HSO
    rw [hj]
    clear hv hj
    go_enter Try.func46, Try.ntmps46
    go_wp2_with fail
    generalize w.alloc (.cells #[.int .i64 0, .bool false, .bool false] 59) = W1 at *
    refine HSO.out.mono ?_
    rintro e w2 ⟨rfl, hb2⟩
    have S2 := Lib.hid (HST.out _ _ S1.out hb2)
    obtain ⟨c0, c1, c2, f0, f1, f2⟩ := blkCells S2.out.2
    clear hb2
    go_wp2_with fail
    have F := store3 S2.out.1 (Nat.le_refl _) S2.out.2 rfl (.int .i64 0) (.bool false) (.bool false)
    exact bodyPost_ret (v := .tuple #[.agg #[.int .i64 0, .bool false, .bool false], .bool false]) (by have r0 := F.2.1; have r1 := F.2.2.1; have r2 := F.2.2.2; simp [results, Try.results46, go_sem, r0, r1, r2]) rfl ⟨rfl, F.1⟩
  | true =>
    have hj : blkJ ns m = runV 0 (txt (ns.take (unN ns m))) := by unfold blkJ; rw [if_pos hv]
    have hrg := snd_reg hv
    have hl := reg_len hrg
    have hrt := reg_take hrg (unN ns m)
    have hz := txt_size hrt
    have hlt := reg_len hrt
    rw [hv] at HSO
    rw [hj]
    have HT := Lib.hid (fun A c w h => l5Text_any A c (ns.take (unN ns m)) w hrt h)
    generalize ns.take (unN ns m) = ns2 at *
    have hrun := fun w : World => (show Calls Try.prog 78 #[.agg #[.int .i64 0, .bool false, .bool false], .string (txt ns2)] w (RunE w (runV 0 (txt ns2))) from specRun_any 0 (txt ns2) w (by omega) (by omega))
    generalize txt ns2 = X at *
    obtain ⟨J, hJ⟩ : ∃ J, runV 0 X = J := ⟨_, rfl⟩
    rw [hJ] at hrun ⊢
    unfold RunE at hrun ⊢
    obtain ⟨x, hx⟩ := runE_form J
    rw [hx] at hrun ⊢
    generalize decide (J < 5) = V at *
    have HRUN := Lib.hid hrun
    clear hv hj hrg hrt hz hlt hrun hJ hx
    go_enter Try.func46, Try.ntmps46
    go_wp2_with fail
    generalize w.alloc (.cells #[.int .i64 0, .bool false, .bool false] 59) = W1 at *
    refine HSO.out.mono ?_
    rintro e w2 ⟨rfl, hb2⟩
    have S2 := Lib.hid (HST.out _ _ S1.out hb2)
    clear hb2 S1
    go_wp2_with fail
    refine (HUN.out _ S2.out.1).mono ?_
    rintro e w3 ⟨g3, d3, rfl, ho3, hb3⟩
    have S3 := Lib.hid (HST.out _ _ S2.out hb3)
    have O3 := Lib.hid (fun _ : 0 < ns2.length => (⟨g3, 0, rfl, ho3.lt, ho3.at⟩ : ∃ b off, some (⟨g3, 0, none⟩ : Addr) = some ⟨b, off, none⟩ ∧ b < w3.heap.size ∧ AtNt w3 b off ns2))
    clear hb3 ho3 S2
    go_wp2_with fail
    refine (HT.out _ _ _ O3.out).mono ?_
    rintro e w4 ⟨rfl, rfl⟩
    go_wp2_with fail
    refine (HRUN.out _).mono ?_
    rintro e w5 ⟨rfl, hb5⟩
    have S5 := Lib.hid (HST.out _ _ S3.out hb5)
    obtain ⟨c0, c1, c2, f0, f1, f2⟩ := blkCells S5.out.2
    clear hb5 S3
    go_wp2_with fail
    have F := store3 S5.out.1 (Nat.le_refl _) S5.out.2 rfl (.int .i64 x.1) (.bool x.2.1) (.bool x.2.2)
    exact bodyPost_ret (v := .tuple #[.agg #[.int .i64 x.1, .bool x.2.1, .bool x.2.2], .bool V]) (by have r0 := F.2.1; have r1 := F.2.2.1; have r2 := F.2.2.2; simp [results, Try.results46, go_sem, r0, r1, r2]) rfl ⟨rfl, F.1⟩
end Go.Proofs.Ytebejpaghajhkaa
