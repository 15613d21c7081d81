/-
  The block behind a text of events, of the reference; BlockLegal of both. No condition but lengths that fit.
-/
import Derived.Test.YtebejpaghajhkaaRg8
import Derived.Deep.CutRange
namespace Go.Proofs.Ytebejpaghajhkaa
open Go.RowKit
set_option linter.unusedVariables false
set_option linter.unusedSimpArgs false

/-- A block in a box, and the result's own cells. -/
def Br (w W : World) (x : BV) : Prop := Below w.heap.size w W ∧ Blk W w.heap.size 59 #[.int .i64 x.1, .bool x.2.1, .bool x.2.2] ∧ Blk W (w.heap.size + 1) 59 #[.int .i64 0, .bool false, .bool false]
section
variable {w W W' : World} {x : BV}
theorem Br.step (h : Br w W x) (k : Below W.heap.size W W') : Br w W' x := ⟨below_to h.1 k h.1.size, h.2.1.below k h.2.1.lt, h.2.2.below k h.2.2.lt⟩
theorem Br.drew (h : Br w W x) : Br w W.drew x := ⟨h.1.drew, h.2.1, h.2.2⟩
theorem Br.alloc (h : Br w W x) (o : Obj) : Br w (W.alloc o) x := h.step (below_new W o)
theorem Br.far3 {P : Nat} (h : Br w W x) (hP : w.heap.size + 1 < P) (a b c : Value) : Br w (((W.setCell ⟨P, 0, none⟩ a).setCell ⟨P, 1, none⟩ b).setCell ⟨P, 2, none⟩ c) x :=
  ⟨((h.1.setCell (p := ⟨P, 0, none⟩) (by show w.heap.size ≤ P; omega) _).setCell (p := ⟨P, 1, none⟩) (by show w.heap.size ≤ P; omega) _).setCell (p := ⟨P, 2, none⟩) (by show w.heap.size ≤ P; omega) _,
   ((h.2.1.far (p := ⟨P, 0, none⟩) (by show w.heap.size ≠ P; omega) _).far (p := ⟨P, 1, none⟩) (by show w.heap.size ≠ P; omega) _).far (p := ⟨P, 2, none⟩) (by show w.heap.size ≠ P; omega) _,
   ((h.2.2.far (p := ⟨P, 0, none⟩) (by show w.heap.size + 1 ≠ P; omega) _).far (p := ⟨P, 1, none⟩) (by show w.heap.size + 1 ≠ P; omega) _).far (p := ⟨P, 2, none⟩) (by show w.heap.size + 1 ≠ P; omega) _⟩
theorem Br.put (h : Br w W x) (y : BV) : Br w (((W.setCell ⟨w.heap.size, 0, none⟩ (.int .i64 y.1)).setCell ⟨w.heap.size, 1, none⟩ (.bool y.2.1)).setCell ⟨w.heap.size, 2, none⟩ (.bool y.2.2)) y := by
  refine ⟨((h.1.setCell (p := ⟨w.heap.size, 0, none⟩) (Nat.le_refl _) _).setCell (p := ⟨w.heap.size, 1, none⟩) (Nat.le_refl _) _).setCell (p := ⟨w.heap.size, 2, none⟩) (Nat.le_refl _) _, ?_,
   ((h.2.2.far (p := ⟨w.heap.size, 0, none⟩) (by show w.heap.size + 1 ≠ w.heap.size; omega) _).far (p := ⟨w.heap.size, 1, none⟩) (by show w.heap.size + 1 ≠ w.heap.size; omega) _).far (p := ⟨w.heap.size, 2, none⟩) (by show w.heap.size + 1 ≠ w.heap.size; omega) _⟩
  have := ((h.2.1.set_ 0 (.int .i64 y.1)).set_ 1 (.bool y.2.1)).set_ 2 (.bool y.2.2)
  simpa using this
end
theorem blk_put3 {W : World} {P : Nat} {T : TypeId} {a b c : Value} (h : Blk W P T #[a, b, c]) (x y z : Value) : Blk (((W.setCell ⟨P, 0, none⟩ x).setCell ⟨P, 1, none⟩ y).setCell ⟨P, 2, none⟩ z) P T #[x, y, z] := by
  have := ((h.set_ 0 x).set_ 1 y).set_ 2 z
  simpa using this
theorem st_beh : ∀ j, j < 5 → ∀ x, nextI j x ≠ 5 → l3V j x = .tuple #[.agg #[.int .i64 (st (nextI j x)).1, .bool (st (nextI j x)).2.1, .bool (st (nextI j x)).2.2], .bool true] := fun j _ x h => by unfold l3V; rw [if_neg h]; rfl
set_option maxRecDepth 100000 in
set_option maxHeartbeats 3200000 in
theorem specRun_any (q : Nat) (s : ByteArray) (w : World) (hq : q < 5) (hs : s.size ≤ 9223372036854775807) :
    Calls Try.prog 78 #[.agg #[.int .i64 (st q).1, .bool (st q).2.1, .bool (st q).2.2], .string s] w (RunE w (runV q s)) := by
  have K2 : Hid (Br w ((w.alloc (.cells #[.int .i64 (st q).1, .bool (st q).2.1, .bool (st q).2.2] 59)).alloc (.cells #[.int .i64 0, .bool false, .bool false] 59)) (st q)) :=
    Lib.hid ⟨below_new' (below_new w _) _, (Blk.new _ _ _).alloc _, by simpa using Blk.new (w.alloc (.cells #[.int .i64 (st q).1, .bool (st q).2.1, .bool (st q).2.2] 59)) 59 #[.int .i64 0, .bool false, .bool false]⟩
  have hpo := fun w => specPoss_any (st q).1 (st q).2.1 (st q).2.2 w
  have hpp : possB ((st q).1, (st q).2.1, (st q).2.2) = true := by
    unfold possB
    exact dec_t (show stN (st q) < 5 by rw [stN_st hq]; exact hq)
  rw [hpp] at hpo
  obtain ⟨J, hJ⟩ : ∃ J, runV q s = J := ⟨_, rfl⟩
  rw [hJ]
  have HJ := Lib.hid hJ
  have HQ := Lib.hid hq
  have HSQ : Hid (∃ x : BV, x = st q) := Lib.hid ⟨_, rfl⟩
  obtain ⟨b, hb⟩ := HSQ.out
  rw [← hb] at K2 hpo ⊢
  have HBQ := Lib.hid hb
  have HPO := Lib.hid hpo
  clear hpo hpp hJ hq HSQ hb
  by_cases h30 : s.size ≤ 30
  · have t0 := dec_f (show ¬ (30 : Int) < (s.size : Int) by omega)
    have R0 : Hid (runK s q 0 = q) := Lib.hid rfl
    go_enter Try.func78, Try.ntmps78
    go_wp2_with fail
    generalize (w.alloc (.cells #[.int .i64 b.1, .bool b.2.1, .bool b.2.2] 59)).alloc (.cells #[.int .i64 0, .bool false, .bool false] 59) = W2 at *
    refine (HPO.out _).mono ?_
    rintro e w3 ⟨rfl, hb3⟩
    have S3 := Lib.hid (K2.out.step hb3)
    clear hb3 K2
    go_wp2_with fail
    go_loopw [6] (fun i wr => ∃ (k j : Nat) (x : BV), k ≤ s.size ∧ i = .int .i64 k ∧ j < 5 ∧ Hid (runK s q k = j) ∧ Hid (x = st j) ∧ Br w wr x) (fun i _ => s.size - (intOf i).toNat)
    case atStart => exact ⟨0, q, b, Nat.zero_le _, rfl, HQ.out, R0, HBQ, S3.out⟩
    case round =>
      clear S3 R0
      obtain ⟨k, j, x, hk, rfl, hj, HR, HX, hbr⟩ := hrel
      have S4 := Lib.hid hbr
      clear hbr
      obtain ⟨c0, c1, c2, f0, f1, f2⟩ := blkCells S4.out.2.1
      by_cases hlt : k < s.size
      · have hg := byte_get s k hlt
        have hnx : runK s q (k + 1) = nextS j (s.data.toList.getD k 0) := by rw [← HR.out]; rfl
        obtain ⟨c, hc⟩ : ∃ c, s.data.toList.getD k 0 = c := ⟨_, rfl⟩
        rw [hc] at hg hnx
        rw [nextS_nextI] at hnx
        have i1 : (k : Int) < (s.size : Int) := by omega
        have hl3 := fun w => l3Step_any j (c.toNat : Int) w hj
        rw [← HX.out] at hl3
        have hle := nextI_le j (c.toNat : Int)
        have hz := World.new_ne wr _ c0
        by_cases h5 : nextI j (c.toNat : Int) = 5
        · have hv : l3V j (c.toNat : Int) = .tuple #[.agg #[.int .i64 0, .bool false, .bool false], .bool false] := by unfold l3V; rw [if_pos h5]
          rw [hv] at hl3
          have HL := Lib.hid hl3
          have HJ5 : Hid (J = 5) := Lib.hid (by rw [← HJ.out, runV_t h30]; exact runK_five (by rw [hnx, h5]) hlt)
          clear hc hl3 hnx h5 hle hj hv
          go_upto_region 6 with fail
          go_cut [7, 8] from 18 to 35 (fun a7 a8 wx => ∃ P : Nat, a7 = .pointer (some ⟨P, 0, none⟩) ∧ a8 = .bool false ∧ Br w wx x ∧ Blk wx P 59 #[.int .i64 0, .bool false, .bool false] ∧ w.heap.size + 1 < P)
          case first =>
            go_region_held3 (fun w' => w'.cell? ⟨w.heap.size, 0, none⟩ = some (.int .i64 x.1) ∧ w'.cell? ⟨w.heap.size, 1, none⟩ = some (.bool x.2.1) ∧ w'.cell? ⟨w.heap.size, 2, none⟩ = some (.bool x.2.2)) (go_keep) (first | (go_at_call 90; go_must (go_fit (HL.out _); rintro e w5 ⟨rfl, hb5⟩; (first | (have S5 := Lib.hid (S4.out.drew.step hb5); obtain ⟨d0, d1, d2, _, _, _⟩ := blkCells S5.out.2.1; clear hb5) | (have S5 := Lib.hid ((S4.out.alloc (.cells #[.int .i64 0, .bool false, .bool false] 59)).drew.step hb5); have KB := Lib.hid ((Blk.new wr 59 #[.int .i64 0, .bool false, .bool false]).drew.below hb5 (by simp)); obtain ⟨d0, d1, d2, _, _, _⟩ := blkCells S5.out.2.1; obtain ⟨e0, e1, e2, e3, e4, e5⟩ := blkCells KB.out; clear hb5)))))
            all_goals
              go_wp2_with fail
              go_meet
              first
                | exact ⟨w5.heap.size, rfl, rfl, S5.out.alloc _, Blk.new _ _ _, S5.out.2.2.lt⟩
                | exact ⟨wr.heap.size, rfl, rfl, S5.out.far3 S4.out.2.2.lt _ _ _, blk_put3 KB.out _ _ _, S4.out.2.2.lt⟩
          obtain ⟨P, rfl, rfl, hS6, hK6, hP⟩ := hcut
          have S6 := Lib.hid hS6
          have K6 := Lib.hid hK6
          have HP := Lib.hid hP
          clear hS6 hK6 hP c0 c1 c2 f0 f1 f2 hz
          obtain ⟨c0, c1, c2, f0, f1, f2⟩ := blkCells S6.out.2.1
          obtain ⟨p0, p1, p2, g0, g1, g2⟩ := blkCells S6.out.2.2
          obtain ⟨e0, e1, e2, _, _, _⟩ := blkCells K6.out
          go_wp2_with fail
          have F := store3 S6.out.1 (by omega) S6.out.2.2 rfl (.int .i64 0) (.bool false) (.bool false)
          rw [HJ5.out]
          exact bodyPost_ret (v := .tuple #[.agg #[.int .i64 0, .bool false, .bool false], .bool false]) (by have r0 := F.2.1; have r1 := F.2.2.1; have r2 := F.2.2.2; simp [results, Try.results78, go_sem, r0, r1, r2]) rfl ⟨rfl, F.1⟩
        · have hv := st_beh j hj (c.toNat : Int) h5
          rw [hv] at hl3
          obtain ⟨j2, hj2⟩ : ∃ j2, nextI j (c.toNat : Int) = j2 := ⟨_, rfl⟩
          rw [hj2] at hl3 hle hnx h5
          have HNX := Lib.hid hnx
          have HJ2 := Lib.hid (show j2 < 5 by omega)
          obtain ⟨y, hy⟩ : ∃ y, st j2 = y := ⟨_, rfl⟩
          rw [hy] at hl3
          have HY := Lib.hid hy.symm
          have HL := Lib.hid hl3
          clear hc hl3 hnx h5 hle hj hv hj2 hy
          go_upto_region 6 with fail
          go_cut [7, 8] from 18 to 35 (fun a7 a8 wx => ∃ P : Nat, a7 = .pointer (some ⟨P, 0, none⟩) ∧ a8 = .bool true ∧ Br w wx x ∧ Blk wx P 59 #[.int .i64 y.1, .bool y.2.1, .bool y.2.2] ∧ w.heap.size + 1 < P)
          case first =>
            go_region_held3 (fun w' => w'.cell? ⟨w.heap.size, 0, none⟩ = some (.int .i64 x.1) ∧ w'.cell? ⟨w.heap.size, 1, none⟩ = some (.bool x.2.1) ∧ w'.cell? ⟨w.heap.size, 2, none⟩ = some (.bool x.2.2)) (go_keep) (first | (go_at_call 90; go_must (go_fit (HL.out _); rintro e w5 ⟨rfl, hb5⟩; (first | (have S5 := Lib.hid (S4.out.drew.step hb5); obtain ⟨d0, d1, d2, _, _, _⟩ := blkCells S5.out.2.1; clear hb5) | (have S5 := Lib.hid ((S4.out.alloc (.cells #[.int .i64 0, .bool false, .bool false] 59)).drew.step hb5); have KB := Lib.hid ((Blk.new wr 59 #[.int .i64 0, .bool false, .bool false]).drew.below hb5 (by simp)); obtain ⟨d0, d1, d2, _, _, _⟩ := blkCells S5.out.2.1; obtain ⟨e0, e1, e2, e3, e4, e5⟩ := blkCells KB.out; clear hb5)))))
            all_goals
              go_wp2_with fail
              go_meet
              first
                | exact ⟨w5.heap.size, rfl, rfl, S5.out.alloc _, Blk.new _ _ _, S5.out.2.2.lt⟩
                | exact ⟨wr.heap.size, rfl, rfl, S5.out.far3 S4.out.2.2.lt _ _ _, blk_put3 KB.out _ _ _, S4.out.2.2.lt⟩
          obtain ⟨P, rfl, rfl, hS6, hK6, hP⟩ := hcut
          have S6 := Lib.hid hS6
          have K6 := Lib.hid hK6
          have HP := Lib.hid hP
          clear hS6 hK6 hP c0 c1 c2 f0 f1 f2 hz
          obtain ⟨c0, c1, c2, f0, f1, f2⟩ := blkCells S6.out.2.1
          obtain ⟨p0, p1, p2, g0, g1, g2⟩ := blkCells S6.out.2.2
          obtain ⟨e0, e1, e2, _, _, _⟩ := blkCells K6.out
          have S7 := Lib.hid (S6.out.put y)
          go_wp2_with fail
          go_roundw
          case rel => exact ⟨k + 1, j2, y, by omega, by go_num, HJ2.out, HNX, HY, S7.out⟩
          case measure => simp [intOf]; omega
      · obtain rfl : k = s.size := by omega
        have HJ5 : Hid (J = j) := Lib.hid (by rw [← HJ.out, runV_t h30]; exact HR.out)
        have HJL := Lib.hid hj
        have hre : runE J = .tuple #[.agg #[.int .i64 x.1, .bool x.2.1, .bool x.2.2], .bool true] := by rw [HJ5.out]; unfold runE; rw [rst_t hj, ← HX.out, dec_t hj]
        have HRE := Lib.hid hre
        obtain ⟨p0, p1, p2, g0, g1, g2⟩ := blkCells S4.out.2.2
        clear hlt hj hre
        go_wp2_with fail
        have F := store3 S4.out.1 (by omega) S4.out.2.2 rfl (.int .i64 x.1) (.bool x.2.1) (.bool x.2.2)
        refine bodyPost_ret (v := .tuple #[.agg #[.int .i64 x.1, .bool x.2.1, .bool x.2.2], .bool true]) (by have r0 := F.2.1; have r1 := F.2.2.1; have r2 := F.2.2.2; simp [results, Try.results78, go_sem, r0, r1, r2]) rfl ⟨by rw [HRE.out], F.1⟩
  · have t0 := dec_t (show (30 : Int) < (s.size : Int) by omega)
    have HJ5 : Hid (J = 5) := Lib.hid (by rw [← HJ.out, runV_f h30])
    rw [HJ5.out]
    go_enter Try.func78, Try.ntmps78
    go_wp2_with fail
    generalize (w.alloc (.cells #[.int .i64 b.1, .bool b.2.1, .bool b.2.2] 59)).alloc (.cells #[.int .i64 0, .bool false, .bool false] 59) = W2 at *
    refine (HPO.out _).mono ?_
    rintro e w3 ⟨rfl, hb3⟩
    have S3 := Lib.hid (K2.out.step hb3)
    obtain ⟨c0, c1, c2, f0, f1, f2⟩ := blkCells S3.out.2.2
    clear hb3 K2
    go_wp2_with fail
    have F := store3 S3.out.1 (by omega) S3.out.2.2 rfl (.int .i64 0) (.bool false) (.bool false)
    exact bodyPost_ret (v := .tuple #[.agg #[.int .i64 0, .bool false, .bool false], .bool false]) (by have r0 := F.2.1; have r1 := F.2.2.1; have r2 := F.2.2.2; simp [results, Try.results78, go_sem, r0, r1, r2]) rfl ⟨rfl, F.1⟩
end Go.Proofs.Ytebejpaghajhkaa
