/-
  The laws' helpers sameInts and hasInt. No condition but lengths that fit.
-/
import Derived.Test.YtmgakfbchhefcaaInts
namespace Go.Proofs.Ytmgakfbchhefcaa
open Go.RowKit
set_option linter.unusedVariables false

set_option maxHeartbeats 400000 in
theorem sameInts_any (b off c b' off' c' : Nat) (xs ys : List Int) (w : World) (hn : xs.length ≤ 9223372036854775807) (hn' : ys.length ≤ 9223372036854775807) (ha : AtInts w b off xs) (hb : AtInts w b' off' ys) :
    Calls Try.prog 63 #[.slice (some ⟨b, off, none⟩) xs.length c, .slice (some ⟨b', off', none⟩) ys.length c'] w fun e w' => e = .returned (.bool (decide (xs = ys))) ∧ ∃ n, w' = w.drewN n := by
  generalize hr : decide (xs = ys) = r
  have HR := Lib.hid hr
  have HA := Lib.hid ha
  have HB := Lib.hid hb
  clear ha hb hr
  by_cases hl : xs.length = ys.length
  · have t0 := bne_f (show (xs.length : Int) = (ys.length : Int) by omega)
    have HL := Lib.hid hl
    have hl1 : xs.length ≤ ys.length := by omega
    have hl2 : ys.length ≤ xs.length := by omega
    clear hl
    go_enter Try.func63, Try.ntmps63
    go_wp2
    go_loopw [5] (fun i wr => ∃ k n : Nat, k ≤ xs.length ∧ i = .int .i64 k ∧ xs.take k = ys.take k ∧ wr = w.drewN n) (fun i _ => xs.length - (intOf i).toNat)
    case atStart => exact ⟨0, 0, Nat.zero_le _, rfl, rfl, rfl⟩
    case round =>
      obtain ⟨k, n, hk, rfl, hp, rfl⟩ := hrel
      have HP := Lib.hid hp
      clear hp
      by_cases hlt : k < xs.length
      · have hc1 := HA.out.at k hlt
        have hc2 := HB.out.at k (by omega)
        have i1 : (k : Int) < (xs.length : Int) := by omega
        have i2 : (k : Int) < (ys.length : Int) := by omega
        obtain ⟨x, hx⟩ : ∃ x, xs.getD k 0 = x := ⟨_, rfl⟩
        obtain ⟨y, hy⟩ : ∃ y, ys.getD k 0 = y := ⟨_, rfl⟩
        rw [hx] at hc1
        rw [hy] at hc2
        have HX := Lib.hid hx
        have HY := Lib.hid hy
        clear hx hy
        by_cases hxy : x = y
        · have t1 := bne_f hxy
          have HXY := Lib.hid hxy
          clear hxy
          go_wp2
          go_quiet (fail)
          go_wp2
          go_roundw
          case rel => exact ⟨k + 1, _, by omega, by go_num, take_eq_succ hlt (by omega) HP.out (by rw [HX.out, HY.out, HXY.out]), rfl⟩
          case measure => simp [intOf]; omega
        · have t1 := bne_t hxy
          have HXY := Lib.hid hxy
          clear hxy
          go_wp2
          go_quiet (fail)
          go_wp2
          go_ret
          exact ⟨ret_bool (by rw [← HR.out]; exact (dec_f (ne_of_at (k := k) (by rw [HX.out, HY.out]; exact HXY.out))).symm), _, World.drewN_drewN _ _ _⟩
      · go_wp2
        go_ret
        refine ⟨ret_bool ?_, _, rfl⟩
        rw [← HR.out]
        have := HP.out
        rw [List.take_of_length_le (by omega), List.take_of_length_le (by omega)] at this
        exact (dec_t this).symm
  · have t0 := bne_t (show (xs.length : Int) ≠ (ys.length : Int) by omega)
    have HL := Lib.hid hl
    clear hl
    go_enter Try.func63, Try.ntmps63
    go_wp2
    go_ret
    exact ⟨ret_bool (by rw [← HR.out]; exact (dec_f (fun h => HL.out (by rw [h]))).symm), 0, rfl⟩


end Go.Proofs.Ytmgakfbchhefcaa
