/-
  The laws' helpers sameInts and hasInt. No condition but lengths that fit.
-/
import Derived.Test.YtkfgimhihknpoaaInts
namespace Go.Proofs.Ytkfgimhihknpoaa
open Go.RowKit
set_option linter.unusedVariables false

set_option maxHeartbeats 400000 in
theorem sameInts_any (b off c b' off' c' : Nat) (xs ys : List Int) (w : World) (hn : xs.length ≤ 9223372036854775807) (hn' : ys.length ≤ 9223372036854775807) (ha : AtInts w b off xs) (hb : AtInts w b' off' ys) :
    Calls Try.prog 16 #[.slice (some ⟨b, off, none⟩) xs.length c, .slice (some ⟨b', off', none⟩) ys.length c'] w fun e w' => e = .returned (.bool (decide (xs = ys))) ∧ ∃ n, w' = w.drewN n := by
  generalize hr : decide (xs = ys) = r
  have HR := Lib.hid hr
  have HA := Lib.hid ha
  have HB := Lib.hid hb
  clear ha hb hr
  by_cases hl : xs.length = ys.length
  · have t0 := bne_f (show (xs.length : Int) = (ys.length : Int) by omega)
    have HL := Lib.hid hl
    have hl1 : xs.length ≤ ys.length := by omega
    have hl2 : ys.length ≤ xs.length := by omega
    clear hl
    go_enter Try.func16, Try.ntmps16
    go_wp2
    go_loopw [5] (fun i wr => ∃ k n : Nat, k ≤ xs.length ∧ i = .int .i64 k ∧ xs.take k = ys.take k ∧ wr = w.drewN n) (fun i _ => xs.length - (intOf i).toNat)
    case atStart => exact ⟨0, 0, Nat.zero_le _, rfl, rfl, rfl⟩
    case round =>
      obtain ⟨k, n, hk, rfl, hp, rfl⟩ := hrel
      have HP := Lib.hid hp
      clear hp
      by_cases hlt : k < xs.length
      · have hc1 := HA.out.at k hlt
        have hc2 := HB.out.at k (by omega)
        have i1 : (k : Int) < (xs.length : Int) := by omega
        have i2 : (k : Int) < (ys.length : Int) := by omega
        obtain ⟨x, hx⟩ : ∃ x, xs.getD k 0 = x := ⟨_, rfl⟩
        obtain ⟨y, hy⟩ : ∃ y, ys.getD k 0 = y := ⟨_, rfl⟩
        rw [hx] at hc1
        rw [hy] at hc2
        have HX := Lib.hid hx
        have HY := Lib.hid hy
        clear hx hy
        by_cases hxy : x = y
        · have t1 := bne_f hxy
          have HXY := Lib.hid hxy
          clear hxy
          go_wp2
          go_quiet (fail)
          go_wp2
          go_roundw
          case rel => exact ⟨k + 1, _, by omega, by go_num, take_eq_succ hlt (by omega) HP.out (by rw [HX.out, HY.out, HXY.out]), rfl⟩
          case measure => simp [intOf]; omega
        · have t1 := bne_t hxy
          have HXY := Lib.hid hxy
          clear hxy
          go_wp2
          go_quiet (fail)
          go_wp2
          go_ret
          exact ⟨ret_bool (by rw [← HR.out]; exact (dec_f (ne_of_at (k := k) (by rw [HX.out, HY.out]; exact HXY.out))).symm), _, World.drewN_drewN _ _ _⟩
      · go_wp2
        go_ret
        refine ⟨ret_bool ?_, _, rfl⟩
        rw [← HR.out]
        have := HP.out
        rw [List.take_of_length_le (by omega), List.take_of_length_le (by omega)] at this
        exact (dec_t this).symm
  · have t0 := bne_t (show (xs.length : Int) ≠ (ys.length : Int) by omega)
    have HL := Lib.hid hl
    clear hl
    go_enter Try.func16, Try.ntmps16
    go_wp2
    go_ret
    exact ⟨ret_bool (by rw [← HR.out]; exact (dec_f (fun h => HL.out (by rw [h]))).symm), 0, rfl⟩

/-- Whether x is among the first k. -/
def hasK (zs : List Int) (x : Int) : Nat → Bool
  | 0 => false
  | k + 1 => hasK zs x k || (zs.getD k 0 == x)
theorem hasK_eq (zs : List Int) (x : Int) (k : Nat) (hk : k ≤ zs.length) : hasK zs x k = decide (x ∈ zs.take k) := by
  induction k with
  | zero => simp [hasK]
  | succ k ih =>
    simp only [hasK]
    rw [ih (by omega), List.take_succ_eq_append_getElem (by omega)]
    have e : zs.getD k 0 = zs[k]'(by omega) := by simp [List.getD, show k < zs.length by omega]
    rw [e, Bool.eq_iff_iff]
    simp only [Bool.or_eq_true, decide_eq_true_eq, beq_iff_eq, List.mem_append, List.mem_singleton]
    constructor
    · rintro (h | h)
      · exact .inl h
      · exact .inr h.symm
    · rintro (h | h)
      · exact .inl h
      · exact .inr h.symm
theorem hasK_all (zs : List Int) (x : Int) : hasK zs x zs.length = decide (x ∈ zs) := by rw [hasK_eq _ _ _ (Nat.le_refl _), List.take_length]
set_option maxHeartbeats 400000 in
theorem hasInt_any (b off c : Nat) (zs : List Int) (x : Int) (w : World) (hn : zs.length ≤ 9223372036854775807) (ha : AtInts w b off zs) :
    Calls Try.prog 19 #[.slice (some ⟨b, off, none⟩) zs.length c, .int .i64 x] w fun e w' => e = .returned (.bool (decide (x ∈ zs))) ∧ w = w' := by
  rw [← hasK_all]
  have HA := Lib.hid ha
  clear ha
  go_enter Try.func19, Try.ntmps19
  go_wp2_with fail
  go_loop [5] (fun q => ∃ k : Nat, k ≤ zs.length ∧ q = .int .i64 k ∧ hasK zs x k = false) (fun q => zs.length - (intOf q).toNat)
  case atStart => exact ⟨0, by omega, rfl, rfl⟩
  case round =>
    obtain ⟨k, hk, rfl, hf⟩ := hrel
    have HF := Lib.hid hf
    clear hf
    by_cases hlt : k < zs.length
    · have hc := HA.out k hlt
      have i1 : (k : Int) < (zs.length : Int) := by omega
      obtain ⟨y, hy⟩ : ∃ y, zs.getD k 0 = y := ⟨_, rfl⟩
      rw [hy] at hc
      by_cases hyx : y = x
      · have hr : hasK zs x zs.length = true := by
          rw [hasK_all, decide_eq_true_eq, ← hyx, ← hy]
          simp [List.getD, hlt]
        have HR := Lib.hid hr
        have t0 := beq_t hyx
        clear hr hy hyx
        go_wp2_with fail
        go_ret
        exact ⟨ret_bool HR.out.symm, rfl⟩
      · have hr : hasK zs x (k + 1) = false := by
          simp only [hasK]; rw [HF.out, hy, beq_f hyx]; rfl
        have HR := Lib.hid hr
        have t0 := beq_f hyx
        clear hr hy hyx
        go_wp2_with fail
        go_round
        case rel => exact ⟨k + 1, by omega, by go_num, HR.out⟩
        case measure => simp [intOf]; omega
    · have hkn : k = zs.length := by omega
      have hr : hasK zs x zs.length = false := by have := HF.out; rw [hkn] at this; exact this
      have HR := Lib.hid hr
      clear hr hkn
      go_wp2_with fail
      go_ret
      exact ⟨ret_bool HR.out.symm, rfl⟩

end Go.Proofs.Ytkfgimhihknpoaa
