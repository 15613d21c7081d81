/-
  DrawTrackBlocks, DrawTrackNext, countOf; the law FnTrackBlocks. No condition.
-/
import Derived.Test.YtkfgimhihknpoaaDraw
import Derived.Test.YtkfgimhihknpoaaTk5
import Derived.Test.YtkfgimhihknpoaaRunP
namespace Go.Proofs.Ytkfgimhihknpoaa
open Go.RowKit
set_option linter.unusedVariables false

/-- What a drawing function of a text leaves. -/
def DrawS (w : World) (mx : Nat) (e : Ending) (w' : World) : Prop := ∃ s : Bs, e = .returned (.string s) ∧ s.size ≤ mx ∧ Below w.heap.size w w'

/-- How often c is among the first k bytes. -/
def cntB (S : ByteArray) (c : UInt8) : Nat → Nat
  | 0 => 0
  | k + 1 => if S.data.toList.getD k 0 = c then cntB S c k + 1 else cntB S c k
theorem cntB_le (S : ByteArray) (c : UInt8) (k : Nat) : cntB S c k ≤ k := by
  induction k with
  | zero => exact Nat.le_refl _
  | succ k ih => simp only [cntB]; split <;> omega
theorem cntB_T (s n k : Nat) (hk : k ≤ n) : cntB (T s n) 49 k = cnt s k := by
  induction k with
  | zero => rfl
  | succ k ih =>
    simp only [cntB, cnt]
    rw [ih (by omega), T_data]
    have h := tx_get s n k (by omega)
    simp only [List.getD, h, Option.getD_some]
    cases hb : s.testBit k <;> simp
set_option maxHeartbeats 800000 in
theorem countOf_any (S : ByteArray) (w : World) (hS : S.size ≤ 1000000) :
    Calls Try.prog 17 #[.string S, .int .u8 49] w fun e w' => e = .returned (.int .i64 (cntB S 49 S.size)) ∧ w = w' := by
  go_enter Try.func17, Try.ntmps17
  go_wp2_with fail
  go_loop [5, 6] (fun v q => ∃ k : Nat, k ≤ S.size ∧ q = .int .i64 k ∧ v = .int .i64 (cntB S 49 k)) (fun _ q => S.size - (intOf q).toNat)
  case atStart => exact ⟨0, by omega, rfl, rfl⟩
  case round =>
    obtain ⟨k, hk, rfl, rfl⟩ := hrel
    have hle := cntB_le S 49 k
    by_cases hlt : k < S.size
    · have hg := S_get S k hlt
      have i1 : (k : Int) < (S.size : Int) := by omega
      by_cases h1 : S.data.toList.getD k 0 = 49
      · have hr : cntB S 49 (k + 1) = cntB S 49 k + 1 := by simp only [cntB]; rw [if_pos h1]
        have HR := Lib.hid hr
        rw [h1] at hg
        have hg2 := hg.symm
        clear hr h1 hg
        go_wp2_with fail
        go_round
        case rel => exact ⟨k + 1, by omega, by go_num, by rw [HR.out]; go_num⟩
        case measure => simp [intOf]; omega
      · have hr : cntB S 49 (k + 1) = cntB S 49 k := by simp only [cntB]; rw [if_neg h1]
        have HR := Lib.hid hr
        obtain ⟨x, hx⟩ : ∃ x, S.data.toList.getD k 0 = x := ⟨_, rfl⟩
        rw [hx] at hg h1
        have hg2 := hg.symm
        have hne : (x.toNat : Int) ≠ 49 := by intro h; apply h1; apply UInt8.toNat_inj.1; show x.toNat = 49; omega
        have t0 := beq_f hne
        have t0' : (x.toNat == 49) = false := by simp; omega
        clear hr hx hg
        go_wp2_with fail
        go_round
        case rel => exact ⟨k + 1, by omega, by go_num, by rw [HR.out]⟩
        case measure => simp [intOf]; omega
    · have hkn : k = S.size := by omega
      have HK := Lib.hid hkn
      clear hkn
      go_wp2_with fail
      go_ret
      exact ⟨ret_int (by rw [HK.out]), rfl⟩

end Go.Proofs.Ytkfgimhihknpoaa
