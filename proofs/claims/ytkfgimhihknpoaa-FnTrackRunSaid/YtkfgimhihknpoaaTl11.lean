/-
  The walk of a train, in plain words; two lists of texts compared. No condition.
-/
import Derived.Test.YtkfgimhihknpoaaTl9
import Derived.Test.YtkfgimhihknpoaaRun2
namespace Go.Proofs.Ytkfgimhihknpoaa
open Go.RowKit
set_option linter.unusedVariables false

def segB (n a b : Nat) : Bool := decide (blk (seg a b) n ≤ 1) && ((decide (b = n) || (decide (a = b) && !decide (b = 0)) || canB (seg a b) n b) && (decide (b ≤ a) || (decide (b < n) && decide (b ≤ a + 1)) || canB (seg a b) n a))
theorem segB_all : ∀ n, n < 9 → ∀ b, b < 9 → ∀ a, a < 9 → a ≤ b → b ≤ n → segB n a b = true := by decide +kernel
def rnS (n L i : Nat) : Nat := seg (stp n L i).1 (stp n L i).2
theorem stp_succ (n L m : Nat) : stp n L (m + 1) = if (stp n L m).2 < n ∧ (stp n L m).2 - (stp n L m).1 ≤ L then ((stp n L m).1, (stp n L m).2 + 1) else ((stp n L m).1 + 1, (stp n L m).2) := rfl
theorem stp_gap (n L : Nat) (h1 : 1 ≤ n) (hL : 1 ≤ L) (m : Nat) (hm : m ≤ 2 * n) : (stp n L m).2 ≤ (stp n L m).1 + L + 1 ∧ ((stp n L m).1 = (stp n L m).2 → m = 0 ∨ m = 2 * n) ∧ ((stp n L m).1 = n → m = 2 * n) := by
  induction m with
  | zero => simp [stp]; omega
  | succ m ih =>
    have ih := ih (by omega)
    have hi := stp_inv n L hL m (by omega)
    have hj := stp_inv n L hL (m + 1) hm
    rw [stp_succ] at hj ⊢
    generalize (stp n L m).1 = a at *
    generalize (stp n L m).2 = b at *
    split
    · rename_i h
      rw [if_pos h] at hj
      simp only at hj ⊢
      omega
    · rename_i h
      rw [if_neg h] at hj
      simp only at hj ⊢
      omega
theorem run_step {n L m : Nat} (h1 : 1 ≤ n) (h8 : n ≤ 8) (hL : 1 ≤ L) (hm : m < 2 * n) : StepT n (rnS n L m) (rnS n L (m + 1)) := by
  have hi := stp_inv n L hL m (by omega)
  have hj := stp_inv n L hL (m + 1) (by omega)
  have hg := stp_gap n L h1 hL m (by omega)
  unfold rnS
  rw [stp_succ] at hj ⊢
  generalize (stp n L m).1 = a at *
  generalize (stp n L m).2 = b at *
  have hs := segB_all n (by omega) b (by omega) a (by omega) hi.1 hi.2.1
  unfold segB at hs
  simp only [Bool.and_eq_true, Bool.or_eq_true, decide_eq_true_eq] at hs
  obtain ⟨_, s2, s3⟩ := hs
  split
  · rename_i h
    refine ⟨b, h.1, ?_, seg_head a b hi.1⟩
    rcases s2 with (s2 | s2) | s2
    · omega
    · simp only [Bool.not_eq_true', decide_eq_false_iff_not] at s2
      omega
    · exact s2
  · rename_i h
    rw [if_neg h] at hj
    simp only at hj
    refine ⟨a, by omega, ?_, seg_tail a b (by omega)⟩
    rcases s3 with (s3 | s3) | s3
    · omega
    · omega
    · exact s3
theorem run_wk {n L : Nat} (h1 : 1 ≤ n) (h8 : n ≤ 8) (hL : 1 ≤ L) : Wk n (rnS n L) (2 * n + 1) (trl n L (2 * n)) := by
  refine ⟨trl_length n L _, by omega, h1, h8, fun k hk => ⟨?_, ?_⟩, fun k hk => run_step h1 h8 hL (by omega)⟩
  · exact seg_lt' _ _ _ (stp_inv n L hL k (by omega)).2.1
  · unfold trl
    simp only [List.getD_eq_getElem?_getD, List.getElem?_map, List.getElem?_range hk, Option.map_some, Option.getD_some]
    rfl
theorem run_psK {n L : Nat} (h1 : 1 ≤ n) (h8 : n ≤ 8) (hL : 1 ≤ L) : psK (trl n L (2 * n)) (2 * n + 1) = 1 := by
  obtain ⟨hl, hm, _, _, hT, _⟩ := run_wk (L := L) h1 h8 hL
  generalize trl n L (2 * n) = ss at *
  have hget : ∀ k, k < 2 * n + 1 → tset (ss.getD k ByteArray.empty) = rnS n L k := fun k hk => by rw [(hT k hk).2, tset_T _ _ h1 h8 (hT k hk).1]
  have hsz : (ss.getD 0 ByteArray.empty).size = n := by rw [(hT 0 hm).2, T_size]
  have key : ∀ k, k ≤ 2 * n + 1 → psK ss k = if k = 2 * n + 1 then 1 else 0 := by
    intro k
    induction k with
    | zero => intro _; rw [if_neg (by omega)]; rfl
    | succ k ih =>
      intro hk
      have hi := ih (by omega)
      rw [if_neg (by omega)] at hi
      have e2 : psK ss (k + 1) = if k ≠ 0 ∧ psAt ss k = true then psK ss k + 1 else psK ss k := rfl
      rw [e2, hi]
      rcases Nat.eq_zero_or_pos k with rfl | h0
      · rw [if_neg (by simp), if_neg (by omega)]
      · obtain ⟨j, rfl⟩ : ∃ j, k = j + 1 := ⟨k - 1, by omega⟩
        have hat : psAt ss (j + 1) = ((rnS n L j).testBit (n - 1) && !(rnS n L (j + 1)).testBit (n - 1)) := by
          unfold psAt
          rw [hsz, show j + 1 - 1 = j by omega, hget j (by omega), hget (j + 1) (by omega)]
        have i0 := stp_inv n L hL j (by omega)
        have i1 := stp_inv n L hL (j + 1) (by omega)
        have g1 := stp_gap n L h1 hL (j + 1) (by omega)
        have g0 := stp_gap n L h1 hL j (by omega)
        have hst := stp_succ n L j
        have hb : (stp n L j).2 ≤ (stp n L (j + 1)).2 := by
          rw [hst]; split <;> simp
        rw [hat]
        unfold rnS
        rw [seg_bit _ _ _ i0.1, seg_bit _ _ _ i1.1]
        by_cases e : j + 1 = 2 * n
        · rw [if_pos (show j + 1 + 1 = 2 * n + 1 by omega), if_pos]
          refine ⟨by omega, ?_⟩
          rw [Bool.and_eq_true, Bool.not_eq_true', decide_eq_true_eq, decide_eq_false_iff_not]
          omega
        · rw [if_neg (show ¬ j + 1 + 1 = 2 * n + 1 by omega), if_neg]
          rintro ⟨_, h⟩
          rw [Bool.and_eq_true, Bool.not_eq_true', decide_eq_true_eq, decide_eq_false_iff_not] at h
          omega
  rw [key _ (Nat.le_refl _), if_pos rfl]
theorem run_at {n L i : Nat} (h1 : 1 ≤ n) (h8 : n ≤ 8) (hL : 1 ≤ L) (hi : i ≤ 2 * n) : blk (rnS n L i) n ≤ 1 ∧ cnt (rnS n L i) n ≤ L + 1 ∧ (i = 0 ∨ i = 2 * n ∨ cnt (rnS n L i) n ≠ 0) := by
  have hv := stp_inv n L hL i hi
  have hg := stp_gap n L h1 hL i hi
  unfold rnS
  generalize (stp n L i).1 = a at *
  generalize (stp n L i).2 = b at *
  have hs := segB_all n (by omega) b (by omega) a (by omega) hv.1 hv.2.1
  unfold segB at hs
  simp only [Bool.and_eq_true, decide_eq_true_eq] at hs
  rw [cnt_seg a b hv.1]
  refine ⟨hs.1, by omega, by omega⟩
theorem run_ends {n L : Nat} (h1 : 1 ≤ n) (hL : 1 ≤ L) : cnt (rnS n L 0) n = 0 ∧ cnt (rnS n L (2 * n)) n = 0 := by
  have h0 := stp_inv n L hL 0 (by omega)
  have h2 := stp_inv n L hL (2 * n) (by omega)
  unfold rnS
  rw [cnt_seg _ _ h0.1, cnt_seg _ _ h2.1]
  omega
theorem sameTexts_same (b off c b' off' c' : Nat) (xs : List Bs) (w : World) (hn : xs.length ≤ 9223372036854775807) (ha : AtStrs w b off xs) (hb : AtStrs w b' off' xs) :
    Calls Try.prog 31 #[.slice (some ⟨b, off, none⟩) xs.length c, .slice (some ⟨b', off', none⟩) xs.length c'] w fun e w' => e = .returned (.bool true) ∧ Qt w w' := by
  have HA := Lib.hid ha
  have HB := Lib.hid hb
  clear ha hb
  go_enter Try.func31, Try.ntmps31
  go_wp2
  go_loopw [5] (fun i wr => ∃ k n : Nat, k ≤ xs.length ∧ i = .int .i64 k ∧ wr = w.drewN n) (fun i _ => xs.length - (intOf i).toNat)
  case atStart => exact ⟨0, 0, Nat.zero_le _, rfl, rfl⟩
  case round =>
    obtain ⟨k, n, hk, rfl, rfl⟩ := hrel
    by_cases hlt : k < xs.length
    · have hc1 := HA.out k hlt
      have hc2 := HB.out k hlt
      have i1 : (k : Int) < (xs.length : Int) := by omega
      obtain ⟨x, hx⟩ : ∃ x, xs.getD k ByteArray.empty = x := ⟨_, rfl⟩
      rw [hx] at hc1 hc2
      clear hx
      go_wp2
      go_quiet (fail)
      go_wp2
      go_roundw
      case rel => exact ⟨k + 1, _, by omega, by go_num, rfl⟩
      case measure => simp [intOf]; omega
    · go_wp2
      go_ret
      exact ⟨rfl, _, rfl⟩
end Go.Proofs.Ytkfgimhihknpoaa
