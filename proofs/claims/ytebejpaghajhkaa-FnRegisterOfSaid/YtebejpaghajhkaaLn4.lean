/-
  Lines: possible blocks, counting trains. No condition.
-/
import Derived.Test.YtebejpaghajhkaaLn3
namespace Go.Proofs.Ytebejpaghajhkaa
open Go.RowKit
set_option linter.unusedVariables false
set_option linter.unusedSimpArgs false

def possB (b : BV) : Bool := decide (stN b < 5)
theorem possB_iff (n : Int) (i o : Bool) : possB (n, i, o) = (inB 0 2 n && (!i || (n == 2)) && (!o || (n == 0))) := by
  unfold possB stN inB
  by_cases h0 : n = 0
  · subst h0; cases i <;> cases o <;> decide
  · by_cases h1 : n = 1
    · subst h1; cases i <;> cases o <;> decide
    · by_cases h2 : n = 2
      · subst h2; cases i <;> cases o <;> decide
      · have : ¬ (0 ≤ n ∧ n ≤ 2) := by omega
        by_cases h3 : 0 ≤ n
        · have h4 : ¬ n ≤ 2 := by omega
          simp [h0, h1, h2, h4]
        · simp [h0, h1, h2, h3]
set_option maxHeartbeats 1600000 in
theorem specPoss_any (n : Int) (i o : Bool) (w : World) : Calls Try.prog 89 #[.agg #[.int .i64 n, .bool i, .bool o]] w fun e w' => e = .returned (.bool (possB (n, i, o))) ∧ Below w.heap.size w w' := by
  rw [possB_iff]
  have h6 := fun w => l6In_any n 0 2 w
  by_cases hr : inB 0 2 n = true
  · rw [hr] at h6 ⊢
    have H6 := Lib.hid h6
    clear h6 hr
    by_cases h2 : n = 2
    · have t1 := beq_t h2
      have t2 := beq_f (show n ≠ 0 by omega)
      rw [t1, t2]
      clear h2
      cases i <;> cases o
      all_goals
        go_enter Try.func89, Try.ntmps89
        go_wp2_with (go_at_call 65; go_must (go_fit (H6.out _); rintro e w2 ⟨rfl, rfl⟩))
        go_ret
        exact ⟨rfl, below_new w _⟩
    · have t1 := beq_f h2
      by_cases h0 : n = 0
      · have t2 := beq_t h0
        rw [t1, t2]
        clear h2 h0
        cases i <;> cases o
        all_goals
          go_enter Try.func89, Try.ntmps89
          go_wp2_with (go_at_call 65; go_must (go_fit (H6.out _); rintro e w2 ⟨rfl, rfl⟩))
          go_ret
          exact ⟨rfl, below_new w _⟩
      · have t2 := beq_f h0
        rw [t1, t2]
        clear h2 h0
        cases i <;> cases o
        all_goals
          go_enter Try.func89, Try.ntmps89
          go_wp2_with (go_at_call 65; go_must (go_fit (H6.out _); rintro e w2 ⟨rfl, rfl⟩))
          go_ret
          exact ⟨rfl, below_new w _⟩
  · have hr' : inB 0 2 n = false := by simpa using hr
    rw [hr'] at h6 ⊢
    have H6 := Lib.hid h6
    clear h6 hr hr'
    go_enter Try.func89, Try.ntmps89
    go_wp2_with (go_at_call 65; go_must (go_fit (H6.out _); rintro e w2 ⟨rfl, rfl⟩))
    go_ret
    exact ⟨by simp, below_new w _⟩


/-- The first k blocks are possible. -/
def possK (bs : List BV) : Nat → Bool
  | 0 => true
  | k + 1 => possK bs k && possB (bs.getD k Z3)
theorem possK_iff {bs : List BV} {k : Nat} : possK bs k = true ↔ ∀ j, j < k → possB (bs.getD j Z3) = true := by
  induction k with
  | zero => simp [possK]
  | succ k ih =>
    simp only [possK, Bool.and_eq_true, ih]
    constructor
    · rintro ⟨h1, h2⟩ j hj
      rcases Nat.lt_succ_iff_lt_or_eq.1 hj with h | rfl
      · exact h1 j h
      · exact h2
    · intro h; exact ⟨fun j hj => h j (by omega), h k (by omega)⟩
theorem possK_no {bs : List BV} {k n : Nat} (hk : k < n) (h : possB (bs.getD k Z3) = false) : possK bs n = false := by
  rw [Bool.eq_false_iff]
  intro hp
  rw [possK_iff.1 hp k hk] at h
  cases h

/-- How many of the first k trains are at a place. -/
def cntT (ts : List Int) (p : Int) : Nat → Nat
  | 0 => 0
  | k + 1 => cntT ts p k + if ts.getD k 0 = p then 1 else 0
theorem cntT_le (ts : List Int) (p : Int) (k : Nat) : cntT ts p k ≤ k := by
  induction k with
  | zero => simp [cntT]
  | succ k ih => simp only [cntT]; split <;> omega
end Go.Proofs.Ytebejpaghajhkaa
