/-
  The walk of a train as numbers: plain facts, no program. No condition.
-/
import Derived.Test.YtkfgimhihknpoaaTkPlain
namespace Go.Proofs.Ytkfgimhihknpoaa
set_option linter.unusedVariables false

/-- The circuits a, .., b-1 are occupied. -/
def seg (a b : Nat) : Nat := 2 ^ b - 2 ^ a
theorem seg_bit (a b i : Nat) (h : a ≤ b) : (seg a b).testBit i = decide (a ≤ i ∧ i < b) := by
  have e : seg a b = 2 ^ a * (2 ^ (b - a) - 1) := by
    unfold seg
    rw [Nat.mul_sub, ← Nat.pow_add, show a + (b - a) = b by omega]
    simp
  rw [e, Nat.testBit_two_pow_mul]
  by_cases h1 : a ≤ i
  · rw [Nat.testBit_two_pow_sub_one]
    simp [h1]
    omega
  · simp [h1]
theorem seg_lt (a b n : Nat) (h : b ≤ n) : seg a b < 2 ^ n ∨ seg a b = 0 := by
  unfold seg
  have : 2 ^ b ≤ 2 ^ n := Nat.pow_le_pow_right (by omega) h
  have : 0 < 2 ^ a := Nat.pow_pos (by omega)
  omega
theorem seg_lt' (a b n : Nat) (h : b ≤ n) : seg a b < 2 ^ n := by
  rcases seg_lt a b n h with h | h
  · exact h
  · rw [h]; exact Nat.pow_pos (by omega)
theorem seg_head (a b : Nat) (h : a ≤ b) : seg a b ^^^ 2 ^ b = seg a (b + 1) := by
  apply Nat.eq_of_testBit_eq
  intro i
  rw [flip_bit, seg_bit a b i h, seg_bit a (b + 1) i (by omega)]
  by_cases hi : b = i
  · subst hi
    rw [if_pos rfl]
    simp [h]
  · rw [if_neg hi, decide_eq_decide]
    omega
theorem seg_tail (a b : Nat) (h : a < b) : seg a b ^^^ 2 ^ a = seg (a + 1) b := by
  apply Nat.eq_of_testBit_eq
  intro i
  rw [flip_bit, seg_bit a b i (by omega), seg_bit (a + 1) b i (by omega)]
  by_cases hi : a = i
  · subst hi
    rw [if_pos rfl]
    simp
    omega
  · rw [if_neg hi, decide_eq_decide]
    omega
theorem seg_self (a : Nat) : seg a a = 0 := by simp [seg]

/-- How many of the first k bits are set. -/
def cnt (s : Nat) : Nat → Nat
  | 0 => 0
  | k + 1 => if s.testBit k = true then cnt s k + 1 else cnt s k
theorem cnt_le (s k : Nat) : cnt s k ≤ k := by
  induction k with
  | zero => simp [cnt]
  | succ k ih => simp only [cnt]; split <;> omega
theorem cnt_seg (a b : Nat) (h : a ≤ b) (k : Nat) : cnt (seg a b) k = min b k - min a k := by
  induction k with
  | zero => simp [cnt]
  | succ k ih =>
    simp only [cnt]
    rw [seg_bit a b k h, ih]
    by_cases hc : a ≤ k ∧ k < b
    · rw [if_pos (by simpa using hc)]; omega
    · rw [if_neg (by simpa using hc)]; omega

/-- The state (tail, head) behind m steps. -/
def stp (n L : Nat) : Nat → Nat × Nat
  | 0 => (0, 0)
  | m + 1 => if (stp n L m).2 < n ∧ (stp n L m).2 - (stp n L m).1 ≤ L then ((stp n L m).1, (stp n L m).2 + 1) else ((stp n L m).1 + 1, (stp n L m).2)
theorem stp_inv (n L : Nat) (hL : 1 ≤ L) (m : Nat) (hm : m ≤ 2 * n) : (stp n L m).1 ≤ (stp n L m).2 ∧ (stp n L m).2 ≤ n ∧ (stp n L m).1 + (stp n L m).2 = m := by
  induction m with
  | zero => simp [stp]
  | succ m ih =>
    have ih := ih (by omega)
    simp only [stp]
    split
    · rename_i h
      simp only
      omega
    · rename_i h
      simp only
      omega
def trT (n L j : Nat) : ByteArray := T (seg (stp n L j).1 (stp n L j).2) n
def trl (n L m : Nat) : List ByteArray := (List.range (m + 1)).map (trT n L)
theorem trl_succ (n L m : Nat) : trl n L (m + 1) = trl n L m ++ [trT n L (m + 1)] := by simp [trl, List.range_succ]
theorem trl_length (n L m : Nat) : (trl n L m).length = m + 1 := by simp [trl]

def rep (k : Nat) (c : UInt8) : ByteArray := ⟨(List.replicate k c).toArray⟩
theorem rep_size (k : Nat) (c : UInt8) : (rep k c).size = k := by
  show (List.replicate k c).toArray.size = k
  simp
theorem rep_app (j k : Nat) (c : UInt8) : rep j c ++ rep k c = rep (j + k) c := by
  unfold rep
  rw [ByteArray.mk_append_mk]
  simp
theorem T_seg (a b n : Nat) (h1 : a ≤ b) (h2 : b ≤ n) : rep a 48 ++ rep (b - a) 49 ++ rep (n - b) 48 = T (seg a b) n := by
  unfold rep T
  rw [ByteArray.mk_append_mk, ByteArray.mk_append_mk]
  congr 1
  congr 1
  apply List.ext_getElem?
  intro i
  simp only [List.getElem?_append, List.length_append, List.length_replicate, List.getElem?_replicate]
  by_cases hi : i < n
  · rw [tx_get _ n i hi, seg_bit a b i h1]
    by_cases c1 : i < a
    · simp [c1, show i < a + (b - a) by omega, show ¬ a ≤ i by omega]
    · by_cases c2 : i < b
      · simp [c1, show i < a + (b - a) by omega, show i - a < b - a by omega, show a ≤ i by omega, c2]
      · simp [show ¬ i < a + (b - a) by omega, show i - (a + (b - a)) < n - b by omega, c2]
  · rw [List.getElem?_eq_none (by rw [tx_length]; omega)]
    simp [show ¬ i < a + (b - a) by omega, show ¬ i - (a + (b - a)) < n - b by omega]

end Go.Proofs.Ytkfgimhihknpoaa
