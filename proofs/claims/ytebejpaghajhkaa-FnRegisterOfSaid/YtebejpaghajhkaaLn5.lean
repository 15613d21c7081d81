/-
  Lines: a railway of a line. No condition.
-/
import Derived.Test.YtebejpaghajhkaaLn4
namespace Go.Proofs.Ytebejpaghajhkaa
open Go.RowKit
set_option linter.unusedVariables false
set_option linter.unusedSimpArgs false

theorem AtInts.at0 {w : World} {b : Nat} {zs : List Int} (h : AtInts w b 0 zs) {k : Nat} (hk : k < zs.length) : w.cell? ⟨b, k, none⟩ = some (.int .i64 (zs.getD k 0)) := by
  have := h k hk
  rwa [Nat.zero_add] at this
theorem AtBl.at0 {w : World} {b : Nat} {bs : List BV} (h : AtBl w b 0 bs) {k : Nat} (hk : k < bs.length) : w.cell? ⟨b, k * 3, none⟩ = some (.int .i64 (bs.getD k Z3).1) ∧ w.cell? ⟨b, k * 3 + 1, none⟩ = some (.bool (bs.getD k Z3).2.1) ∧ w.cell? ⟨b, k * 3 + 2, none⟩ = some (.bool (bs.getD k Z3).2.2) := by
  have := h k hk
  simpa only [Nat.zero_add] using this

/-- p holds of the first k. -/
def allK (p : Nat → Bool) : Nat → Bool
  | 0 => true
  | k + 1 => allK p k && p k
theorem allK_iff {p : Nat → Bool} {k : Nat} : allK p k = true ↔ ∀ j, j < k → p j = true := by
  induction k with
  | zero => simp [allK]
  | succ k ih =>
    simp only [allK, Bool.and_eq_true, ih]
    constructor
    · rintro ⟨h1, h2⟩ j hj
      rcases Nat.lt_succ_iff_lt_or_eq.1 hj with h | rfl
      · exact h1 j h
      · exact h2
    · intro h; exact ⟨fun j hj => h j (by omega), h k (by omega)⟩
theorem allK_no {p : Nat → Bool} {k n : Nat} (hk : k < n) (h : p k = false) : allK p n = false := by
  rw [Bool.eq_false_iff]
  intro hp
  rw [allK_iff.1 hp k hk] at h
  cases h
theorem allK_succ {p : Nat → Bool} {k : Nat} (h : allK p k = true) (h' : p k = true) : allK p (k + 1) = true := by simp only [allK, h, h', Bool.and_self]

def plcB (n : Nat) (ts : List Int) (k : Nat) : Bool := inB 0 (2 * n) (ts.getD k 0) && (decide (k = 0) || decide (ts.getD k 0 ≤ ts.getD (k - 1) 0))
def insB (bs : List BV) (ts : List Int) (k : Nat) : Bool := decide ((cntT ts (2 * (k : Int) + 1) ts.length : Int) = if (bs.getD k Z3).2.1 then 1 else 0)
/-- Whether a line is valid. -/
def lineB (bs : List BV) (ts : List Int) : Bool := (inB 1 5 bs.length && possK bs bs.length) && (decide (ts.length ≤ 5) && (allK (plcB bs.length ts) ts.length && allK (insB bs ts) bs.length))
theorem lineB_mk {bs : List BV} {ts : List Int} (h1 : (inB 1 5 bs.length && possK bs bs.length) = true) (h2 : ts.length ≤ 5) (h3 : allK (plcB bs.length ts) ts.length = true) (h4 : allK (insB bs ts) bs.length = true) : lineB bs ts = true := by
  unfold lineB; rw [h1, h3, h4]; simp [h2]
theorem lineB_f1 {bs : List BV} {ts : List Int} (h1 : (inB 1 5 bs.length && possK bs bs.length) = false) : lineB bs ts = false := by unfold lineB; rw [h1]; rfl
theorem lineB_f2 {bs : List BV} {ts : List Int} (h2 : ¬ ts.length ≤ 5) : lineB bs ts = false := by unfold lineB; simp [h2]
theorem lineB_f3 {bs : List BV} {ts : List Int} {k : Nat} (hk : k < ts.length) (h3 : plcB bs.length ts k = false) : lineB bs ts = false := by unfold lineB; rw [allK_no hk h3]; simp
theorem lineB_f4 {bs : List BV} {ts : List Int} {k : Nat} (hk : k < bs.length) (h3 : insB bs ts k = false) : lineB bs ts = false := by unfold lineB; rw [allK_no hk h3]; simp
theorem lineB_parts {bs : List BV} {ts : List Int} (h : lineB bs ts = true) : (inB 1 5 bs.length && possK bs bs.length) = true ∧ ts.length ≤ 5 ∧ allK (plcB bs.length ts) ts.length = true ∧ allK (insB bs ts) bs.length = true := by
  unfold lineB at h
  simp only [Bool.and_eq_true, decide_eq_true_eq] at h
  exact ⟨by simp [h.1.1, h.1.2], h.2.1, h.2.2.1, h.2.2.2⟩
theorem lineB_n {bs : List BV} {ts : List Int} (h : lineB bs ts = true) : 1 ≤ bs.length ∧ bs.length ≤ 5 ∧ ts.length ≤ 5 := by
  obtain ⟨h1, h2, _⟩ := lineB_parts h
  rw [Bool.and_eq_true] at h1
  have := inB_iff.1 h1.1
  omega
theorem plcB_f1 {n k : Nat} {ts : List Int} {x : Int} (hx : ts.getD k 0 = x) (h : x < 0 ∨ 2 * (n : Int) < x) : plcB n ts k = false := by
  unfold plcB; rw [hx, inB_false h]; rfl
theorem plcB_f2 {n k : Nat} {ts : List Int} {x y : Int} (hx : ts.getD k 0 = x) (hy : ts.getD (k - 1) 0 = y) (hk : k ≠ 0) (h : y < x) : plcB n ts k = false := by
  unfold plcB; rw [hx, hy]; simp [hk, show ¬ x ≤ y by omega]
theorem plcB_t0 {n k : Nat} {ts : List Int} {x : Int} (hx : ts.getD k 0 = x) (h : 0 ≤ x ∧ x ≤ 2 * (n : Int)) (hk : k = 0) : plcB n ts k = true := by
  unfold plcB; rw [hx, inB_true h]; simp [hk]
theorem plcB_t1 {n k : Nat} {ts : List Int} {x y : Int} (hx : ts.getD k 0 = x) (hy : ts.getD (k - 1) 0 = y) (h : 0 ≤ x ∧ x ≤ 2 * (n : Int)) (hxy : x ≤ y) : plcB n ts k = true := by
  unfold plcB; rw [hx, hy, inB_true h]; simp [hxy]

end Go.Proofs.Ytebejpaghajhkaa
