/-
  Lines: LineValid, LineWaits, LineIn of the program and of the reference. No condition.
-/
import Derived.Test.YtebejpaghajhkaaLn6
namespace Go.Proofs.Ytebejpaghajhkaa
open Go.RowKit
set_option linter.unusedVariables false
set_option linter.unusedSimpArgs false


/-- How many trains wait at a box. -/
def waitV (bs : List BV) (ts : List Int) (k : Int) : Int := if lineB bs ts && inB 0 bs.length k then (cntT ts (2 * k) ts.length : Int) else -1
theorem waitV_f {bs : List BV} {ts : List Int} {k : Int} (h : lineB bs ts = false) : waitV bs ts k = -1 := by unfold waitV; rw [h]; rfl
theorem waitV_n {bs : List BV} {ts : List Int} {k : Int} (h : inB 0 bs.length k = false) : waitV bs ts k = -1 := by unfold waitV; rw [h]; simp
theorem waitV_t {bs : List BV} {ts : List Int} {k : Int} (h : lineB bs ts = true) (h' : inB 0 bs.length k = true) : waitV bs ts k = cntT ts (2 * k) ts.length := by unfold waitV; rw [h, h']; rfl



/-- The first of the first k trains that is at a place, or -1. -/
def atF (ts : List Int) (p : Int) : Nat → Int
  | 0 => -1
  | k + 1 => if atF ts p k = -1 then (if ts.getD k 0 = p then (k : Int) else -1) else atF ts p k
theorem atF_no {ts : List Int} {p : Int} {k : Nat} (h : atF ts p k = -1) (hx : ts.getD k 0 ≠ p) : atF ts p (k + 1) = -1 := by simp only [atF]; rw [if_pos h, if_neg hx]
theorem atF_stay {ts : List Int} {p : Int} {k n : Nat} (h : atF ts p k ≠ -1) (hn : k ≤ n) : atF ts p n = atF ts p k := by
  induction n with
  | zero => have : k = 0 := by omega
            rw [this]
  | succ n ih =>
    rcases Nat.lt_or_ge n k with h1 | h1
    · have : k = n + 1 := by omega
      rw [this]
    · have := ih h1
      simp only [atF]; rw [this, if_neg h]
theorem atF_hit {ts : List Int} {p : Int} {k n : Nat} (h : atF ts p k = -1) (hx : ts.getD k 0 = p) (hn : k < n) : atF ts p n = k := by
  have h1 : atF ts p (k + 1) = k := by simp only [atF]; rw [if_pos h, if_pos hx]
  rw [atF_stay (k := k + 1) (by rw [h1]; omega) hn, h1]
theorem atF_bd (ts : List Int) (p : Int) (k : Nat) : -1 ≤ atF ts p k ∧ atF ts p k < k := by
  induction k with
  | zero => simp [atF]
  | succ k ih =>
    simp only [atF]
    split
    · split <;> omega
    · omega


set_option maxHeartbeats 800000 in
theorem l4At_any (b c t c' : Nat) (bs : List BV) (ts : List Int) (p : Int) (w : World) (hm : ts.length ≤ 1048576) (hb : b < w.heap.size) (ht : t < w.heap.size) (ha : AtBl w b 0 bs) (hi : AtInts w t 0 ts) :
    Calls Try.prog 99 #[.agg #[.slice (some ⟨b, 0, none⟩) bs.length c, .slice (some ⟨t, 0, none⟩) ts.length c'], .int .i64 p] w fun e w' => e = .returned (.int .i64 (atF ts p ts.length)) ∧ Below w.heap.size w w' := by
  obtain ⟨V, hV⟩ : ∃ V, atF ts p ts.length = V := ⟨_, rfl⟩
  have HV := Lib.hid hV
  rw [hV]
  have HL := Lib.hid (LnAt.new (c := c) (c' := c') hb ht ha hi)
  have BW := Lib.hid (below_new w (.cells #[.slice (some ⟨b, 0, none⟩) bs.length c, .slice (some ⟨t, 0, none⟩) ts.length c'] 68))
  clear hV ha hi
  go_enter Try.func99, Try.ntmps99
  go_wp2_with fail
  generalize w.alloc (.cells #[.slice (some ⟨b, 0, none⟩) bs.length c, .slice (some ⟨t, 0, none⟩) ts.length c'] 68) = W1 at *
  have c0 := HL.out.cell0
  have c1 := HL.out.cell1
  go_loop [5] (fun i => ∃ j : Nat, j ≤ ts.length ∧ i = .int .i64 j ∧ atF ts p j = -1) (fun i => ts.length - (intOf i).toNat)
  case atStart => exact ⟨0, Nat.zero_le _, rfl, rfl⟩
  case round =>
    obtain ⟨j, hj, rfl, hf⟩ := hrel
    have HF := Lib.hid hf
    clear hf
    by_cases hlt : j < ts.length
    · have hc := HL.out.2.2.1.at0 hlt
      have i2 : (j : Int) < (ts.length : Int) := by omega
      obtain ⟨x, hx⟩ : ∃ x, ts.getD j 0 = x := ⟨_, rfl⟩
      rw [hx] at hc
      by_cases he : x = p
      · have hVj : V = (j : Int) := HV.out.symm.trans (atF_hit HF.out (hx.trans he) hlt)
        subst hVj
        have t1 := beq_t he
        clear hx he
        go_wp2_with fail
        go_ret
        exact ⟨rfl, BW.out⟩
      · have HN := Lib.hid (atF_no HF.out (by rw [hx]; exact he))
        have t1 := beq_f he
        clear hx
        go_wp2_with fail
        go_round
        case rel => exact ⟨j + 1, by omega, by go_num, HN.out⟩
        case measure => simp [intOf]; omega
    · have hke : j = ts.length := by omega
      have hVm : V = -1 := by rw [← HV.out, ← hke]; exact HF.out
      subst hVm
      clear hke
      go_wp2_with fail
      go_ret
      exact ⟨rfl, BW.out⟩

/-- The train in a section. -/
def inV (bs : List BV) (ts : List Int) (k : Int) : Int × Bool := if lineB bs ts && inB 0 ((bs.length : Int) - 1) k && decide (0 ≤ atF ts (2 * k + 1) ts.length) then (atF ts (2 * k + 1) ts.length, true) else (0, false)
theorem inV_f {bs : List BV} {ts : List Int} {k : Int} (h : lineB bs ts = false) : inV bs ts k = (0, false) := by unfold inV; rw [h]; rfl
theorem inV_n {bs : List BV} {ts : List Int} {k : Int} (h : inB 0 ((bs.length : Int) - 1) k = false) : inV bs ts k = (0, false) := by unfold inV; rw [h]; simp
theorem inV_m {bs : List BV} {ts : List Int} {k : Int} (h : atF ts (2 * k + 1) ts.length < 0) : inV bs ts k = (0, false) := by unfold inV; rw [dec_f (by omega)]; simp
theorem inV_t {bs : List BV} {ts : List Int} {k : Int} (h : lineB bs ts = true) (h' : inB 0 ((bs.length : Int) - 1) k = true) (h2 : 0 ≤ atF ts (2 * k + 1) ts.length) : inV bs ts k = (atF ts (2 * k + 1) ts.length, true) := by unfold inV; rw [h, h', dec_t h2]; rfl


end Go.Proofs.Ytebejpaghajhkaa
