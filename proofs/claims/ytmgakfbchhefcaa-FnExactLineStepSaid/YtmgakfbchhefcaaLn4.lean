/-
  Lines: possible blocks, counting trains. No condition.
-/
import Derived.Test.YtmgakfbchhefcaaLn3
namespace Go.Proofs.Ytmgakfbchhefcaa
open Go.RowKit
set_option linter.unusedVariables false
set_option linter.unusedSimpArgs false

def possB (b : BV) : Bool := decide (stN b < 5)
set_option maxHeartbeats 400000 in
theorem implPoss_any (n : Int) (i o : Bool) (w : World) : Calls Try.prog 90 #[.agg #[.int .i64 n, .bool i, .bool o]] w fun e w' => e = .returned (.bool (possB (n, i, o))) ∧ Below w.heap.size w w' := by
  have HI := Lib.hid (fun w => instr_any n i o w)
  unfold possB
  generalize decide (stN (n, i, o) < 5) = P at *
  go_enter Try.func90, Try.ntmps90
  go_wp2_with (go_at_call 66; go_must (go_fit (HI.out _); rintro e w2 ⟨rfl, hb2⟩; have B2 := Lib.hid (below_to (below_new w (.cells #[.int .i64 n, .bool i, .bool o] 48)) hb2 (below_new w _).size); clear hb2))
  go_ret
  exact ⟨rfl, B2.out⟩
theorem possB_iff (n : Int) (i o : Bool) : possB (n, i, o) = (inB 0 2 n && (!i || (n == 2)) && (!o || (n == 0))) := by
  unfold possB stN inB
  by_cases h0 : n = 0
  · subst h0; cases i <;> cases o <;> decide
  · by_cases h1 : n = 1
    · subst h1; cases i <;> cases o <;> decide
    · by_cases h2 : n = 2
      · subst h2; cases i <;> cases o <;> decide
      · have : ¬ (0 ≤ n ∧ n ≤ 2) := by omega
        by_cases h3 : 0 ≤ n
        · have h4 : ¬ n ≤ 2 := by omega
          simp [h0, h1, h2, h4]
        · simp [h0, h1, h2, h3]
set_option maxHeartbeats 1600000 in
theorem specPoss_any (n : Int) (i o : Bool) (w : World) : Calls Try.prog 73 #[.agg #[.int .i64 n, .bool i, .bool o]] w fun e w' => e = .returned (.bool (possB (n, i, o))) ∧ Below w.heap.size w w' := by
  rw [possB_iff]
  have h6 := fun w => l6In_any n 0 2 w
  by_cases hr : inB 0 2 n = true
  · rw [hr] at h6 ⊢
    have H6 := Lib.hid h6
    clear h6 hr
    by_cases h2 : n = 2
    · have t1 := beq_t h2
      have t2 := beq_f (show n ≠ 0 by omega)
      rw [t1, t2]
      clear h2
      cases i <;> cases o
      all_goals
        go_enter Try.func73, Try.ntmps73
        go_wp2_with (go_at_call 70; go_must (go_fit (H6.out _); rintro e w2 ⟨rfl, rfl⟩))
        go_ret
        exact ⟨rfl, below_new w _⟩
    · have t1 := beq_f h2
      by_cases h0 : n = 0
      · have t2 := beq_t h0
        rw [t1, t2]
        clear h2 h0
        cases i <;> cases o
        all_goals
          go_enter Try.func73, Try.ntmps73
          go_wp2_with (go_at_call 70; go_must (go_fit (H6.out _); rintro e w2 ⟨rfl, rfl⟩))
          go_ret
          exact ⟨rfl, below_new w _⟩
      · have t2 := beq_f h0
        rw [t1, t2]
        clear h2 h0
        cases i <;> cases o
        all_goals
          go_enter Try.func73, Try.ntmps73
          go_wp2_with (go_at_call 70; go_must (go_fit (H6.out _); rintro e w2 ⟨rfl, rfl⟩))
          go_ret
          exact ⟨rfl, below_new w _⟩
  · have hr' : inB 0 2 n = false := by simpa using hr
    rw [hr'] at h6 ⊢
    have H6 := Lib.hid h6
    clear h6 hr hr'
    go_enter Try.func73, Try.ntmps73
    go_wp2_with (go_at_call 70; go_must (go_fit (H6.out _); rintro e w2 ⟨rfl, rfl⟩))
    go_ret
    exact ⟨by simp, below_new w _⟩

set_option maxHeartbeats 400000 in
theorem sections_any (n : Int) (w : World) : Calls Try.prog 69 #[.int .i64 n] w fun e w' => e = .returned (.bool (inB 1 5 n)) ∧ w = w' := by
  by_cases h1 : 1 ≤ n
  · by_cases h2 : n ≤ 5
    · have e : inB 1 5 n = true := inB_true ⟨h1, h2⟩
      rw [e]; clear e
      go_enter Try.func69, Try.ntmps69
      go_wp2
      go_ret
      exact ⟨rfl, rfl⟩
    · have e : inB 1 5 n = false := inB_false (by omega)
      rw [e]; clear e
      go_enter Try.func69, Try.ntmps69
      go_wp2
      go_ret
      exact ⟨rfl, rfl⟩
  · have e : inB 1 5 n = false := inB_false (by omega)
    rw [e]; clear e
    go_enter Try.func69, Try.ntmps69
    go_wp2
    go_ret
    exact ⟨rfl, rfl⟩

/-- The first k blocks are possible. -/
def possK (bs : List BV) : Nat → Bool
  | 0 => true
  | k + 1 => possK bs k && possB (bs.getD k Z3)
theorem possK_iff {bs : List BV} {k : Nat} : possK bs k = true ↔ ∀ j, j < k → possB (bs.getD j Z3) = true := by
  induction k with
  | zero => simp [possK]
  | succ k ih =>
    simp only [possK, Bool.and_eq_true, ih]
    constructor
    · rintro ⟨h1, h2⟩ j hj
      rcases Nat.lt_succ_iff_lt_or_eq.1 hj with h | rfl
      · exact h1 j h
      · exact h2
    · intro h; exact ⟨fun j hj => h j (by omega), h k (by omega)⟩
theorem possK_no {bs : List BV} {k n : Nat} (hk : k < n) (h : possB (bs.getD k Z3) = false) : possK bs n = false := by
  rw [Bool.eq_false_iff]
  intro hp
  rw [possK_iff.1 hp k hk] at h
  cases h
set_option maxHeartbeats 800000 in
theorem possible_any (b off c : Nat) (bs : List BV) (w : World) (hn : bs.length ≤ 1048576) (hb : b < w.heap.size) (ha : AtBl w b off bs) :
    Calls Try.prog 83 #[.slice (some ⟨b, off, none⟩) bs.length c] w fun e w' => e = .returned (.bool (inB 1 5 bs.length && possK bs bs.length)) ∧ Below w.heap.size w w' := by
  have hs := fun w => sections_any (bs.length : Int) w
  have HA := Lib.hid ha
  clear ha
  by_cases hr : inB 1 5 (bs.length : Int) = true
  · rw [hr] at hs ⊢
    have HS := Lib.hid hs
    clear hs hr
    simp only [Bool.true_and]
    obtain ⟨V, hV⟩ : ∃ V, possK bs bs.length = V := ⟨_, rfl⟩
    have HV := Lib.hid hV
    rw [hV]
    clear hV
    go_enter Try.func83, Try.ntmps83
    go_wp2_with (go_at_call 69; go_must (go_fit (HS.out _); rintro e w2 ⟨rfl, rfl⟩))
    go_loopw [4, 11] (fun p i wr => ∃ k : Nat, k ≤ bs.length ∧ i = .int .i64 k ∧ possK bs k = true ∧ Below w.heap.size w wr) (fun _ i _ => bs.length - (intOf i).toNat)
    case atStart => exact ⟨0, Nat.zero_le _, rfl, rfl, Below.refl _ _⟩
    case round =>
      obtain ⟨k, hk, rfl, hpk, hbel⟩ := hrel
      by_cases hlt : k < bs.length
      · obtain ⟨p0, p1, p2⟩ := HA.out.below hbel hb k hlt
        have i1 : (k : Int) < (bs.length : Int) := by omega
        have HPK := Lib.hid hpk
        have HB := Lib.hid hbel
        have hB1 := Lib.hid (below_new' hbel (.cells #[.int .i64 (bs.getD k Z3).1, .bool (bs.getD k Z3).2.1, .bool (bs.getD k Z3).2.2] 48))
        obtain ⟨x, hx⟩ : ∃ x, bs.getD k Z3 = x := ⟨_, rfl⟩
        rw [hx] at p0 p1 p2 hB1
        have hpo := fun w => implPoss_any x.1 x.2.1 x.2.2 w
        by_cases hp : possB x = true
        · rw [show possB (x.1, x.2.1, x.2.2) = true from hp] at hpo
          have HPO := Lib.hid hpo
          have HN : Hid (possK bs (k + 1) = true) := Lib.hid (by simp only [possK, HPK.out, hx, hp, Bool.and_self])
          clear hpo hp hx hbel hpk
          go_wp2_with (go_at_call 90; go_must (go_fit (HPO.out _); rintro e w2 ⟨rfl, hb2⟩; have B2 := Lib.hid (below_to hB1.out hb2 hB1.out.size); clear hb2))
          go_roundw
          case rel => exact ⟨k + 1, by omega, by go_num, HN.out, B2.out⟩
          case measure => simp [intOf]; omega
        · have hp' : possB x = false := by simpa using hp
          rw [show possB (x.1, x.2.1, x.2.2) = false from hp'] at hpo
          have HPO := Lib.hid hpo
          have hVf : V = false := HV.out.symm.trans (possK_no hlt (by rw [hx]; exact hp'))
          subst hVf
          clear hpo hp hp' hx hbel hpk
          go_wp2_with (go_at_call 90; go_must (go_fit (HPO.out _); rintro e w2 ⟨rfl, hb2⟩; have B2 := Lib.hid (below_to hB1.out hb2 hB1.out.size); clear hb2))
          go_ret
          exact ⟨rfl, B2.out⟩
      · have hke : k = bs.length := by omega
        have hVt : V = true := by rw [← HV.out, ← hke]; exact hpk
        subst hVt
        have HB := Lib.hid hbel
        clear hbel hpk
        go_wp2
        go_ret
        exact ⟨rfl, HB.out⟩
  · have hr' : inB 1 5 (bs.length : Int) = false := by simpa using hr
    rw [hr'] at hs ⊢
    have HS := Lib.hid hs
    clear hs hr hr'
    simp only [Bool.false_and]
    go_enter Try.func83, Try.ntmps83
    go_wp2_with (go_at_call 69; go_must (go_fit (HS.out _); rintro e w2 ⟨rfl, rfl⟩))
    go_ret
    exact ⟨rfl, Below.refl _ _⟩

/-- How many of the first k trains are at a place. -/
def cntT (ts : List Int) (p : Int) : Nat → Nat
  | 0 => 0
  | k + 1 => cntT ts p k + if ts.getD k 0 = p then 1 else 0
theorem cntT_le (ts : List Int) (p : Int) (k : Nat) : cntT ts p k ≤ k := by
  induction k with
  | zero => simp [cntT]
  | succ k ih => simp only [cntT]; split <;> omega
/-- A railway in memory: its blocks and its trains. -/
def Rw (w : World) (R g d g' d' : Nat) (bs : List BV) (ts : List Int) : Prop := Blk w R 101 #[.slice (some ⟨g, 0, none⟩) bs.length d, .slice (some ⟨g', 0, none⟩) ts.length d'] ∧ AtBl w g 0 bs ∧ AtInts w g' 0 ts
set_option maxHeartbeats 800000 in
theorem count_any (R g d g' d' : Nat) (bs : List BV) (ts : List Int) (p : Int) (w : World) (hm : ts.length ≤ 1048576) (hr : Rw w R g d g' d' bs ts) :
    Calls Try.prog 71 #[.pointer (some ⟨R, 0, none⟩), .int .i64 p] w fun e w' => e = .returned (.int .i64 (cntT ts p ts.length)) ∧ w = w' := by
  have c1 := hr.1.cell 1
  simp only [List.getElem?_toArray, List.getElem?_cons_zero, List.getElem?_cons_succ] at c1
  have HT := Lib.hid hr.2.2
  clear hr
  go_enter Try.func71, Try.ntmps71
  go_wp2
  go_loopw [5, 7, 13] (fun m t i wr => ∃ k : Nat, k ≤ ts.length ∧ i = .int .i64 k ∧ m = .int .i64 (cntT ts p k : Int) ∧ w = wr) (fun _ _ i _ => ts.length - (intOf i).toNat)
  case atStart => exact ⟨0, Nat.zero_le _, rfl, rfl, rfl⟩
  case round =>
    obtain ⟨k, hk, rfl, rfl, rfl⟩ := hrel
    have hle := cntT_le ts p k
    by_cases hlt : k < ts.length
    · have hc := HT.out k hlt
      rw [Nat.zero_add] at hc
      obtain ⟨x, hx⟩ : ∃ x, ts.getD k 0 = x := ⟨_, rfl⟩
      rw [hx] at hc
      by_cases he : x = p
      · have HE : Hid (cntT ts p (k + 1) = cntT ts p k + 1) := Lib.hid (by simp only [cntT, hx, he, if_true])
        have t1 := beq_t he
        clear hx he
        generalize cntT ts p k = C at *
        go_wp2
        go_roundw
        case rel => exact ⟨k + 1, by omega, by go_num, by rw [HE.out]; go_num, by first | rfl | trivial⟩
        case measure => simp [intOf]; omega
      · have HE : Hid (cntT ts p (k + 1) = cntT ts p k) := Lib.hid (by simp only [cntT, hx, he, if_false, Nat.add_zero])
        have t1 := beq_f he
        clear hx
        generalize cntT ts p k = C at *
        go_wp2
        go_roundw
        case rel => exact ⟨k + 1, by omega, by go_num, by rw [HE.out], by first | rfl | trivial⟩
        case measure => simp [intOf]; omega
    · have hke : k = ts.length := by omega
      subst hke
      go_wp2
      go_ret
      exact ⟨rfl, by first | rfl | trivial⟩
end Go.Proofs.Ytmgakfbchhefcaa
