/-
  Lines, in plain words: what is done, what is left, what a move does. No program here, no condition.
-/
import Derived.Test.YtebejpaghajhkaaLn7
namespace Go.Proofs.Ytebejpaghajhkaa
open Go.RowKit
set_option linter.unusedVariables false
set_option linter.unusedSimpArgs false

/-- How many of the first k numbers have a property. -/
def cP (P : Int → Bool) (ts : List Int) : Nat → Nat
  | 0 => 0
  | k + 1 => cP P ts k + if P (ts.getD k 0) then 1 else 0
theorem cP_le (P : Int → Bool) (ts : List Int) (k : Nat) : cP P ts k ≤ k := by
  induction k with
  | zero => simp [cP]
  | succ k ih => simp only [cP]; split <;> omega
theorem cntT_cP (ts : List Int) (p : Int) (k : Nat) : cntT ts p k = cP (fun x => decide (x = p)) ts k := by
  induction k with
  | zero => rfl
  | succ k ih => simp only [cntT, cP, ih, decide_eq_true_eq]
theorem cP_ext {P : Int → Bool} {xs ys : List Int} : ∀ k, (∀ j, j < k → P (xs.getD j 0) = P (ys.getD j 0)) → cP P xs k = cP P ys k := by
  intro k
  induction k with
  | zero => intro _; rfl
  | succ k ih =>
    intro h
    simp only [cP]
    rw [ih (fun j hj => h j (by omega)), h k (by omega)]
theorem cP_all {P : Int → Bool} {ts : List Int} : ∀ k, (∀ j, j < k → P (ts.getD j 0) = true) → cP P ts k = k := by
  intro k
  induction k with
  | zero => intro _; rfl
  | succ k ih =>
    intro h
    simp only [cP]
    rw [ih (fun j hj => h j (by omega)), h k (by omega)]; rfl
theorem cP_full {P : Int → Bool} {ts : List Int} : ∀ k, cP P ts k = k → ∀ j, j < k → P (ts.getD j 0) = true := by
  intro k
  induction k with
  | zero => intro _ j hj; omega
  | succ k ih =>
    intro h j hj
    simp only [cP] at h
    have hl := cP_le P ts k
    by_cases hp : P (ts.getD k 0) = true
    · rw [if_pos hp] at h
      rcases Nat.lt_succ_iff_lt_or_eq.1 hj with hj | rfl
      · exact ih (by omega) j hj
      · exact hp
    · rw [if_neg hp] at h; omega
theorem cP_none {P : Int → Bool} {ts : List Int} : ∀ k, (∀ j, j < k → P (ts.getD j 0) = false) → cP P ts k = 0 := by
  intro k
  induction k with
  | zero => intro _; rfl
  | succ k ih =>
    intro h
    simp only [cP]
    rw [ih (fun j hj => h j (by omega)), h k (by omega)]; rfl
theorem cP_pos {P : Int → Bool} {ts : List Int} {k i : Nat} (hi : i < k) (h : P (ts.getD i 0) = true) : 0 < cP P ts k := by
  induction k with
  | zero => omega
  | succ k ih =>
    simp only [cP]
    rcases Nat.lt_succ_iff_lt_or_eq.1 hi with hi | rfl
    · have := ih hi; omega
    · rw [if_pos h]; omega
theorem getD_set {α : Type} (xs : List α) (i : Nat) (v d : α) (k : Nat) (hi : i < xs.length) : (xs.set i v).getD k d = if k = i then v else xs.getD k d := by
  simp only [List.getD_eq_getElem?_getD, List.getElem?_set]
  by_cases h : i = k
  · subst h; simp [hi]
  · have : ¬ k = i := fun e => h e.symm
    simp [h, this]
theorem cP_set {P : Int → Bool} {ts : List Int} {i : Nat} {v : Int} (hi : i < ts.length) : ∀ k, i < k → (cP P (ts.set i v) k : Int) = cP P ts k - (if P (ts.getD i 0) then 1 else 0) + (if P v then 1 else 0) := by
  intro k
  induction k with
  | zero => intro h; omega
  | succ k ih =>
    intro h
    simp only [cP]
    rw [getD_set _ _ _ _ _ hi]
    rcases Nat.lt_succ_iff_lt_or_eq.1 h with h | rfl
    · have := ih h
      rw [if_neg (show ¬ k = i by omega)]
      split <;> omega
    · rw [if_pos rfl, cP_ext (xs := ts.set i v) (ys := ts) i (fun j hj => by rw [getD_set _ _ _ _ _ hi, if_neg (by omega)])]
      split <;> split <;> omega

/-- Trains at or before a place. -/
def cntL (ts : List Int) (p : Int) : Nat → Nat
  | 0 => 0
  | k + 1 => cntL ts p k + if ts.getD k 0 ≤ p then 1 else 0
theorem cntL_cP (ts : List Int) (p : Int) (k : Nat) : cntL ts p k = cP (fun x => decide (x ≤ p)) ts k := by
  induction k with
  | zero => rfl
  | succ k ih => simp only [cntL, cP, ih, decide_eq_true_eq]
theorem cntL_le (ts : List Int) (p : Int) (k : Nat) : cntL ts p k ≤ k := by rw [cntL_cP]; exact cP_le _ _ _
theorem cntL_hit {ts : List Int} {p x : Int} {k : Nat} (hx : ts.getD k 0 = x) (h : x ≤ p) : cntL ts p (k + 1) = cntL ts p k + 1 := by simp only [cntL]; rw [hx, if_pos h]
theorem cntL_no {ts : List Int} {p x : Int} {k : Nat} (hx : ts.getD k 0 = x) (h : ¬ x ≤ p) : cntL ts p (k + 1) = cntL ts p k := by simp only [cntL]; rw [hx, if_neg h]; rfl

/-- Whether a line is done. -/
def zB (bs : List BV) (k : Nat) : Bool := decide (bs.getD k Z3 = Z3)
def endB (n : Nat) (ts : List Int) (k : Nat) : Bool := decide (ts.getD k 0 = 2 * (n : Int))
def doneB (bs : List BV) (ts : List Int) : Bool := lineB bs ts && (allK (zB bs) bs.length && allK (endB bs.length ts) ts.length)
theorem doneB_f {bs : List BV} {ts : List Int} (h : lineB bs ts = false) : doneB bs ts = false := by unfold doneB; rw [h]; rfl
theorem doneB_f1 {bs : List BV} {ts : List Int} {k : Nat} (hk : k < bs.length) (h : zB bs k = false) : doneB bs ts = false := by unfold doneB; rw [allK_no hk h]; simp
theorem doneB_f2 {bs : List BV} {ts : List Int} {k : Nat} (hk : k < ts.length) (h : endB bs.length ts k = false) : doneB bs ts = false := by unfold doneB; rw [allK_no hk h]; simp
theorem doneB_t {bs : List BV} {ts : List Int} (h : lineB bs ts = true) (h1 : allK (zB bs) bs.length = true) (h2 : allK (endB bs.length ts) ts.length = true) : doneB bs ts = true := by unfold doneB; rw [h, h1, h2]; rfl
theorem ends_cnt {n : Nat} {ts : List Int} : allK (endB n ts) ts.length = decide (cntT ts (2 * (n : Int)) ts.length = ts.length) := by
  rw [Bool.eq_iff_iff, decide_eq_true_eq, cntT_cP, allK_iff]
  constructor
  · intro h
    refine cP_all _ (fun j hj => ?_)
    have := h j hj
    unfold endB at this
    simpa using this
  · intro h j hj
    have := cP_full _ h j hj
    unfold endB
    simpa using this

/-- The events that a section needs: its state's number, the trains that have not come to it. -/
def leftQ (q t : Nat) : Int :=
  if q = 1 then (if 0 < t then 5 * (t : Int) - 1 else 1) else if q = 2 then (if 0 < t then 5 * (t : Int) - 2 else 1) else if q = 3 then 5 * (t : Int) + 2 else if q = 4 then 5 * (t : Int) + 1 else 5 * (t : Int)
theorem leftQ_bd (q t : Nat) : 0 ≤ leftQ q t ∧ leftQ q t ≤ 5 * (t : Int) + 2 := by
  unfold leftQ
  repeat' split
  all_goals omega
def leftK (bs : List BV) (ts : List Int) (k : Nat) : Int := leftQ (stN (bs.getD k Z3)) (cntL ts (2 * (k : Int)) ts.length)
def sumL (bs : List BV) (ts : List Int) : Nat → Int
  | 0 => 0
  | k + 1 => sumL bs ts k + leftK bs ts k
theorem leftK_bd (bs : List BV) (ts : List Int) (k : Nat) : 0 ≤ leftK bs ts k ∧ leftK bs ts k ≤ 5 * (ts.length : Int) + 2 := by
  unfold leftK
  have h1 := leftQ_bd (stN (bs.getD k Z3)) (cntL ts (2 * (k : Int)) ts.length)
  have h2 := cntL_le ts (2 * (k : Int)) ts.length
  omega
theorem sumL_bd (bs : List BV) (ts : List Int) (h : ts.length ≤ 5) : ∀ k, 0 ≤ sumL bs ts k ∧ sumL bs ts k ≤ 27 * (k : Int) := by
  intro k
  induction k with
  | zero => simp [sumL]
  | succ k ih =>
    simp only [sumL]
    have := leftK_bd bs ts k
    omega
def leftV (bs : List BV) (ts : List Int) : Int := if lineB bs ts then sumL bs ts bs.length else -1
theorem leftV_t {bs : List BV} {ts : List Int} (h : lineB bs ts = true) : leftV bs ts = sumL bs ts bs.length := by unfold leftV; rw [h]; rfl
theorem leftV_f {bs : List BV} {ts : List Int} (h : lineB bs ts = false) : leftV bs ts = -1 := by unfold leftV; rw [h]; rfl

/-- The state's number behind a letter, 5 if there is none. -/
def nextS (q : Nat) (c : UInt8) : Nat :=
  if q = 0 ∧ c = 111 then 1 else if q = 1 ∧ c = 114 then 0 else if q = 1 ∧ c = 97 then 2 else if q = 2 ∧ c = 99 then 0 else if q = 2 ∧ c = 101 then 3 else if q = 3 ∧ c = 108 then 4 else if q = 4 ∧ c = 102 then 0 else 5
theorem nextS_le (q : Nat) (c : UInt8) : nextS q c ≤ 5 := by
  unfold nextS
  repeat' split
  all_goals omega
/-- The ways on: state and letter. -/
theorem nextS_ways {q j : Nat} {c : UInt8} (h : nextS q c = j) (hj : j ≠ 5) : (q = 0 ∧ c = 111 ∧ j = 1) ∨ (q = 1 ∧ c = 114 ∧ j = 0) ∨ (q = 1 ∧ c = 97 ∧ j = 2) ∨ (q = 2 ∧ c = 99 ∧ j = 0) ∨ (q = 2 ∧ c = 101 ∧ j = 3) ∨ (q = 3 ∧ c = 108 ∧ j = 4) ∨ (q = 4 ∧ c = 102 ∧ j = 0) := by
  unfold nextS at h
  split at h
  · exact .inl ⟨‹_ ∧ _›.1, ‹_ ∧ _›.2, h.symm⟩
  split at h
  · exact .inr (.inl ⟨‹_ ∧ _›.1, ‹_ ∧ _›.2, h.symm⟩)
  split at h
  · exact .inr (.inr (.inl ⟨‹_ ∧ _›.1, ‹_ ∧ _›.2, h.symm⟩))
  split at h
  · exact .inr (.inr (.inr (.inl ⟨‹_ ∧ _›.1, ‹_ ∧ _›.2, h.symm⟩)))
  split at h
  · exact .inr (.inr (.inr (.inr (.inl ⟨‹_ ∧ _›.1, ‹_ ∧ _›.2, h.symm⟩))))
  split at h
  · exact .inr (.inr (.inr (.inr (.inr (.inl ⟨‹_ ∧ _›.1, ‹_ ∧ _›.2, h.symm⟩)))))
  split at h
  · exact .inr (.inr (.inr (.inr (.inr (.inr ⟨‹_ ∧ _›.1, ‹_ ∧ _›.2, h.symm⟩)))))
  exact absurd h.symm hj
/-- The state's number behind a text, 5 if there is none. -/
def bstep (b : BV) (s : ByteArray) : Nat := match s.data.toList with | [c] => nextS (stN b) c | _ => 5
theorem bstep_one (b : BV) (c : UInt8) : bstep b ⟨#[c]⟩ = nextS (stN b) c := rfl
theorem size_one {s : ByteArray} (h : s.size = 1) : ∃ c, s = ⟨#[c]⟩ := by
  obtain ⟨⟨l⟩⟩ := s
  match l, h with
  | [c], _ => exact ⟨c, rfl⟩
theorem bstep_size {b : BV} {s : ByteArray} (h : s.size ≠ 1) : bstep b s = 5 := by
  unfold bstep
  split
  · rename_i c hc
    exact absurd (by show s.data.size = 1; rw [← Array.length_toList, hc]; rfl) h
  · rfl
theorem bstep_le (b : BV) (s : ByteArray) : bstep b s ≤ 5 := by
  unfold bstep
  split
  · exact nextS_le _ _
  · omega
theorem bstep_ways {b : BV} {s : ByteArray} {j : Nat} (h : bstep b s = j) (hj : j ≠ 5) : (b = st 0 ∧ s = ⟨#[111]⟩ ∧ j = 1) ∨ (b = st 1 ∧ s = ⟨#[114]⟩ ∧ j = 0) ∨ (b = st 1 ∧ s = ⟨#[97]⟩ ∧ j = 2) ∨ (b = st 2 ∧ s = ⟨#[99]⟩ ∧ j = 0) ∨ (b = st 2 ∧ s = ⟨#[101]⟩ ∧ j = 3) ∨ (b = st 3 ∧ s = ⟨#[108]⟩ ∧ j = 4) ∨ (b = st 4 ∧ s = ⟨#[102]⟩ ∧ j = 0) := by
  by_cases hs : s.size = 1
  · obtain ⟨c, rfl⟩ := size_one hs
    rw [bstep_one] at h
    rcases nextS_ways h hj with ⟨hq, rfl, rfl⟩ | ⟨hq, rfl, rfl⟩ | ⟨hq, rfl, rfl⟩ | ⟨hq, rfl, rfl⟩ | ⟨hq, rfl, rfl⟩ | ⟨hq, rfl, rfl⟩ | ⟨hq, rfl, rfl⟩
    all_goals
      have hb := stN_hit (by omega) hq
      subst hb
      simp
  · rw [bstep_size hs] at h; exact absurd h.symm hj

/-- What a move leaves of a valid line, if it can be done. -/
def stepU (bs : List BV) (ts : List Int) (m : Nat) (s : ByteArray) : Option (List BV × List Int) :=
  if bstep (bs.getD m Z3) s = 5 then none
  else if bstep (bs.getD m Z3) s = 3 then (if atF ts (2 * (m : Int)) ts.length < 0 then none else some (bs.set m (st 3), ts.set (atF ts (2 * (m : Int)) ts.length).toNat (2 * (m : Int) + 1)))
  else if bstep (bs.getD m Z3) s = 4 then (if atF ts (2 * (m : Int) + 1) ts.length < 0 then none else some (bs.set m (st 4), ts.set (atF ts (2 * (m : Int) + 1) ts.length).toNat (2 * (m : Int) + 2)))
  else some (bs.set m (st (bstep (bs.getD m Z3) s)), ts)
def stepI (bs : List BV) (ts : List Int) (m : Int) (s : ByteArray) : Option (List BV × List Int) := if 0 ≤ m ∧ m < (bs.length : Int) then stepU bs ts m.toNat s else none
def stepV (bs : List BV) (ts : List Int) (m : Int) (s : ByteArray) : Option (List BV × List Int) := if lineB bs ts then stepI bs ts m s else none

theorem atF_spec {ts : List Int} {p : Int} {k : Nat} (h : 0 ≤ atF ts p k) : (atF ts p k).toNat < k ∧ ts.getD (atF ts p k).toNat 0 = p ∧ ∀ j, j < (atF ts p k).toNat → ts.getD j 0 ≠ p := by
  induction k with
  | zero => simp [atF] at h
  | succ k ih =>
    simp only [atF] at h ⊢
    by_cases h1 : atF ts p k = -1
    · rw [if_pos h1] at h ⊢
      by_cases h2 : ts.getD k 0 = p
      · rw [if_pos h2] at h ⊢
        refine ⟨by omega, by simpa using h2, fun j hj => ?_⟩
        have hj' : j < k := by omega
        intro he
        have := atF_hit (ts := ts) (p := p) (k := j) (n := k)
        by_cases h3 : atF ts p j = -1
        · have := this h3 he hj'
          omega
        · have := atF_stay h3 (show j ≤ k by omega)
          omega
      · rw [if_neg h2] at h; omega
    · rw [if_neg h1] at h ⊢
      have := ih h
      exact ⟨by omega, this.2⟩
theorem atF_none {ts : List Int} {p : Int} {k : Nat} (h : atF ts p k < 0) : ∀ j, j < k → ts.getD j 0 ≠ p := by
  intro j hj he
  have hb := atF_bd ts p k
  by_cases h3 : atF ts p j = -1
  · have := atF_hit h3 he hj
    omega
  · have := atF_stay h3 (show j ≤ k by omega)
    have := atF_bd ts p j
    omega
theorem atF_cnt {ts : List Int} {p : Int} {k : Nat} : 0 ≤ atF ts p k ↔ 0 < cntT ts p k := by
  rw [cntT_cP]
  constructor
  · intro h
    have := atF_spec h
    exact cP_pos this.1 (by simpa using this.2.1)
  · intro h
    rcases (show atF ts p k < 0 ∨ 0 ≤ atF ts p k by omega) with h1 | h1
    · have h2 := atF_none h1
      rw [cP_none (P := fun x => decide (x = p)) k (fun j hj => by simpa using h2 j hj)] at h
      omega
    · exact h1

theorem lineB_iff {bs : List BV} {ts : List Int} : lineB bs ts = true ↔ (1 ≤ bs.length ∧ bs.length ≤ 5) ∧ (∀ j, j < bs.length → stN (bs.getD j Z3) < 5) ∧ ts.length ≤ 5 ∧ (∀ k, k < ts.length → 0 ≤ ts.getD k 0 ∧ ts.getD k 0 ≤ 2 * (bs.length : Int) ∧ (k = 0 ∨ ts.getD k 0 ≤ ts.getD (k - 1) 0)) ∧
    ∀ k, k < bs.length → (cntT ts (2 * (k : Int) + 1) ts.length : Int) = if (bs.getD k Z3).2.1 then 1 else 0 := by
  unfold lineB
  simp only [Bool.and_eq_true, decide_eq_true_eq, allK_iff, possK_iff, inB_iff, possB, plcB, insB, Bool.or_eq_true]
  constructor
  · rintro ⟨⟨h1, h2⟩, h3, h4, h5⟩
    exact ⟨by omega, h2, h3, fun k hk => ⟨(h4 k hk).1.1, (h4 k hk).1.2, (h4 k hk).2⟩, h5⟩
  · rintro ⟨h1, h2, h3, h4, h5⟩
    exact ⟨⟨by omega, h2⟩, h3, fun k hk => ⟨⟨(h4 k hk).1, (h4 k hk).2.1⟩, (h4 k hk).2.2⟩, h5⟩

theorem lineB_set {bs : List BV} {ts : List Int} {m j : Nat} (hv : lineB bs ts = true) (hm : m < bs.length) (hj : j < 5) (hi : (st j).2.1 = (bs.getD m Z3).2.1) : lineB (bs.set m (st j)) ts = true := by
  rw [lineB_iff] at hv ⊢
  obtain ⟨h1, h2, h3, h4, h5⟩ := hv
  simp only [List.length_set]
  refine ⟨h1, fun k hk => ?_, h3, h4, fun k hk => ?_⟩
  · rw [getD_set _ _ _ _ _ hm]
    split
    · rw [stN_st hj]; exact hj
    · exact h2 k hk
  · rw [getD_set _ _ _ _ _ hm]
    split
    · rename_i e; subst e; rw [hi]; exact h5 _ hk
    · exact h5 k hk
theorem lineB_mv {bs : List BV} {ts : List Int} {m j : Nat} {p : Int} (hv : lineB bs ts = true) (hm : m < bs.length) (hj : j < 5) (ha : 0 ≤ atF ts p ts.length) (hp : p = 2 * (m : Int) ∧ (st j).2.1 = true ∧ (bs.getD m Z3).2.1 = false ∨ p = 2 * (m : Int) + 1 ∧ (st j).2.1 = false ∧ (bs.getD m Z3).2.1 = true) :
    lineB (bs.set m (st j)) (ts.set (atF ts p ts.length).toNat (p + 1)) = true := by
  obtain ⟨ha1, ha2, ha3⟩ := atF_spec ha
  generalize (atF ts p ts.length).toNat = i at *
  clear ha
  rw [lineB_iff] at hv ⊢
  obtain ⟨h1, h2, h3, h4, h5⟩ := hv
  simp only [List.length_set]
  refine ⟨h1, fun k hk => ?_, h3, fun k hk => ?_, fun k hk => ?_⟩
  · rw [getD_set _ _ _ _ _ hm]
    split
    · rw [stN_st hj]; exact hj
    · exact h2 k hk
  · have hk4 := h4 k hk
    have hi4 := h4 i ha1
    rw [getD_set _ _ _ _ _ ha1, getD_set _ _ _ _ _ ha1]
    by_cases e : k = i
    · subst e
      rw [if_pos rfl]
      refine ⟨by omega, by omega, ?_⟩
      by_cases h0 : k = 0
      · exact .inl h0
      · right
        rw [if_neg (by omega)]
        have := ha3 (k - 1) (by omega)
        omega
    · rw [if_neg e]
      refine ⟨hk4.1, hk4.2.1, ?_⟩
      rcases hk4.2.2 with h0 | h0
      · exact .inl h0
      · right
        split
        · rename_i e2
          rw [e2] at h0
          omega
        · exact h0
  · have h := h5 k hk
    have hs := cP_set (P := fun x => decide (x = 2 * (k : Int) + 1)) (v := p + 1) ha1 ts.length ha1
    rw [← cntT_cP, ← cntT_cP, ha2] at hs
    rw [hs, h, getD_set _ _ _ _ _ hm]
    simp only [decide_eq_true_eq]
    clear hs h h2 h4 h5 ha3
    by_cases e : k = m
    · subst e
      rw [if_pos rfl]
      rcases hp with ⟨rfl, e1, e2⟩ | ⟨rfl, e1, e2⟩
      · rw [e1, e2, if_neg (show ¬ 2 * (k : Int) = 2 * (k : Int) + 1 by omega), if_pos (show 2 * (k : Int) + 1 = 2 * (k : Int) + 1 from rfl)]; simp
      · rw [e1, e2, if_pos (show 2 * (k : Int) + 1 = 2 * (k : Int) + 1 from rfl), if_neg (show ¬ 2 * (k : Int) + 1 + 1 = 2 * (k : Int) + 1 by omega)]; simp
    · have n1 : ¬ p = 2 * (k : Int) + 1 := by
        rcases hp with ⟨h, _⟩ | ⟨h, _⟩ <;> omega
      have n2 : ¬ p + 1 = 2 * (k : Int) + 1 := by
        rcases hp with ⟨h, _⟩ | ⟨h, _⟩ <;> omega
      rw [if_neg e, if_neg n1, if_neg n2]; simp
theorem step_valid {bs bs' : List BV} {ts ts' : List Int} {m : Nat} {s : ByteArray} (hv : lineB bs ts = true) (hm : m < bs.length) (h : stepU bs ts m s = some (bs', ts')) : lineB bs' ts' = true := by
  unfold stepU at h
  obtain ⟨j, hj⟩ : ∃ j, bstep (bs.getD m Z3) s = j := ⟨_, rfl⟩
  rw [hj] at h
  split at h
  · cases h
  rename_i h5
  rcases bstep_ways hj h5 with ⟨hb, rfl, rfl⟩ | ⟨hb, rfl, rfl⟩ | ⟨hb, rfl, rfl⟩ | ⟨hb, rfl, rfl⟩ | ⟨hb, rfl, rfl⟩ | ⟨hb, rfl, rfl⟩ | ⟨hb, rfl, rfl⟩
  all_goals simp at h
  case inl | inr.inl | inr.inr.inl | inr.inr.inr.inl | inr.inr.inr.inr.inr.inr =>
    obtain ⟨rfl, rfl⟩ := h
    exact lineB_set hv hm (by omega) (by rw [hb]; rfl)
  case inr.inr.inr.inr.inl =>
    obtain ⟨h1, rfl, rfl⟩ := h
    exact lineB_mv hv hm (by omega) h1 (.inl ⟨rfl, rfl, by rw [hb]; rfl⟩)
  case inr.inr.inr.inr.inr.inl =>
    obtain ⟨h1, rfl, rfl⟩ := h
    have := lineB_mv (j := 4) hv hm (by omega) h1 (.inr ⟨rfl, rfl, by rw [hb]; rfl⟩)
    rwa [show 2 * (m : Int) + 1 + 1 = 2 * (m : Int) + 2 by omega] at this
theorem stepU_len {bs bs' : List BV} {ts ts' : List Int} {m : Nat} {s : ByteArray} (h : stepU bs ts m s = some (bs', ts')) : bs'.length = bs.length ∧ ts'.length = ts.length := by
  unfold stepU at h
  repeat' split at h
  all_goals first | (cases h; done) | (simp at h; obtain ⟨rfl, rfl⟩ := h; simp)
end Go.Proofs.Ytebejpaghajhkaa
