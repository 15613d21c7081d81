/-
  Lines, in plain words: what a move does to what is left, to who waits. No program here, no condition.
-/
import Derived.Test.YtebejpaghajhkaaLnP
namespace Go.Proofs.Ytebejpaghajhkaa
open Go.RowKit
set_option linter.unusedVariables false
set_option linter.unusedSimpArgs false

theorem sum_near {bs bs' : List BV} {ts ts' : List Int} {m : Nat} (h : ∀ k, k ≠ m → leftK bs' ts' k = leftK bs ts k) (h1 : leftK bs ts m - 1 ≤ leftK bs' ts' m) : ∀ k, sumL bs ts k - (if m < k then 1 else 0) ≤ sumL bs' ts' k := by
  intro k
  induction k with
  | zero => simp [sumL]
  | succ k ih =>
    simp only [sumL]
    by_cases e : k = m
    · subst e
      simp at ih ⊢
      omega
    · have := h k e
      rcases Nat.lt_or_ge m k with h2 | h2
      · rw [if_pos h2] at ih; rw [if_pos (by omega)]; omega
      · rw [if_neg (by omega)] at ih; rw [if_neg (by omega)]; omega
theorem left_set {bs : List BV} {ts : List Int} {m j : Nat} (hm : m < bs.length) (hj : j < 5) : ∀ k, leftK (bs.set m (st j)) ts k = if k = m then leftQ j (cntL ts (2 * (m : Int)) ts.length) else leftK bs ts k := by
  intro k
  unfold leftK
  rw [getD_set _ _ _ _ _ hm]
  by_cases e : k = m
  · subst e; rw [if_pos rfl, if_pos rfl, stN_st hj]
  · rw [if_neg e, if_neg e]
theorem cntL_mv {ts : List Int} {i : Nat} {p : Int} (hi : i < ts.length) (hp : ts.getD i 0 = p) (q : Int) : (cntL (ts.set i (p + 1)) q ts.length : Int) = cntL ts q ts.length - (if q = p then 1 else 0) := by
  have := cP_set (P := fun x => decide (x ≤ q)) (v := p + 1) hi ts.length hi
  rw [← cntL_cP, ← cntL_cP, hp] at this
  rw [this]
  simp only [decide_eq_true_eq]
  by_cases e : q = p
  · subst e; rw [if_pos (by omega), if_neg (by omega), if_pos rfl]; omega
  · rw [if_neg e]
    by_cases e2 : p ≤ q
    · rw [if_pos e2, if_pos (by omega)]; omega
    · rw [if_neg e2, if_neg (by omega)]; omega
theorem step_left {bs bs' : List BV} {ts ts' : List Int} {m : Nat} {s : ByteArray} (hm : m < bs.length) (h : stepU bs ts m s = some (bs', ts')) : sumL bs ts bs.length - 1 ≤ sumL bs' ts' bs'.length := by
  have hl := (stepU_len h).1
  have key : (∀ k, k ≠ m → leftK bs' ts' k = leftK bs ts k) ∧ leftK bs ts m - 1 ≤ leftK bs' ts' m := by
    unfold stepU at h
    obtain ⟨j, hj⟩ : ∃ j, bstep (bs.getD m Z3) s = j := ⟨_, rfl⟩
    rw [hj] at h
    split at h
    · cases h
    rename_i h5
    rcases bstep_ways hj h5 with ⟨hb, rfl, rfl⟩ | ⟨hb, rfl, rfl⟩ | ⟨hb, rfl, rfl⟩ | ⟨hb, rfl, rfl⟩ | ⟨hb, rfl, rfl⟩ | ⟨hb, rfl, rfl⟩ | ⟨hb, rfl, rfl⟩
    all_goals simp at h
    case inl | inr.inl | inr.inr.inl | inr.inr.inr.inl | inr.inr.inr.inr.inr.inr =>
      obtain ⟨rfl, rfl⟩ := h
      refine ⟨fun k hk => by rw [left_set hm (by omega), if_neg hk], ?_⟩
      rw [left_set hm (by omega), if_pos rfl]
      unfold leftK
      rw [hb, stN_st (by omega)]
      unfold leftQ
      simp
      try (split <;> omega)
    case inr.inr.inr.inr.inl =>
      obtain ⟨h1, rfl, rfl⟩ := h
      obtain ⟨ha1, ha2, _⟩ := atF_spec h1
      have hc := cntL_mv ha1 ha2
      generalize (atF ts (2 * (m : Int)) ts.length).toNat = i at *
      refine ⟨fun k hk => ?_, ?_⟩
      · rw [left_set hm (by omega), if_neg hk]
        unfold leftK
        have := hc (2 * (k : Int))
        rw [if_neg (by omega)] at this
        rw [List.length_set, show cntL (ts.set i (2 * (m : Int) + 1)) (2 * (k : Int)) ts.length = cntL ts (2 * (k : Int)) ts.length by omega]
      · rw [left_set hm (by omega), if_pos rfl]
        have := hc (2 * (m : Int))
        rw [if_pos rfl] at this
        unfold leftK
        rw [hb, stN_st (by omega), List.length_set]
        unfold leftQ
        simp
        split <;> omega
    case inr.inr.inr.inr.inr.inl =>
      obtain ⟨h1, rfl, rfl⟩ := h
      obtain ⟨ha1, ha2, _⟩ := atF_spec h1
      have hc := cntL_mv ha1 ha2
      generalize (atF ts (2 * (m : Int) + 1) ts.length).toNat = i at *
      rw [show 2 * (m : Int) + 1 + 1 = 2 * (m : Int) + 2 by omega] at hc
      have he : ∀ k : Nat, cntL (ts.set i (2 * (m : Int) + 2)) (2 * (k : Int)) ts.length = cntL ts (2 * (k : Int)) ts.length := by
        intro k
        have := hc (2 * (k : Int))
        rw [if_neg (by omega)] at this
        omega
      refine ⟨fun k hk => ?_, ?_⟩
      · rw [left_set hm (by omega), if_neg hk]
        unfold leftK
        rw [List.length_set, he]
      · rw [left_set hm (by omega), if_pos rfl]
        unfold leftK
        rw [hb, stN_st (by omega), List.length_set, he]
        unfold leftQ
        simp
        try omega
  have := sum_near key.1 key.2 bs.length
  rw [hl]
  split at this <;> omega

/-- How far trains have moved. -/
def sumD (xs ys : List Int) : Nat → Int
  | 0 => 0
  | k + 1 => sumD xs ys k + ys.getD k 0 - xs.getD k 0
theorem sumD_same (xs : List Int) : ∀ k, sumD xs xs k = 0 := by
  intro k
  induction k with
  | zero => rfl
  | succ k ih => simp only [sumD]; omega
theorem sumD_set {xs : List Int} {i : Nat} (hi : i < xs.length) (v : Int) : ∀ k, sumD xs (xs.set i v) k = if i < k then v - xs.getD i 0 else 0 := by
  intro k
  induction k with
  | zero => simp [sumD]
  | succ k ih =>
    simp only [sumD]
    rw [ih, getD_set _ _ _ _ _ hi]
    by_cases e : k = i
    · subst e; simp
    · rw [if_neg e]
      by_cases e2 : i < k
      · rw [if_pos e2, if_pos (by omega)]; omega
      · rw [if_neg e2, if_neg (by omega)]; omega
def dueB (s : ByteArray) : Int := if s = ⟨#[101]⟩ ∨ s = ⟨#[108]⟩ then 1 else 0
theorem step_moved {bs bs' : List BV} {ts ts' : List Int} {m : Nat} {s : ByteArray} (h : stepU bs ts m s = some (bs', ts')) : sumD ts ts' ts.length = dueB s := by
  unfold stepU at h
  obtain ⟨j, hj⟩ : ∃ j, bstep (bs.getD m Z3) s = j := ⟨_, rfl⟩
  rw [hj] at h
  split at h
  · cases h
  rename_i h5
  rcases bstep_ways hj h5 with ⟨hb, rfl, rfl⟩ | ⟨hb, rfl, rfl⟩ | ⟨hb, rfl, rfl⟩ | ⟨hb, rfl, rfl⟩ | ⟨hb, rfl, rfl⟩ | ⟨hb, rfl, rfl⟩ | ⟨hb, rfl, rfl⟩
  all_goals simp at h
  case inl | inr.inl | inr.inr.inl | inr.inr.inr.inl | inr.inr.inr.inr.inr.inr =>
    obtain ⟨rfl, rfl⟩ := h
    rw [sumD_same]
    decide
  case inr.inr.inr.inr.inl =>
    obtain ⟨h1, rfl, rfl⟩ := h
    obtain ⟨ha1, ha2, _⟩ := atF_spec h1
    rw [sumD_set ha1, if_pos ha1, ha2]
    unfold dueB
    rw [if_pos (.inl rfl)]
    omega
  case inr.inr.inr.inr.inr.inl =>
    obtain ⟨h1, rfl, rfl⟩ := h
    obtain ⟨ha1, ha2, _⟩ := atF_spec h1
    rw [sumD_set ha1, if_pos ha1, ha2]
    unfold dueB
    rw [if_pos (.inr rfl)]
    omega
theorem step_block {bs bs' : List BV} {ts ts' : List Int} {m : Nat} {s : ByteArray} (hm : m < bs.length) (h : stepU bs ts m s = some (bs', ts')) : bstep (bs.getD m Z3) s < 5 ∧ bs' = bs.set m (st (bstep (bs.getD m Z3) s)) := by
  have hle := bstep_le (bs.getD m Z3) s
  unfold stepU at h
  repeat' split at h
  all_goals first | (cases h; done) | skip
  all_goals simp at h; obtain ⟨rfl, rfl⟩ := h
  · rename_i h1 h2 h3; rw [h2]; exact ⟨by omega, rfl⟩
  · rename_i h1 h2 h3 h4; rw [h3]; exact ⟨by omega, rfl⟩
  · exact ⟨by omega, rfl⟩

/-- A train that enters. -/
theorem step_enter {bs bs' : List BV} {ts ts' : List Int} {m : Nat} (hv : lineB bs ts = true) (hm : m < bs.length) (h : stepU bs ts m ⟨#[101]⟩ = some (bs', ts')) :
    ∃ i, i < ts.length ∧ ts' = ts.set i (2 * (m : Int) + 1) ∧ atF ts' (2 * (m : Int) + 1) ts'.length = i ∧ ts.getD i 0 = 2 * (m : Int) ∧ (i = 0 ∨ 2 * (m : Int) < ts.getD (i - 1) 0) ∧ (cntT ts' (2 * (m : Int)) ts'.length : Int) = cntT ts (2 * (m : Int)) ts.length - 1 := by
  unfold stepU at h
  obtain ⟨j, hj⟩ : ∃ j, bstep (bs.getD m Z3) ⟨#[101]⟩ = j := ⟨_, rfl⟩
  rw [hj] at h
  split at h
  · cases h
  rename_i h5
  rcases bstep_ways hj h5 with ⟨hb, he, rfl⟩ | ⟨hb, he, rfl⟩ | ⟨hb, he, rfl⟩ | ⟨hb, he, rfl⟩ | ⟨hb, he, rfl⟩ | ⟨hb, he, rfl⟩ | ⟨hb, he, rfl⟩
  all_goals first | (exfalso; revert he; decide) | skip
  simp at h
  obtain ⟨h1, rfl, rfl⟩ := h
  obtain ⟨ha1, ha2, ha3⟩ := atF_spec h1
  generalize (atF ts (2 * (m : Int)) ts.length).toNat = i at *
  obtain ⟨_, _, _, h4, h6⟩ := lineB_iff.1 hv
  have hin := h6 m hm
  rw [hb] at hin
  simp [st] at hin
  rw [cntT_cP] at hin
  have hnone : ∀ j, j < ts.length → ts.getD j 0 ≠ 2 * (m : Int) + 1 := by
    intro j hj' he
    have := cP_pos (P := fun x => decide (x = 2 * (m : Int) + 1)) hj' (by simpa using he)
    omega
  refine ⟨i, ha1, rfl, ?_, ha2, ?_, ?_⟩
  · have hat : 0 ≤ atF (ts.set i (2 * (m : Int) + 1)) (2 * (m : Int) + 1) (ts.set i (2 * (m : Int) + 1)).length := by
      rw [atF_cnt, cntT_cP]
      refine cP_pos (i := i) (by rw [List.length_set]; exact ha1) ?_
      rw [getD_set _ _ _ _ _ ha1]; simp
    have hs := atF_spec hat
    rw [getD_set _ _ _ _ _ ha1] at hs
    by_cases e : (atF (ts.set i (2 * (m : Int) + 1)) (2 * (m : Int) + 1) (ts.set i (2 * (m : Int) + 1)).length).toNat = i
    · omega
    · rw [if_neg e] at hs
      rw [List.length_set] at hs e
      exact absurd hs.2.1 (hnone _ hs.1)
  · by_cases h0 : i = 0
    · exact .inl h0
    · right
      have hs := (h4 i ha1).2.2
      have hn := ha3 (i - 1) (by omega)
      rw [ha2] at hs
      omega
  · have hs := cP_set (P := fun x => decide (x = 2 * (m : Int))) (v := 2 * (m : Int) + 1) ha1 ts.length ha1
    rw [← cntT_cP, ← cntT_cP, ha2] at hs
    rw [List.length_set, hs]
    simp
    omega

/-- All trains are somewhere. -/
theorem cnt_sum {ts : List Int} (q : Int) (n : Nat) : cP (fun x => decide (x < q + 1)) ts n = cP (fun x => decide (x < q)) ts n + cP (fun x => decide (x = q)) ts n := by
  induction n with
  | zero => rfl
  | succ n ih =>
    simp only [cP, ih, decide_eq_true_eq]
    split <;> split <;> split <;> omega
/-- How many trains are before section k. -/
def before (ts : List Int) (k : Nat) : Nat := cP (fun x => decide (x < 2 * (k : Int))) ts ts.length
theorem before_0 {ts : List Int} {n : Nat} (h : ∀ k, k < ts.length → 0 ≤ ts.getD k 0 ∧ ts.getD k 0 ≤ 2 * (n : Int)) : before ts 0 = 0 := by
  unfold before
  refine cP_none _ (fun j hj => ?_)
  have := h j hj
  exact decide_eq_false (by omega)
theorem before_succ (ts : List Int) (k : Nat) : before ts (k + 1) = before ts k + cntT ts (2 * (k : Int)) ts.length + cntT ts (2 * (k : Int) + 1) ts.length := by
  unfold before
  have h1 := cnt_sum (ts := ts) (2 * (k : Int)) ts.length
  have h2 := cnt_sum (ts := ts) (2 * (k : Int) + 1) ts.length
  rw [cntT_cP, cntT_cP, ← h1, ← h2]
  have e : (fun x : Int => decide (x < 2 * ((k + 1 : Nat) : Int))) = fun x : Int => decide (x < 2 * (k : Int) + 1 + 1) := by
    funext x
    rw [decide_eq_decide]
    omega
  rw [e]
theorem before_all {ts : List Int} {n : Nat} (h : ∀ k, k < ts.length → 0 ≤ ts.getD k 0 ∧ ts.getD k 0 ≤ 2 * (n : Int)) : before ts (n + 1) = ts.length := by
  unfold before
  refine cP_all _ (fun j hj => ?_)
  have := h j hj
  exact decide_eq_true (by omega)
end Go.Proofs.Ytebejpaghajhkaa
