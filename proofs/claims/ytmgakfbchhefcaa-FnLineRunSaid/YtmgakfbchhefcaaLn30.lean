/-
  Lines: a run by sections; a run in two parts, in plain words. No condition.
-/
import Derived.Test.YtmgakfbchhefcaaLn29
namespace Go.Proofs.Ytmgakfbchhefcaa
open Go.RowKit
set_option linter.unusedVariables false
set_option linter.unusedSimpArgs false

theorem foldI_app (xs ys : List MV) : ∀ bs ts, foldI bs ts (xs ++ ys) = match foldI bs ts xs with
    | none => none
    | some p => foldI p.1 p.2 ys := by
  induction xs with
  | nil => intro bs ts; rfl
  | cons x xs ih =>
    intro bs ts
    simp only [List.cons_append, foldI]
    split
    · rfl
    · exact ih _ _
theorem foldI_len {ms : List MV} : ∀ {bs bs' : List BV} {ts ts' : List Int}, foldI bs ts ms = some (bs', ts') → bs'.length = bs.length ∧ ts'.length = ts.length := by
  induction ms with
  | nil => intro bs bs' ts ts' h; cases h; exact ⟨rfl, rfl⟩
  | cons m ms ih =>
    intro bs bs' ts ts' h
    simp only [foldI] at h
    split at h
    · cases h
    · rename_i p hp
      have h1 := stepI_len hp
      have h2 := ih h
      exact ⟨h2.1.trans h1.1, h2.2.trans h1.2⟩
theorem foldI_valid {ms : List MV} : ∀ {bs bs' : List BV} {ts ts' : List Int}, lineB bs ts = true → foldI bs ts ms = some (bs', ts') → lineB bs' ts' = true := by
  induction ms with
  | nil => intro bs bs' ts ts' hv h; cases h; exact hv
  | cons m ms ih =>
    intro bs bs' ts ts' hv h
    simp only [foldI] at h
    split at h
    · cases h
    · rename_i p hp
      unfold stepI at hp
      split at hp
      · rename_i hr
        exact ih (step_valid hv (by omega) hp) h
      · cases hp
theorem runL_parts {bs bs' : List BV} {ts ts' : List Int} {ms : List MV} (h : runL bs ts ms = some (bs', ts')) : lineB bs ts = true ∧ foldI bs ts ms = some (bs', ts') := by
  unfold runL at h
  split at h
  · exact ⟨by assumption, h⟩
  · cases h
/-- A run in two parts. -/
theorem runL_two {bs bs' : List BV} {ts ts' : List Int} {ms : List MV} (h : runL bs ts ms = some (bs', ts')) (n : Nat) : ∃ p, runL bs ts (ms.take n) = some p ∧ runL p.1 p.2 (ms.drop n) = some (bs', ts') ∧ p.1.length = bs.length ∧ p.2.length = ts.length := by
  obtain ⟨hv, hf⟩ := runL_parts h
  rw [← List.take_append_drop n ms, foldI_app] at hf
  split at hf
  · cases hf
  · rename_i p hp
    refine ⟨p, ?_, ?_, foldI_len (bs' := p.1) (ts' := p.2) hp⟩
    · unfold runL; rw [if_pos hv]; exact hp
    · unfold runL; rw [if_pos (foldI_valid (bs' := p.1) (ts' := p.2) hv hp)]; exact hf
/-- The letters of a section, in a list. -/
def txL (k : Int) : List MV → List UInt8
  | [] => []
  | m :: ms => (if m.1 = k then m.2.data.toList else []) ++ txL k ms
theorem txL_app (k : Int) (xs ys : List MV) : txL k (xs ++ ys) = txL k xs ++ txL k ys := by
  induction xs with
  | nil => rfl
  | cons x xs ih => simp [txL, ih]
theorem txM_txL (ms : List MV) (k : Int) : ∀ i, i ≤ ms.length → txM ms k i = txL k (ms.take i) := by
  intro i
  induction i with
  | zero => intro _; rfl
  | succ i ih =>
    intro hi
    have e : ms.take (i + 1) = ms.take i ++ [ms.getD i Z2m] := by
      rw [List.take_add_one, List.getElem?_eq_getElem (show i < ms.length by omega)]
      simp [List.getD, List.getElem?_eq_getElem (show i < ms.length by omega)]
    rw [e, txL_app, ← ih (by omega)]
    simp [txM, txL]
theorem runK_fold (s : ByteArray) (q : Nat) : ∀ k, k ≤ s.size → runK s q k = (s.data.toList.take k).foldl nextS q := by
  intro k
  induction k with
  | zero => intro _; rfl
  | succ k ih =>
    intro hk
    have hl : k < s.data.toList.length := by
      have : s.data.toList.length = s.size := Array.length_toList
      omega
    have e : s.data.toList.take (k + 1) = s.data.toList.take k ++ [s.data.toList.getD k 0] := by
      rw [List.take_add_one, List.getElem?_eq_getElem hl]
      simp [List.getD, List.getElem?_eq_getElem hl]
    rw [e, List.foldl_append, ← ih (by omega)]
    rfl
theorem bstep_list {b : BV} {s : ByteArray} (h : bstep b s < 5) : ∃ c, s.data.toList = [c] ∧ bstep b s = nextS (stN b) c := by
  unfold bstep at h ⊢
  split at h
  · rename_i c hc
    exact ⟨c, hc, rfl⟩
  · omega
theorem foldI_block {ms : List MV} : ∀ {bs bs' : List BV} {ts ts' : List Int}, foldI bs ts ms = some (bs', ts') → ∀ k : Nat, k < bs.length → stN (bs.getD k Z3) < 5 → stN (bs'.getD k Z3) = (txL (k : Int) ms).foldl nextS (stN (bs.getD k Z3)) ∧ stN (bs'.getD k Z3) < 5 := by
  induction ms with
  | nil => intro bs bs' ts ts' h k hk h5; cases h; exact ⟨rfl, h5⟩
  | cons m ms ih =>
    intro bs bs' ts ts' h k hk h5
    simp only [foldI] at h
    split at h
    · cases h
    · rename_i p hp
      unfold stepI at hp
      split at hp
      · rename_i hr
        obtain ⟨bn, tn⟩ := p
        have hmb : m.1.toNat < bs.length := by omega
        obtain ⟨hb5, hbn⟩ := step_block hmb hp
        obtain ⟨c, hc, hcs⟩ := bstep_list hb5
        simp only at h hbn
        have hl := (stepU_len hp).1
        by_cases e : m.1 = (k : Int)
        · have e2 : m.1.toNat = k := by omega
          rw [e2] at hbn hb5 hcs
          have hg : bn.getD k Z3 = st (bstep (bs.getD k Z3) m.2) := by rw [hbn]; simp [List.getD, hk]
          have hs : stN (bn.getD k Z3) = nextS (stN (bs.getD k Z3)) c := by rw [hg, stN_st hb5, hcs]
          have := ih h k (by omega) (by rw [hg, stN_st hb5]; exact hb5)
          rw [hs] at this
          simp only [txL, if_pos e, hc, List.cons_append, List.nil_append, List.foldl_cons]
          exact this
        · have hg : bn.getD k Z3 = bs.getD k Z3 := by rw [hbn]; simp [List.getD, show ¬ m.1.toNat = k by omega]
          have := ih h k (by omega) (by rw [hg]; exact h5)
          rw [hg] at this
          simp only [txL, if_neg e, List.nil_append]
          exact this
      · cases hp
/-- Each section sees a legal text. -/
theorem run_section {bs bs' : List BV} {ts ts' : List Int} {ms : List MV} (h : runL bs ts ms = some (bs', ts')) (k : Nat) (hk : k < bs.length) : stN (bs.getD k Z3) < 5 ∧ stN (bs'.getD k Z3) < 5 ∧ ((⟨(txM ms (k : Int) ms.length).toArray⟩ : ByteArray).size ≤ 30 → runV (stN (bs.getD k Z3)) ⟨(txM ms (k : Int) ms.length).toArray⟩ = stN (bs'.getD k Z3)) := by
  obtain ⟨hv, hf⟩ := runL_parts h
  have h5 := (lineB_iff.1 hv).2.1 k hk
  obtain ⟨h1, h2⟩ := foldI_block hf k hk h5
  refine ⟨h5, h2, fun h30 => ?_⟩
  rw [runV_t h30, runK_fold _ _ _ (Nat.le_refl _), h1, txM_txL ms k _ (Nat.le_refl _), List.take_length]
  congr 1
  show (txL (k : Int) ms).toArray.toList.take (txL (k : Int) ms).toArray.size = _
  simp
end Go.Proofs.Ytmgakfbchhefcaa
