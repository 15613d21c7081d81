/-
  Runs of pulses, plain: what the net tells; runs one behind the other. No condition.
-/
import Derived.Test.YtgjgedmciiolmaaCnt1
import Derived.Test.YtgjgedmciiolmaaNet
namespace Go.Proofs.Ytgjgedmciiolmaa
open Go.RowKit
set_option linter.unusedVariables false

def netAt : List Int → Int → Int
  | [], _ => 0
  | p :: ps, j => (if pidx p = j then pway p else 0) + netAt ps j
theorem netAt_snoc (ps : List Int) (p j : Int) : netAt (ps ++ [p]) j = netAt ps j + (if pidx p = j then pway p else 0) := by
  induction ps with
  | nil => simp [netAt]
  | cons q qs ih => simp only [List.cons_append, netAt, ih]; omega
theorem netL_at (n : Nat) (ps : List Int) (hok : ∀ p ∈ ps, pidx p ≤ n) (k : Nat) (hk : k ≤ ps.length) (j : Nat) (hj : j ≤ n) : (netL n ps k).getD j 0 = netAt (ps.take k) j := by
  induction k generalizing j with
  | zero => simp [netL, netAt, List.getD, show j < n + 1 by omega]
  | succ k ih =>
    have hlt : k < ps.length := by omega
    have hpk : ps.getD k 0 = ps[k] := by simp [List.getD, hlt]
    rw [List.take_succ_eq_append_getElem hlt, netAt_snoc, ← hpk]
    simp only [netL]
    have hle := hok (ps.getD k 0) (getD_mem hlt)
    have hnn := pidx_nn (ps.getD k 0)
    have hl := netL_length n ps k
    generalize ps.getD k 0 = p at *
    by_cases h : pidx p = (j : Int)
    · rw [if_pos h, h, Int.toNat_natCast]
      rw [← ih (by omega) j hj]
      simp [List.getD, hl, show j < n + 1 by omega]
    · rw [if_neg h, Int.add_zero, ← ih (by omega) j hj]
      have hne : (pidx p).toNat ≠ j := by omega
      simp [List.getD, hne]
theorem plL_diff (zs : List Int) (p : Int) (j : Nat) (hp : pidx p ≤ zs.length) (hj : j < zs.length) :
    (plL zs p).getD j 0 - zs.getD j 0 = (if pidx p = (j : Int) then pway p else 0) - (if pidx p = ((j + 1 : Nat) : Int) then pway p else 0) := by
  have hnn := pidx_nn p
  obtain ⟨i, hi⟩ := Int.eq_ofNat_of_zero_le hnn
  unfold plL plB plA
  rw [hi, Int.toNat_natCast]
  rw [hi] at hp
  generalize pway p = s
  have hset : ∀ (l : List Int) (a : Nat) (v : Int) (b : Nat), a < l.length → (l.set a v).getD b 0 = if a = b then v else l.getD b 0 := by
    intro l a v b ha
    by_cases hab : a = b
    · subst hab; simp [List.getD, ha]
    · simp [List.getD, hab]
  by_cases h1 : i < zs.length
  · rw [if_pos h1]
    by_cases h0 : 0 < i
    · rw [if_pos h0, hset _ _ _ _ (by simp; omega), hset _ _ _ _ h1, hset _ _ _ _ h1]
      by_cases ha : i - 1 = j
      · rw [if_pos ha, if_neg (by omega), if_neg (by omega), if_pos (by omega), ha]; omega
      · rw [if_neg ha]
        by_cases hb : i = j
        · subst hb; rw [if_pos rfl, if_pos rfl, if_neg (by omega)]; omega
        · rw [if_neg hb, if_neg (by omega), if_neg (by omega)]; omega
    · rw [if_neg h0, hset _ _ _ _ h1]
      by_cases hb : i = j
      · subst hb; rw [if_pos rfl, if_pos rfl, if_neg (by omega)]; omega
      · rw [if_neg hb, if_neg (by omega), if_neg (by omega)]; omega
  · rw [if_neg h1]
    have h0 : 0 < i := by omega
    rw [if_pos h0, hset _ _ _ _ (by omega)]
    by_cases ha : i - 1 = j
    · rw [if_pos ha, if_neg (by omega), if_pos (by omega), ha]; omega
    · rw [if_neg ha, if_neg (by omega), if_neg (by omega)]; omega
theorem okP_idx {zs : List Int} {p : Int} (h : okP zs p = true) : pidx p ≤ zs.length := by
  unfold okP at h
  rw [Bool.and_eq_true, decide_eq_true_eq] at h
  exact h.1
theorem runGo_ok {ps : List Int} : ∀ {zs out : List Int}, runGo zs ps = (out, true) → out.length = zs.length ∧ (∀ p ∈ ps, pidx p ≤ zs.length) ∧ ∀ k : Nat, k < zs.length → out.getD k 0 - zs.getD k 0 = netAt ps k - netAt ps ((k + 1 : Nat) : Int) := by
  induction ps with
  | nil =>
    intro zs out h
    simp only [runGo, Prod.mk.injEq, and_true] at h
    subst h
    exact ⟨rfl, by simp, fun k hk => by simp [netAt]⟩
  | cons p ps ih =>
    intro zs out h
    simp only [runGo] at h
    by_cases hok : okP zs p = true
    · rw [if_pos hok] at h
      obtain ⟨h1, h2, h3⟩ := ih h
      rw [plL_length] at h1 h2 h3
      have hi := okP_idx hok
      refine ⟨h1, fun q hq => ?_, fun k hk => ?_⟩
      · rcases List.mem_cons.1 hq with rfl | hq
        · exact hi
        · exact h2 q hq
      · have h4 := h3 k hk
        have h5 := plL_diff zs p k hi hk
        simp only [netAt]
        omega
    · rw [if_neg hok] at h; simp at h
theorem runGo_app {ps : List Int} (qs : List Int) : ∀ {zs out : List Int}, runGo zs (ps ++ qs) = (out, true) → ∃ mid, runGo zs ps = (mid, true) ∧ runGo mid qs = (out, true) := by
  induction ps with
  | nil => intro zs out h; exact ⟨zs, rfl, h⟩
  | cons p ps ih =>
    intro zs out h
    simp only [List.cons_append, runGo] at h ⊢
    by_cases hok : okP zs p = true
    · rw [if_pos hok] at h ⊢; exact ih h
    · rw [if_neg hok] at h; simp at h
theorem runGo_cv {ps : List Int} : ∀ {zs out : List Int}, cvB zs = true → runGo zs ps = (out, true) → cvB out = true := by
  induction ps with
  | nil => intro zs out hv h; simp only [runGo, Prod.mk.injEq, and_true] at h; subst h; exact hv
  | cons p ps ih =>
    intro zs out hv h
    simp only [runGo] at h
    by_cases hok : okP zs p = true
    · rw [if_pos hok] at h; exact ih (okP_cv hok) h
    · rw [if_neg hok] at h; simp at h
theorem runGo_false {ps : List Int} : ∀ {zs : List Int}, (runGo zs ps).2 = false → (runGo zs ps).1 = [] := by
  induction ps with
  | nil => intro zs h; simp [runGo] at h
  | cons p ps ih =>
    intro zs h
    simp only [runGo] at h ⊢
    by_cases hok : okP zs p = true
    · rw [if_pos hok] at h ⊢; exact ih h
    · rw [if_neg hok]
theorem runV_false {zs ps : List Int} (h : (runV zs ps).2 = false) : (runV zs ps).1 = [] := by
  unfold runV at h ⊢
  split
  · rename_i hv; rw [if_pos hv] at h; exact runGo_false h
  · rfl
/-- All that the law on CountsRun wants. -/
theorem runV_ok {zs ps : List Int} (h : (runV zs ps).2 = true) (m : Nat) : cvB zs = true ∧ (runV zs ps).1.length = zs.length ∧ netOk zs.length ps = true ∧ (netV zs.length ps).length = zs.length + 1
    ∧ (∀ k : Nat, k < zs.length → (runV zs ps).1.getD k 0 - zs.getD k 0 = (netV zs.length ps).getD k 0 - (netV zs.length ps).getD (k + 1) 0)
    ∧ (∀ k : Nat, k < zs.length → (0 ≤ zs.getD k 0 ∧ zs.getD k 0 ≤ 50) ∧ (0 ≤ (runV zs ps).1.getD k 0 ∧ (runV zs ps).1.getD k 0 ≤ 50)) ∧ (∀ j : Nat, -(ps.length : Int) ≤ (netV zs.length ps).getD j 0 ∧ (netV zs.length ps).getD j 0 ≤ ps.length)
    ∧ ∃ mid, mid.length = zs.length ∧ runV zs (ps.take m) = (mid, true) ∧ runV mid (ps.drop m) = ((runV zs ps).1, true) := by
  have hv : cvB zs = true := by
    cases hc : cvB zs with
    | true => rfl
    | false => unfold runV at h; rw [hc] at h; simp at h
  have hr : runV zs ps = runGo zs ps := by unfold runV; rw [if_pos hv]
  rw [hr] at h ⊢
  rcases hgo : runGo zs ps with ⟨out, ok⟩
  rw [hgo] at h
  simp only at h ⊢
  subst h
  obtain ⟨h1, h2, h3⟩ := runGo_ok hgo
  have hlen := cv_len hv
  have hnok : netOk zs.length ps = true := by
    unfold netOk okPs
    rw [inB_true (by omega), Bool.true_and, List.all_eq_true]
    intro p hp
    have := h2 p hp
    rw [Int.toNat_natCast, decide_eq_true_eq]
    exact this
  have hnv : netV zs.length ps = netL zs.length ps ps.length := by unfold netV; rw [if_pos hnok, Int.toNat_natCast]
  refine ⟨hv, h1, hnok, by rw [hnv, netL_length], fun k hk => ?_, fun k hk => ⟨cv_in hv k hk, cv_in (runGo_cv hv hgo) k (by omega)⟩, fun j => by rw [hnv]; exact netL_bound _ _ _ j, ?_⟩
  · rw [h3 k hk, hnv, netL_at _ _ h2 _ (Nat.le_refl _) k (by omega), netL_at _ _ h2 _ (Nat.le_refl _) (k + 1) (by omega), List.take_length]
  · have hgo2 : runGo zs (ps.take m ++ ps.drop m) = (out, true) := by rw [List.take_append_drop]; exact hgo
    obtain ⟨mid, hm1, hm2⟩ := runGo_app _ hgo2
    refine ⟨mid, (runGo_ok hm1).1, ?_, ?_⟩
    · unfold runV; rw [if_pos hv, hm1]
    · unfold runV; rw [if_pos (runGo_cv hv hm1), hm2]

end Go.Proofs.Ytgjgedmciiolmaa
