/-
  Registers' laws, in plain words: offsets and slacks, later registers, parts of a register. No program here, no condition.
-/
import Derived.Test.YtebejpaghajhkaaRg2
namespace Go.Proofs.Ytebejpaghajhkaa
open Go.RowKit
set_option linter.unusedVariables false
set_option linter.unusedSimpArgs false

theorem firstF_le {p : Nat → Bool} {j n : Nat} (hj : j < n) (hp : p j = true) : ∃ o, firstF p n = some o ∧ o ≤ j := by
  cases hf : firstF p n with
  | none => have := firstF_none.1 hf j hj; rw [hp] at this; cases this
  | some o =>
    obtain ⟨_, _, h3⟩ := firstF_mem hf
    refine ⟨o, rfl, ?_⟩
    rcases Nat.lt_or_ge j o with h | h
    · have := h3 j h; rw [hp] at this; cases this
    · exact h
theorem firstF_congr {p q : Nat → Bool} {n : Nat} (h : ∀ j, j < n → p j = q j) : firstF p n = firstF q n := by
  induction n with
  | zero => rfl
  | succ n ih =>
    simp only [firstF]
    rw [ih (fun j hj => h j (by omega)), h n (by omega)]
theorem firstF_isSome {p : Nat → Bool} {n : Nat} : (firstF p n).isSome = true ↔ ∃ j, j < n ∧ p j = true := by
  constructor
  · intro h
    obtain ⟨o, ho⟩ := Option.isSome_iff_exists.1 h
    obtain ⟨h1, h2, _⟩ := firstF_mem ho
    exact ⟨o, h1, h2⟩
  · rintro ⟨j, hj, hp⟩
    obtain ⟨o, ho, _⟩ := firstF_le hj hp
    rw [ho]; rfl
theorem fit_iff {xs ys : List NV} {sl o : Int} : fitB xs ys sl o = true ↔ txt xs = txt ys ∧ ∀ k, k < xs.length → 0 - sl ≤ (ys.getD k Z2).1 - (xs.getD k Z2).1 - o ∧ (ys.getD k Z2).1 - (xs.getD k Z2).1 - o ≤ sl := by
  unfold fitB agree
  rw [Bool.and_eq_true, decide_eq_true_eq, allN_iff]
  refine and_congr_right fun _ => forall_congr' fun k => imp_congr_right fun _ => ?_
  unfold agB
  exact inB_iff
theorem txt_len {xs ys : List NV} (h : regB xs = true) (h' : regB ys = true) (ht : txt xs = txt ys) : xs.length = ys.length := by
  have h1 := txt_size h
  have h2 := txt_size h'
  rw [ht] at h1
  omega
theorem offV_some {xs ys : List NV} {sl : Int} {j : Nat} (h : offV xs ys sl = some j) :
    regB xs = true ∧ regB ys = true ∧ (0 ≤ sl ∧ sl ≤ 5) ∧ j < 61 ∧ fitB xs ys sl ((j : Int) - 30) = true ∧ ∀ i, i < j → fitB xs ys sl ((i : Int) - 30) = false := by
  unfold offV at h
  split at h
  · rename_i hr
    rw [Bool.and_eq_true] at hr
    unfold offJ at h
    split at h
    · rename_i hs
      obtain ⟨h1, h2, h3⟩ := firstF_mem h
      exact ⟨hr.1, hr.2, inB_iff.1 hs, h1, h2, h3⟩
    · cases h
  · cases h
theorem offV_run {xs ys : List NV} {sl : Int} (h : regB xs = true) (h' : regB ys = true) (hs : 0 ≤ sl ∧ sl ≤ 5) : offV xs ys sl = firstF (fun j => fitB xs ys sl ((j : Int) - 30)) 61 := by
  rw [offV_yes h h']
  unfold offJ
  rw [if_pos (inB_iff.2 hs)]
/-- What FnOffset asks. -/
theorem offset_law {xs ys : List NV} {sl : Int} {j : Nat} (h : offV xs ys sl = some j) :
    xs.length = ys.length ∧ j < 61 ∧ (0 ≤ sl ∧ sl ≤ 5) ∧ (∀ k, k < xs.length → 0 - sl ≤ (ys.getD k Z2).1 - (xs.getD k Z2).1 - ((j : Int) - 30) ∧ (ys.getD k Z2).1 - (xs.getD k Z2).1 - ((j : Int) - 30) ≤ sl) ∧
    (∃ i, offV xs xs sl = some i ∧ i ≤ 30) ∧ (sl = 5 ∨ ∃ i, offV xs ys (sl + 1) = some i ∧ i ≤ j) := by
  obtain ⟨hx, hy, hs, hj, hf, hm⟩ := offV_some h
  obtain ⟨ht, ha⟩ := fit_iff.1 hf
  refine ⟨txt_len hx hy ht, hj, hs, ha, ?_, ?_⟩
  · rw [offV_run hx hx hs]
    refine firstF_le (by omega) ?_
    exact fit_iff.2 ⟨rfl, fun k _ => by omega⟩
  · by_cases e : sl = 5
    · exact .inl e
    · refine .inr ?_
      rw [offV_run hx hy (by omega)]
      refine firstF_le hj ?_
      exact fit_iff.2 ⟨ht, fun k hk => by have := ha k hk; omega⟩

/-- All minutes later. -/
def lat (ns : List NV) (k : Int) : List NV := ns.map fun x => (x.1 + k, x.2)
theorem lat_len (ns : List NV) (k : Int) : (lat ns k).length = ns.length := by simp [lat]
theorem lat_get {ns : List NV} {k : Int} {i : Nat} (h : i < ns.length) : (lat ns k).getD i Z2 = ((ns.getD i Z2).1 + k, (ns.getD i Z2).2) := by
  simp [lat, List.getD, h]
theorem lat_lat (ns : List NV) (k : Int) : lat (lat ns k) (0 - k) = ns := by
  induction ns with
  | nil => rfl
  | cons x xs ih =>
    unfold lat at ih ⊢
    simp only [List.map_cons]
    rw [ih, show x.1 + k + (0 - k) = x.1 by omega]
theorem lat_txK {ns : List NV} {k : Int} {n : Nat} (h : n ≤ ns.length) : txK (lat ns k) n = txK ns n := by
  induction n with
  | zero => rfl
  | succ n ih =>
    simp only [txK]
    rw [ih (by omega), lat_get (by omega)]
theorem lat_txt (ns : List NV) (k : Int) : txt (lat ns k) = txt ns := by
  unfold txt
  rw [lat_len]
  exact lat_txK (Nat.le_refl _)
/-- Whether a register can be later. -/
def lateB (ns : List NV) (k : Int) : Bool := regB ns && (decide (ns.length = 0) || (inB (-2000) 2000 k && regB (lat ns k)))
theorem lateB_iff {ns : List NV} {k : Int} : lateB ns k = true ↔ regB ns = true ∧ (ns = [] ∨ ((-2000 ≤ k ∧ k ≤ 2000) ∧ regB (lat ns k) = true)) := by
  unfold lateB
  rw [Bool.and_eq_true, Bool.or_eq_true, Bool.and_eq_true, decide_eq_true_eq, inB_iff, List.length_eq_zero_iff]
theorem lateB_reg {ns : List NV} {k : Int} (h : lateB ns k = true) : regB (lat ns k) = true := by
  obtain ⟨h1, h2⟩ := lateB_iff.1 h
  rcases h2 with rfl | h2
  · exact h1
  · exact h2.2
/-- What FnOffsetLate asks. -/
theorem late_law {xs ys : List NV} {sl : Int} {j : Nat} (h : offV xs ys sl = some j) (hl : lateB ys 3 = true) (h0 : 0 < xs.length) (hj0 : 0 < j) :
    offV xs (lat ys 3) sl = if j + 3 < 61 then some (j + 3) else none := by
  obtain ⟨hx, hy, hs, hj, hf, hm⟩ := offV_some h
  obtain ⟨ht, ha⟩ := fit_iff.1 hf
  have hlen := txt_len hx hy ht
  have hfit : ∀ o : Int, fitB xs (lat ys 3) sl o = true ↔ fitB xs ys sl (o - 3) = true := by
    intro o
    rw [fit_iff, fit_iff, lat_txt]
    refine and_congr_right fun _ => forall_congr' fun k => imp_congr_right fun hk => ?_
    rw [lat_get (by omega)]
    simp only []
    omega
  have hlow : ∀ o : Int, o < (j : Int) - 30 → fitB xs ys sl o = false := by
    intro o ho
    by_cases e : fitB xs ys sl o = true
    · have h1 := hm (j - 1) (by omega)
      obtain ⟨_, hb⟩ := fit_iff.1 e
      have : fitB xs ys sl (((j - 1 : Nat) : Int) - 30) = true := fit_iff.2 ⟨ht, fun k hk => by have := ha k hk; have := hb k hk; omega⟩
      rw [h1] at this; cases this
    · simpa using e
  have hno : ∀ i : Nat, i < j + 3 → fitB xs (lat ys 3) sl ((i : Int) - 30) = false := by
    intro i hi
    by_cases e : fitB xs (lat ys 3) sl ((i : Int) - 30) = true
    · have := (hfit _).1 e
      rw [hlow _ (by omega)] at this; cases this
    · simpa using e
  rw [offV_run hx (lateB_reg hl) hs]
  split
  · refine firstF_at (by omega) ((hfit _).2 ?_) hno
    rw [show (((j + 3 : Nat) : Int) - 30 - 3) = (j : Int) - 30 by omega]
    exact hf
  · exact firstF_none.2 fun i hi => hno i (by omega)
/-- What FnLateBack asks. -/
theorem back_law {ns : List NV} {k : Int} (h : lateB ns k = true) : lateB (lat ns k) (0 - k) = true ∧ lat (lat ns k) (0 - k) = ns ∧ txt (lat ns k) = txt ns ∧
    (0 < ns.length → offV ns (lat ns k) 0 = if -30 ≤ k ∧ k ≤ 30 then some (k + 30).toNat else none) := by
  have hr := lateB_reg h
  obtain ⟨h1, h2⟩ := lateB_iff.1 h
  refine ⟨lateB_iff.2 ⟨hr, ?_⟩, lat_lat ns k, lat_txt ns k, fun h0 => ?_⟩
  · rcases h2 with rfl | h2
    · exact .inl rfl
    · exact .inr ⟨by omega, by rw [lat_lat]; exact h1⟩
  · have hfit : ∀ o : Int, fitB ns (lat ns k) 0 o = true ↔ o = k := by
      intro o
      rw [fit_iff, lat_txt]
      constructor
      · intro hh
        have := hh.2 0 h0
        rw [lat_get h0] at this
        simp only [] at this
        omega
      · rintro rfl
        refine ⟨rfl, fun i hi => ?_⟩
        rw [lat_get hi]
        simp only []
        omega
    rw [offV_run h1 hr ⟨by omega, by omega⟩]
    split
    · rename_i hk
      refine firstF_at (by omega) ((hfit _).2 (by omega)) fun i hi => ?_
      by_cases e : fitB ns (lat ns k) 0 ((i : Int) - 30) = true
      · have := (hfit _).1 e; omega
      · simpa using e
    · rename_i hk
      refine firstF_none.2 fun i hi => ?_
      by_cases e : fitB ns (lat ns k) 0 ((i : Int) - 30) = true
      · have := (hfit _).1 e; omega
      · simpa using e

/-- What FnSlack asks. -/
theorem fit_swap {xs ys : List NV} {sl o : Int} (hx : regB xs = true) (hy : regB ys = true) (h : fitB xs ys sl o = true) : fitB ys xs sl (0 - o) = true := by
  obtain ⟨ht, ha⟩ := fit_iff.1 h
  have hlen := txt_len hx hy ht
  exact fit_iff.2 ⟨ht.symm, fun k hk => by have := ha k (by omega); omega⟩
theorem offJ_some {xs ys : List NV} {sl : Int} (hs : 0 ≤ sl ∧ sl ≤ 5) : (offJ xs ys sl).isSome = true ↔ ∃ o : Int, (-30 ≤ o ∧ o ≤ 30) ∧ fitB xs ys sl o = true := by
  unfold offJ
  rw [if_pos (inB_iff.2 hs), firstF_isSome]
  constructor
  · rintro ⟨j, hj, hf⟩; exact ⟨(j : Int) - 30, by omega, hf⟩
  · rintro ⟨o, ho, hf⟩; exact ⟨(o + 30).toNat, by omega, by rw [show (((o + 30).toNat : Nat) : Int) - 30 = o by omega]; exact hf⟩
theorem offJ_swap {xs ys : List NV} {sl : Int} (hx : regB xs = true) (hy : regB ys = true) (hs : 0 ≤ sl ∧ sl ≤ 5) : (offJ xs ys sl).isSome = (offJ ys xs sl).isSome := by
  rw [Bool.eq_iff_iff, offJ_some hs, offJ_some hs]
  constructor
  · rintro ⟨o, ho, hf⟩; exact ⟨0 - o, by omega, fit_swap hx hy hf⟩
  · rintro ⟨o, ho, hf⟩; exact ⟨0 - o, by omega, fit_swap hy hx hf⟩
theorem slV_some {xs ys : List NV} {k : Nat} (h : slV xs ys = some k) : regB xs = true ∧ regB ys = true ∧ k < 6 ∧ (offJ xs ys (k : Int)).isSome = true ∧ ∀ i, i < k → (offJ xs ys (i : Int)).isSome = false := by
  unfold slV at h
  split at h
  · rename_i hr
    rw [Bool.and_eq_true] at hr
    obtain ⟨h1, h2, h3⟩ := firstF_mem h
    exact ⟨hr.1, hr.2, h1, h2, h3⟩
  · cases h
theorem slack_law {xs ys : List NV} {k : Nat} (h : slV xs ys = some k) : k < 6 ∧ slV ys xs = some k ∧ slV xs xs = some 0 ∧ (∃ j, j < 61 ∧ offV xs ys (k : Int) = some j) ∧ offV xs ys ((k : Int) - 1) = none := by
  obtain ⟨hx, hy, hk, hf, hm⟩ := slV_some h
  refine ⟨hk, ?_, ?_, ?_, ?_⟩
  · rw [slV_yes hy hx, ← h, slV_yes hx hy]
    exact firstF_congr fun j hj => (offJ_swap hx hy ⟨by omega, by omega⟩).symm
  · rw [slV_yes hx hx]
    refine firstF_at (by omega) ?_ (fun i hi => by omega)
    exact (offJ_some ⟨by omega, by omega⟩).2 ⟨0, by omega, fit_iff.2 ⟨rfl, fun k _ => by omega⟩⟩
  · obtain ⟨j, hj⟩ := Option.isSome_iff_exists.1 hf
    have : offV xs ys (k : Int) = some j := by rw [offV_yes hx hy]; exact hj
    exact ⟨j, (offV_some this).2.2.2.1, this⟩
  · rw [offV_yes hx hy]
    by_cases e : k = 0
    · subst e
      exact offJ_no (inB_false (.inl (by omega)))
    · have := hm (k - 1) (by omega)
      rw [show (((k - 1 : Nat) : Int)) = (k : Int) - 1 by omega] at this
      simpa using this

/-- What FnRegisterUntil asks. -/
theorem unK_same {ns : List NV} {m : Int} {k : Nat} : (∀ i, i < unK ns m k → (ns.getD i Z2).1 ≤ m) ∧ (unK ns m k = k ∨ m < (ns.getD (unK ns m k) Z2).1) := by
  induction k with
  | zero => exact ⟨fun i hi => absurd hi (by simp [unK]), .inl rfl⟩
  | succ k ih =>
    simp only [unK]
    split
    · rename_i h
      refine ⟨fun i hi => ?_, .inl rfl⟩
      rcases Nat.lt_succ_iff_lt_or_eq.1 hi with hi | rfl
      · exact ih.1 i (by omega)
      · exact h.2
    · rename_i h
      refine ⟨ih.1, ?_⟩
      rcases ih.2 with h1 | h1
      · refine .inr ?_
        rw [h1]
        have : ¬ (ns.getD k Z2).1 ≤ m := fun h2 => h ⟨h1, h2⟩
        omega
      · exact .inr h1
theorem unK_all {ns : List NV} {m : Int} {k : Nat} (h : ∀ i, i < k → (ns.getD i Z2).1 ≤ m) : unK ns m k = k := by
  induction k with
  | zero => rfl
  | succ k ih => exact unK_next (ih fun i hi => h i (by omega)) (h k (by omega))
theorem reg_drop {ns : List NV} (h : regB ns = true) (n : Nat) : regB (ns.drop n) = true := by
  obtain ⟨h1, h2⟩ := regB_iff.1 h
  refine regB_iff.2 ⟨by simp; omega, fun k hk => ?_⟩
  simp at hk
  have hg : ∀ i, (ns.drop n).getD i Z2 = ns.getD (n + i) Z2 := fun i => by simp [List.getD]
  rw [hg]
  have h3 := h2 (n + k) (by omega)
  refine ⟨?_, h3.2⟩
  have h4 := reg_ge h (n + k) (by omega)
  unfold lastM at h3 ⊢
  split
  · exact h4.1
  · rename_i h5
    rw [if_neg (by omega)] at h3
    rw [hg, show n + (k - 1) = n + k - 1 by omega]
    exact h3.1
/-- Whether two registers can be joined. -/
def joinB (xs ys : List NV) : Bool := regB xs && regB ys && regB (xs ++ ys)
theorem until_law {ns : List NV} {m : Int} (h : regB ns = true) : unN ns m ≤ ns.length ∧ regB (ns.take (unN ns m)) = true ∧ joinB (ns.take (unN ns m)) (ns.drop (unN ns m)) = true ∧
    unN (ns.take (unN ns m)) m = unN ns m ∧ (unN ns m = ns.length ∨ m < (ns.getD (unN ns m) Z2).1) := by
  have h1 := unK_le ns m ns.length
  have h2 := @unK_same ns m ns.length
  refine ⟨h1, reg_take h _, ?_, ?_, h2.2⟩
  · unfold joinB
    rw [reg_take h, reg_drop h, List.take_append_drop, h]; rfl
  · show unK (ns.take (unN ns m)) m (ns.take (unN ns m)).length = unN ns m
    have e : (ns.take (unN ns m)).length = unN ns m := by rw [List.length_take]; exact Nat.min_eq_left h1
    rw [e]
    refine unK_all fun i hi => ?_
    rw [getD_take hi]
    exact h2.1 i hi
end Go.Proofs.Ytebejpaghajhkaa
