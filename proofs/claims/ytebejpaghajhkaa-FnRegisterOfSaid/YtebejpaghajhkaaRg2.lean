/-
  Registers, in plain words: which lists are registers, their texts, offsets, slacks. No program here, no condition.
-/
import Derived.Test.YtebejpaghajhkaaRg1
namespace Go.Proofs.Ytebejpaghajhkaa
open Go.RowKit
set_option linter.unusedVariables false
set_option linter.unusedSimpArgs false

/-- All of the first k. -/
def allN (p : Nat → Bool) : Nat → Bool
  | 0 => true
  | k + 1 => allN p k && p k
theorem allN_iff {p : Nat → Bool} {k : Nat} : allN p k = true ↔ ∀ j, j < k → p j = true := by
  induction k with
  | zero => simp [allN]
  | succ k ih =>
    simp only [allN, Bool.and_eq_true, ih]
    constructor
    · rintro ⟨h1, h2⟩ j hj
      rcases Nat.lt_succ_iff_lt_or_eq.1 hj with hj | rfl
      · exact h1 j hj
      · exact h2
    · intro h; exact ⟨fun j hj => h j (by omega), h k (by omega)⟩
theorem allN_no {p : Nat → Bool} {k n : Nat} (hk : k < n) (h : p k = false) : allN p n = false := by
  by_cases e : allN p n = true
  · have := allN_iff.1 e k hk; rw [h] at this; cases this
  · simpa using e
theorem allN_succ {p : Nat → Bool} {k : Nat} (h : allN p k = true) (h' : p k = true) : allN p (k + 1) = true := by simp only [allN, h, h', Bool.and_self]

/-- The letters of events. -/
def evs : List UInt8 := [97, 99, 101, 102, 108, 111, 114]
def evB (s : ByteArray) : Bool := match s.data.toList with | [c] => evs.contains c | _ => false
theorem evB_one (c : UInt8) : evB ⟨#[c]⟩ = evs.contains c := rfl
theorem nsize_one {s : ByteArray} (h : s.size = 1) : ∃ c, s = ⟨#[c]⟩ := by
  obtain ⟨⟨l⟩⟩ := s
  match l, h with
  | [c], _ => exact ⟨c, rfl⟩
theorem evB_size {s : ByteArray} (h : s.size ≠ 1) : evB s = false := by
  unfold evB
  split
  · rename_i c hc
    exact absurd (by show s.data.size = 1; rw [← Array.length_toList, hc]; rfl) h
  · rfl
theorem evB_sz {s : ByteArray} (h : evB s = true) : s.size = 1 := by
  by_cases e : s.size = 1
  · exact e
  · rw [evB_size e] at h; cases h
/-- The minute ahead of note k. -/
def lastM (ns : List NV) (k : Nat) : Int := if k = 0 then 0 else (ns.getD (k - 1) Z2).1
theorem lastM_0 (ns : List NV) : lastM ns 0 = 0 := rfl
theorem lastM_succ (ns : List NV) (k : Nat) : lastM ns (k + 1) = (ns.getD k Z2).1 := by unfold lastM; rw [if_neg (by omega)]; rfl
def okN (ns : List NV) (k : Nat) : Bool := inB (lastM ns k) 2000 (ns.getD k Z2).1 && evB (ns.getD k Z2).2
/-- Whether a list is a register. -/
def regB (ns : List NV) : Bool := decide (ns.length ≤ 30) && allN (okN ns) ns.length
theorem regB_long {ns : List NV} (h : ¬ ns.length ≤ 30) : regB ns = false := by unfold regB; rw [dec_f h]; rfl
theorem regB_no {ns : List NV} {k : Nat} (hk : k < ns.length) (h : okN ns k = false) : regB ns = false := by unfold regB; rw [allN_no hk h]; simp
theorem regB_t {ns : List NV} (h : ns.length ≤ 30) (h' : allN (okN ns) ns.length = true) : regB ns = true := by unfold regB; rw [dec_t h, h']; rfl
theorem regB_all {ns : List NV} (h' : allN (okN ns) ns.length = true) : regB ns = decide (ns.length ≤ 30) := by unfold regB; rw [h']; simp
theorem regB_iff {ns : List NV} : regB ns = true ↔ ns.length ≤ 30 ∧ ∀ k, k < ns.length → lastM ns k ≤ (ns.getD k Z2).1 ∧ (ns.getD k Z2).1 ≤ 2000 ∧ evB (ns.getD k Z2).2 = true := by
  unfold regB
  rw [Bool.and_eq_true, decide_eq_true_eq, allN_iff]
  refine and_congr_right fun _ => forall_congr' fun k => imp_congr_right fun _ => ?_
  unfold okN
  rw [Bool.and_eq_true, inB_iff]
  exact ⟨fun h => ⟨h.1.1, h.1.2, h.2⟩, fun h => ⟨⟨h.1, h.2.1⟩, h.2.2⟩⟩
theorem reg_ge {ns : List NV} (h : regB ns = true) : ∀ k, k < ns.length → 0 ≤ (ns.getD k Z2).1 ∧ 0 ≤ lastM ns k := by
  obtain ⟨_, h⟩ := regB_iff.1 h
  intro k
  induction k with
  | zero => intro hk; have := h 0 hk; rw [lastM_0] at this ⊢; omega
  | succ k ih =>
    intro hk
    have h1 := ih (by omega)
    have h2 := h (k + 1) hk
    rw [lastM_succ] at h2 ⊢
    omega
/-- The bounds of a register's notes. -/
theorem reg_bd {ns : List NV} (h : regB ns = true) (k : Nat) (hk : k < ns.length) : (0 ≤ (ns.getD k Z2).1 ∧ (ns.getD k Z2).1 ≤ 2000) ∧ (ns.getD k Z2).2.size = 1 :=
  ⟨⟨(reg_ge h k hk).1, ((regB_iff.1 h).2 k hk).2.1⟩, evB_sz ((regB_iff.1 h).2 k hk).2.2⟩

/-- The text of the first k notes. -/
def txK (ns : List NV) : Nat → ByteArray
  | 0 => ByteArray.empty
  | k + 1 => txK ns k ++ (ns.getD k Z2).2
def txt (ns : List NV) : ByteArray := txK ns ns.length
theorem txK_size {ns : List NV} (h : regB ns = true) : ∀ k, k ≤ ns.length → (txK ns k).size = k := by
  intro k
  induction k with
  | zero => intro _; rfl
  | succ k ih =>
    intro hk
    simp only [txK]
    rw [ByteArray.size_append, ih (by omega), (reg_bd h k (by omega)).2]
theorem txt_size {ns : List NV} (h : regB ns = true) : (txt ns).size = ns.length := txK_size h _ (Nat.le_refl _)
theorem reg_len {ns : List NV} (h : regB ns = true) : ns.length ≤ 30 := (regB_iff.1 h).1

/-- The difference of two minutes, less an offset. -/
def agB (xs ys : List NV) (o sl : Int) (k : Nat) : Bool := inB (0 - sl) sl ((ys.getD k Z2).1 - (xs.getD k Z2).1 - o)
def agree (xs ys : List NV) (o sl : Int) : Bool := allN (agB xs ys o sl) xs.length
/-- Whether two registers agree at an offset. -/
def fitB (xs ys : List NV) (sl o : Int) : Bool := decide (txt xs = txt ys) && agree xs ys o sl
/-- The first of the k numbers that serves, if there is one. -/
def firstF (p : Nat → Bool) : Nat → Option Nat
  | 0 => none
  | k + 1 => match firstF p k with
    | some o => some o
    | none => if p k then some k else none
theorem firstF_none {p : Nat → Bool} {k : Nat} : firstF p k = none ↔ ∀ j, j < k → p j = false := by
  induction k with
  | zero => simp [firstF]
  | succ k ih =>
    simp only [firstF]
    constructor
    · intro h j hj
      cases hf : firstF p k with
      | some o => rw [hf] at h; cases h
      | none =>
        rw [hf] at h
        simp only at h
        rcases Nat.lt_succ_iff_lt_or_eq.1 hj with hj | rfl
        · exact ih.1 hf j hj
        · by_cases e : p j = true
          · rw [if_pos e] at h; cases h
          · simpa using e
    · intro h
      rw [ih.2 (fun j hj => h j (by omega))]
      simp only
      rw [if_neg (by rw [h k (by omega)]; simp)]
theorem firstF_mem {p : Nat → Bool} {k o : Nat} (h : firstF p k = some o) : o < k ∧ p o = true ∧ ∀ i, i < o → p i = false := by
  induction k with
  | zero => simp [firstF] at h
  | succ k ih =>
    simp only [firstF] at h
    cases hf : firstF p k with
    | some o' =>
      rw [hf] at h
      simp at h
      subst h
      have := ih hf
      exact ⟨by omega, this.2⟩
    | none =>
      rw [hf] at h
      simp only at h
      split at h
      · rename_i e
        simp at h
        subst h
        exact ⟨by omega, e, firstF_none.1 hf⟩
      · cases h
theorem firstF_at {p : Nat → Bool} {j n : Nat} (hj : j < n) (hp : p j = true) (hm : ∀ i, i < j → p i = false) : firstF p n = some j := by
  cases hf : firstF p n with
  | none => have := firstF_none.1 hf j hj; rw [hp] at this; cases this
  | some o =>
    obtain ⟨_, h2, h3⟩ := firstF_mem hf
    rcases Nat.lt_trichotomy o j with h | h | h
    · have := hm o h; rw [h2] at this; cases this
    · rw [h]
    · have := h3 j h; rw [hp] at this; cases this
/-- The number of the least offset of two registers, if there is one. -/
def offJ (xs ys : List NV) (sl : Int) : Option Nat := if inB 0 5 sl then firstF (fun j => fitB xs ys sl ((j : Int) - 30)) 61 else none
/-- The same, of two lists. -/
def offV (xs ys : List NV) (sl : Int) : Option Nat := if regB xs && regB ys then offJ xs ys sl else none
/-- What a function that looks for an offset hands back. -/
def offE (o : Option Nat) : Value := match o with
  | some j => .tuple #[.int .i64 ((j : Int) - 30), .bool true]
  | none => .tuple #[.int .i64 0, .bool false]
/-- The least slack of two registers. -/
def slJ (xs ys : List NV) : Option Nat := firstF (fun k => (offJ xs ys (k : Int)).isSome) 6
def slV (xs ys : List NV) : Option Nat := if regB xs && regB ys then slJ xs ys else none
def slE (o : Option Nat) : Value := match o with
  | some j => .tuple #[.int .i64 (j : Int), .bool true]
  | none => .tuple #[.int .i64 0, .bool false]
theorem offV_no {xs ys : List NV} {sl : Int} (h : (regB xs && regB ys) = false) : offV xs ys sl = none := by unfold offV; rw [h]; rfl
theorem offV_yes {xs ys : List NV} {sl : Int} (h : regB xs = true) (h' : regB ys = true) : offV xs ys sl = offJ xs ys sl := by unfold offV; rw [h, h']; rfl
theorem slV_no {xs ys : List NV} (h : (regB xs && regB ys) = false) : slV xs ys = none := by unfold slV; rw [h]; rfl
theorem slV_yes {xs ys : List NV} (h : regB xs = true) (h' : regB ys = true) : slV xs ys = slJ xs ys := by unfold slV; rw [h, h']; rfl
theorem offJ_no {xs ys : List NV} {sl : Int} (h : inB 0 5 sl = false) : offJ xs ys sl = none := by unfold offJ; rw [h]; rfl
theorem offJ_text {xs ys : List NV} {sl : Int} (h : txt xs ≠ txt ys) : offJ xs ys sl = none := by
  unfold offJ
  split
  · rw [firstF_none]
    intro j _
    unfold fitB
    rw [dec_f h]; rfl
  · rfl

/-- How many of the first k notes, from the first on, are not behind a minute. -/
def unK (ns : List NV) (m : Int) : Nat → Nat
  | 0 => 0
  | k + 1 => if unK ns m k = k ∧ (ns.getD k Z2).1 ≤ m then k + 1 else unK ns m k
theorem unK_le (ns : List NV) (m : Int) (k : Nat) : unK ns m k ≤ k := by
  induction k with
  | zero => exact Nat.le_refl _
  | succ k ih => simp only [unK]; split <;> omega
def unN (ns : List NV) (m : Int) : Nat := unK ns m ns.length
theorem unK_stop {ns : List NV} {m : Int} {k n : Nat} (h : unK ns m k = k) (hx : ¬ (ns.getD k Z2).1 ≤ m) (hn : k < n) : unK ns m n = k := by
  induction n with
  | zero => omega
  | succ n ih =>
    simp only [unK]
    rcases Nat.lt_succ_iff_lt_or_eq.1 hn with h1 | rfl
    · rw [ih h1, if_neg (by omega)]
    · rw [if_neg (by rintro ⟨_, h2⟩; exact hx h2)]; exact h
theorem unK_next {ns : List NV} {m : Int} {k : Nat} (h : unK ns m k = k) (hx : (ns.getD k Z2).1 ≤ m) : unK ns m (k + 1) = k + 1 := by simp only [unK]; rw [if_pos ⟨h, hx⟩]

theorem getD_take {ns : List NV} {n k : Nat} (h : k < n) : (ns.take n).getD k Z2 = ns.getD k Z2 := by
  simp [List.getD, List.getElem?_take, h]
theorem lastM_take {ns : List NV} {n k : Nat} (h : k ≤ n) : lastM (ns.take n) k = lastM ns k := by
  unfold lastM
  split
  · rfl
  · rw [getD_take (by omega)]
theorem reg_take {ns : List NV} (h : regB ns = true) (n : Nat) : regB (ns.take n) = true := by
  obtain ⟨h1, h2⟩ := regB_iff.1 h
  refine regB_iff.2 ⟨by simp; omega, fun k hk => ?_⟩
  simp at hk
  rw [lastM_take (by omega), getD_take (by omega)]
  exact h2 k (by omega)
theorem getD_snoc {ns : List NV} {x : NV} {k : Nat} (h : k < ns.length) : (ns ++ [x]).getD k Z2 = ns.getD k Z2 := by
  rw [List.getD_eq_getElem?_getD, List.getElem?_append_left h, List.getD_eq_getElem?_getD]
theorem getD_snoc_last {ns : List NV} {x : NV} : (ns ++ [x]).getD ns.length Z2 = x := by simp [List.getD]
theorem take_snocN {ns : List NV} {k : Nat} (h : k < ns.length) : ns.take (k + 1) = ns.take k ++ [ns.getD k Z2] := by
  rw [List.take_succ_eq_append_getElem h]
  simp [List.getD, h]

/-- The first k notes but for one. -/
def woK (ns : List NV) (i : Nat) : Nat → List NV
  | 0 => []
  | k + 1 => if k = i then woK ns i k else woK ns i k ++ [ns.getD k Z2]
def wo (ns : List NV) (i : Nat) : List NV := ns.take i ++ ns.drop (i + 1)
theorem woK_low {ns : List NV} {i k : Nat} (h : k ≤ i) (hk : k ≤ ns.length) : woK ns i k = ns.take k := by
  induction k with
  | zero => simp [woK]
  | succ k ih =>
    simp only [woK]
    rw [if_neg (by omega), ih (by omega) (by omega), take_snocN (by omega)]
theorem woK_high {ns : List NV} {i k : Nat} (h : i < k) (hk : k ≤ ns.length) : woK ns i k = ns.take i ++ (ns.take k).drop (i + 1) := by
  induction k with
  | zero => omega
  | succ k ih =>
    simp only [woK]
    by_cases e : k = i
    · subst e
      rw [if_pos rfl, woK_low (Nat.le_refl _) (by omega)]
      have : ((ns.take (k + 1)).drop (k + 1)) = [] := List.drop_eq_nil_of_le (by simp; omega)
      rw [this]; simp
    · rw [if_neg e, ih (by omega) (by omega), take_snocN (by omega), List.drop_append_of_le_length (by simp; omega), List.append_assoc]
theorem woK_all {ns : List NV} {i : Nat} (h : i < ns.length) : woK ns i ns.length = wo ns i := by
  rw [woK_high h (Nat.le_refl _), List.take_length]; rfl
theorem wo_length {ns : List NV} {i : Nat} (h : i < ns.length) : (wo ns i).length = ns.length - 1 := by simp [wo]; omega
theorem wo_get {ns : List NV} {i k : Nat} (h : i < ns.length) : (wo ns i).getD k Z2 = if k < i then ns.getD k Z2 else ns.getD (k + 1) Z2 := by
  unfold wo
  simp only [List.getD_eq_getElem?_getD, List.getElem?_append, List.length_take, List.getElem?_take, List.getElem?_drop]
  have hm : min i ns.length = i := by omega
  rw [hm]
  split
  · rfl
  · rw [show i + 1 + (k - i) = k + 1 by omega]
theorem reg_wo {ns : List NV} (hv : regB ns = true) {i : Nat} (h : i < ns.length) : regB (wo ns i) = true := by
  obtain ⟨h1, h2⟩ := regB_iff.1 hv
  refine regB_iff.2 ⟨by rw [wo_length h]; omega, fun k hk => ?_⟩
  rw [wo_length h] at hk
  by_cases e : k < i
  · have e2 : lastM (wo ns i) k = lastM ns k := by
      unfold lastM
      split
      · rfl
      · rw [wo_get h, if_pos (by omega)]
    rw [wo_get h, if_pos e, e2]
    exact h2 k (by omega)
  · rw [wo_get h, if_neg e]
    have h3 := h2 (k + 1) (by omega)
    have h4 := h2 k (by omega)
    have h5 := reg_ge hv k (by omega)
    rw [lastM_succ] at h3
    refine ⟨?_, h3.2⟩
    have e2 : lastM (wo ns i) k ≤ lastM ns k ∨ lastM (wo ns i) k = (ns.getD k Z2).1 := by
      unfold lastM
      split
      · exact .inl (Int.le_refl _)
      · rw [wo_get h]
        split
        · exact .inl (Int.le_refl _)
        · rw [show k - 1 + 1 = k by omega]; exact .inr rfl
    rcases e2 with e2 | e2 <;> omega
/-- The numbers of the first k notes without which two registers agree. -/
def misK (xs ys : List NV) (sl : Int) : Nat → List Int
  | 0 => []
  | k + 1 => if (offJ (wo xs k) ys sl).isSome then misK xs ys sl k ++ [(k : Int)] else misK xs ys sl k
theorem misK_len (xs ys : List NV) (sl : Int) (k : Nat) : (misK xs ys sl k).length ≤ k := by
  induction k with
  | zero => simp [misK]
  | succ k ih =>
    simp only [misK]
    split
    · simp only [List.length_append, List.length_cons, List.length_nil]; omega
    · omega
def misV (xs ys : List NV) (sl : Int) : List Int := if regB xs && regB ys then misK xs ys sl xs.length else []
end Go.Proofs.Ytebejpaghajhkaa
