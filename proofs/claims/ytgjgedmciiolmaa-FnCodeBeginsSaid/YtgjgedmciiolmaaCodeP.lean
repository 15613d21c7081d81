/-
  Texts of codes, plain: what is read back. No condition.
-/
import Derived.Test.YtgjgedmciiolmaaCode2
namespace Go.Proofs.Ytgjgedmciiolmaa
open Go.RowKit
set_option linter.unusedVariables false

/-- The byte at k (0 past the end). -/
def bt (S : ByteArray) (k : Nat) : UInt8 := S.data.toList.getD k 0
theorem bt_get (S : ByteArray) (k : Nat) (h : k < S.size) : bt S k = S[k] := by
  have hl : S.data.toList.length = S.size := Array.length_toList
  unfold bt
  rw [List.getD, List.getElem?_eq_getElem (by omega)]
  rfl
theorem ba_ext {a b : ByteArray} (hs : a.size = b.size) (h : ∀ k, k < a.size → bt a k = bt b k) : a = b := by
  have hl : a.data.toList.length = a.size := Array.length_toList
  have hl' : b.data.toList.length = b.size := Array.length_toList
  have e : a.data.toList = b.data.toList := by
    apply List.ext_getElem?
    intro k
    by_cases hk : k < a.size
    · have := h k hk
      unfold bt at this
      have ha : k < a.data.toList.length := by omega
      have hb : k < b.data.toList.length := by omega
      rw [List.getD, List.getD, List.getElem?_eq_getElem ha, List.getElem?_eq_getElem hb] at this
      rw [List.getElem?_eq_getElem ha, List.getElem?_eq_getElem hb]
      exact congrArg some this
    · rw [List.getElem?_eq_none (by omega), List.getElem?_eq_none (by omega)]
  cases a; cases b
  simp only [ByteArray.mk.injEq]
  exact Array.toList_inj.1 e
/-- The numbers at even places among the first k. -/
def evl (S : ByteArray) : Nat → List Int
  | 0 => []
  | k + 1 => if k % 2 = 0 then evl S k ++ [((bt S k).toNat : Int) - 48] else evl S k
theorem evl_length (S : ByteArray) (k : Nat) : (evl S k).length = (k + 1) / 2 := by
  induction k with
  | zero => rfl
  | succ k ih => simp only [evl]; split <;> simp [ih] <;> omega
theorem evl_get (S : ByteArray) (k j : Nat) (h : 2 * j < k) : (evl S k).getD j 0 = ((bt S (2 * j)).toNat : Int) - 48 := by
  induction k with
  | zero => omega
  | succ k ih =>
    have hl := evl_length S k
    simp only [evl]
    by_cases he : k % 2 = 0
    · rw [if_pos he]
      by_cases hj : 2 * j < k
      · rw [← ih hj]
        simp [List.getD, List.getElem?_append, hl, show j < (k + 1) / 2 by omega]
      · have e1 : j = (k + 1) / 2 := by omega
        have e2 : 2 * j = k := by omega
        rw [e2]
        simp [List.getD, hl, e1]
    · rw [if_neg he]; exact ih (by omega)
theorem evl_two (S : ByteArray) (k : Nat) (h : k % 2 = 0) : evl S (k + 2) = evl S k ++ [((bt S k).toNat : Int) - 48] := by
  show (if (k + 1) % 2 = 0 then _ else evl S (k + 1)) = _
  rw [if_neg (by omega)]
  show (if k % 2 = 0 then _ else _) = _
  rw [if_pos h]
def okAt (S : ByteArray) (k : Nat) : Bool := if k % 2 = 1 then bt S k == 45 else decide (49 ≤ (bt S k).toNat) && decide ((bt S k).toNat ≤ 54)
def okc (S : ByteArray) : Nat → Bool
  | 0 => true
  | k + 1 => okc S k && okAt S k
theorem okc_at {S : ByteArray} {k : Nat} (h : okc S k = true) : ∀ j, j < k → okAt S j = true := by
  induction k with
  | zero => intro j hj; omega
  | succ k ih =>
    simp only [okc, Bool.and_eq_true] at h
    intro j hj
    by_cases hjk : j < k
    · exact ih h.1 j hjk
    · obtain rfl : j = k := by omega
      exact h.2
theorem okc_of {S : ByteArray} {k : Nat} (h : ∀ j, j < k → okAt S j = true) : okc S k = true := by
  induction k with
  | zero => rfl
  | succ k ih => simp only [okc]; rw [ih (fun j hj => h j (by omega)), h k (by omega)]; rfl
theorem okc_no {S : ByteArray} {k n : Nat} (hk : k < n) (h : okAt S k = false) : okc S n = false := by
  cases hn : okc S n with
  | false => rfl
  | true => rw [okc_at hn k hk] at h; cases h
def fromOk (S : ByteArray) : Bool := (decide (S.size % 2 = 1) && decide (S.size ≤ 9)) && okc S S.size
def fromV (S : ByteArray) : List Int := if fromOk S = true then evl S S.size else []
theorem ctk_bt (zs : List Int) (k j : Nat) (h : j < 2 * k - 1) : (ctk zs k).getD j 0 = if j % 2 = 0 then dgt (zs.getD (j / 2) 0) else 45 := by
  induction k with
  | zero => omega
  | succ k ih =>
    have hl := ctk_length zs k
    simp only [ctk]
    by_cases hk : 0 < k
    · rw [if_pos hk]
      by_cases h1 : j < 2 * k - 1
      · rw [← ih h1]
        simp [List.getD, List.getElem?_append, hl, h1]
      · by_cases h2 : j = 2 * k - 1
        · rw [if_neg (by omega)]
          simp [List.getD, hl, h2]
        · have h3 : j = 2 * k := by omega
          rw [if_pos (by omega), show j / 2 = k by omega]
          simp [List.getD, List.getElem?_append, hl, h1, show j - (2 * k - 1) = 1 by omega]
    · obtain rfl : k = 0 := by omega
      obtain rfl : j = 0 := by omega
      simp [ctk]
theorem codeT_size {zs : List Int} (h : codeB zs = true) : (codeT zs).size = 2 * zs.length - 1 := by
  unfold codeT; rw [if_pos h, ← ctk_length zs zs.length]; exact List.size_toArray
theorem codeT_bt {zs : List Int} (h : codeB zs = true) (j : Nat) (hj : j < 2 * zs.length - 1) : bt (codeT zs) j = if j % 2 = 0 then dgt (zs.getD (j / 2) 0) else 45 := by
  rw [← ctk_bt zs zs.length j hj]
  unfold codeT bt
  rw [if_pos h]
theorem dgt_toNat {z : Int} (h1 : 1 ≤ z) (h6 : z ≤ 6) : (dgt z).toNat = 48 + z.toNat := by
  unfold dgt; rw [UInt8.toNat_ofNat']; omega
theorem codeT_from {zs : List Int} (h : codeB zs = true) : fromOk (codeT zs) = true ∧ fromV (codeT zs) = zs := by
  obtain ⟨hall, h1, h5⟩ := codeB_parts h
  have hz := codeT_size h
  have hok : fromOk (codeT zs) = true := by
    unfold fromOk
    rw [dec_t (by omega), dec_t (by omega)]
    show okc _ _ = true
    refine okc_of fun j hj => ?_
    have hb := codeT_bt h j (by omega)
    unfold okAt
    rw [hb]
    by_cases he : j % 2 = 0
    · rw [if_neg (by omega), if_pos he]
      have hx := all_at hall (show j / 2 < zs.length by omega)
      rw [inB_iff] at hx
      rw [dgt_toNat hx.1 hx.2, dec_t (by omega), dec_t (by omega)]
      rfl
    · rw [if_pos (by omega), if_neg he]; rfl
  refine ⟨hok, ?_⟩
  unfold fromV
  rw [if_pos hok]
  apply List.ext_getElem?
  intro j
  have hl := evl_length (codeT zs) (codeT zs).size
  by_cases hj : j < zs.length
  · have hg := evl_get (codeT zs) (codeT zs).size j (by omega)
    rw [codeT_bt h (2 * j) (by omega), if_pos (by omega), show 2 * j / 2 = j by omega] at hg
    have hx := all_at hall hj
    rw [inB_iff] at hx
    rw [dgt_toNat hx.1 hx.2] at hg
    have h2 : j < (evl (codeT zs) (codeT zs).size).length := by omega
    rw [List.getElem?_eq_getElem h2, List.getElem?_eq_getElem hj]
    simp only [List.getD, List.getElem?_eq_getElem h2, List.getElem?_eq_getElem hj, Option.getD_some] at hg hx
    rw [hg]
    congr 1
    omega
  · rw [List.getElem?_eq_none (by omega), List.getElem?_eq_none (by omega)]
theorem from_code {S : ByteArray} (h : fromOk S = true) : codeB (evl S S.size) = true ∧ codeT (evl S S.size) = S := by
  unfold fromOk at h
  simp only [Bool.and_eq_true, decide_eq_true_eq] at h
  obtain ⟨⟨h1, h9⟩, hok⟩ := h
  have hl := evl_length S S.size
  have hat := okc_at hok
  have hnum : ∀ j, 2 * j < S.size → 49 ≤ (bt S (2 * j)).toNat ∧ (bt S (2 * j)).toNat ≤ 54 := by
    intro j hj
    have := hat (2 * j) hj
    unfold okAt at this
    rw [if_neg (by omega)] at this
    simpa using this
  have hcb : codeB (evl S S.size) = true := by
    unfold codeB grpB
    rw [inB_true (by omega), Bool.and_true, List.all_eq_true]
    intro z hz
    obtain ⟨j, hj⟩ := List.getElem?_of_mem hz
    have hjl := (List.getElem?_eq_some_iff.1 hj).1
    have hg := evl_get S S.size j (by omega)
    have hn := hnum j (by omega)
    simp only [List.getD, hj, Option.getD_some] at hg
    exact inB_true (by omega)
  refine ⟨hcb, ?_⟩
  have hz := codeT_size hcb
  refine ba_ext (by omega) fun k hk => ?_
  rw [codeT_bt hcb k (by omega)]
  by_cases he : k % 2 = 0
  · rw [if_pos he, evl_get S S.size (k / 2) (by omega), show 2 * (k / 2) = k by omega]
    have hn := hnum (k / 2) (by omega)
    rw [show 2 * (k / 2) = k by omega] at hn
    apply UInt8.toNat_inj.1
    rw [dgt_toNat (by omega) (by omega)]
    omega
  · rw [if_neg he]
    have := hat k (by omega)
    unfold okAt at this
    rw [if_pos (by omega), beq_iff_eq] at this
    exact this.symm
/-- What the reference asks. -/
theorem from_spec (S : ByteArray) (h0 : S.size ≠ 0) : (codeT (evl S S.size) = S) ↔ fromOk S = true := by
  constructor
  · intro h
    by_cases hc : codeB (evl S S.size) = true
    · have := (codeT_from hc).1
      rw [h] at this
      exact this
    · have e : codeT (evl S S.size) = ⟨#[]⟩ := by unfold codeT; rw [if_neg hc]
      rw [e] at h
      exact absurd (by rw [← h]; rfl) h0
  · intro h; exact (from_code h).2

end Go.Proofs.Ytgjgedmciiolmaa
