/-
  Tracks as numbers of bits: plain facts, no program. No condition.
-/
import Derived.WalkKit
namespace Go.Proofs.Ytkfgimhihknpoaa
set_option linter.unusedVariables false

/-- The letters of the n circuits of the set s. -/
def tx (s n : Nat) : List UInt8 := (List.range n).map fun i => if s.testBit i then 49 else 48
def T (s n : Nat) : ByteArray := ⟨(tx s n).toArray⟩
theorem tx_length (s n : Nat) : (tx s n).length = n := by simp [tx]
theorem T_size (s n : Nat) : (T s n).size = n := by
  show (tx s n).toArray.size = n
  simp [tx]
theorem tx_get (s n k : Nat) (h : k < n) : (tx s n)[k]? = some (if s.testBit k then 49 else 48) := by simp [tx, h]
theorem T_get (s n k : Nat) (h : k < (T s n).size) : (T s n)[k] = if s.testBit k then 49 else 48 := by
  have hk : k < n := by rw [T_size] at h; exact h
  show (tx s n).toArray[k] = _
  simp [tx]
theorem T_data (s n : Nat) : (T s n).data.toList = tx s n := rfl
theorem T_toList (s n : Nat) : (T s n).toList = tx s n := by rw [ByteArray.toList_eq]; rfl
theorem byteArray_ext {a b : ByteArray} (h : a.data.toList = b.data.toList) : a = b := by
  cases a with | mk a => cases b with | mk b =>
  simp at h
  rw [h]

theorem lt_of_bits {x n : Nat} (h : ∀ i, n ≤ i → x.testBit i = false) : x < 2 ^ n := Nat.lt_pow_two_of_testBit x h
theorem bit_ge {x n i : Nat} (h : x < 2 ^ n) (hi : n ≤ i) : x.testBit i = false :=
  Nat.testBit_lt_two_pow (Nat.lt_of_lt_of_le h (Nat.pow_le_pow_right (by omega) hi))
theorem bits_ext {x y n : Nat} (hx : x < 2 ^ n) (hy : y < 2 ^ n) (h : ∀ i, i < n → x.testBit i = y.testBit i) : x = y := by
  apply Nat.eq_of_testBit_eq
  intro i
  by_cases hi : i < n
  · exact h i hi
  · rw [bit_ge hx (by omega), bit_ge hy (by omega)]
theorem T_inj {s s' n n' : Nat} (hs : s < 2 ^ n) (hs' : s' < 2 ^ n') (h : T s n = T s' n') : s = s' ∧ n = n' := by
  have hn : n = n' := by rw [← T_size s n, h, T_size]
  subst hn
  refine ⟨bits_ext hs hs' fun i hi => ?_, rfl⟩
  have h1 := tx_get s n i hi
  have h2 := tx_get s' n i hi
  have : tx s n = tx s' n := by rw [← T_data, h, T_data]
  rw [this, h2] at h1
  revert h1
  cases s.testBit i <;> cases s'.testBit i <;> simp

/-- The bits of the first k letters. -/
def tbk (l : List UInt8) : Nat → Nat
  | 0 => 0
  | k + 1 => if l.getD k 0 = 49 then tbk l k ||| 2 ^ k else tbk l k
theorem tbk_bit (l : List UInt8) (k i : Nat) : (tbk l k).testBit i = (decide (i < k) && (l.getD i 0 == 49)) := by
  induction k with
  | zero => simp [tbk]
  | succ k ih =>
    simp only [tbk]
    by_cases hk : i = k
    · subst hk
      split
      · rename_i h
        simp only [Nat.testBit_or, ih, Nat.testBit_two_pow_self, h]
        simp
      · rename_i h
        rw [ih]
        simpa using h
    · have hb : (2 ^ k).testBit i = false := Nat.testBit_two_pow_of_ne (fun e => hk e.symm)
      have hlt : decide (i < k + 1) = decide (i < k) := by rw [decide_eq_decide]; omega
      rw [hlt]
      split
      · simp only [Nat.testBit_or, ih, hb, Bool.or_false]
      · exact ih
theorem tbk_lt (l : List UInt8) (k : Nat) : tbk l k < 2 ^ k := lt_of_bits fun i hi => by rw [tbk_bit]; simp; omega
theorem tbk_or (l : List UInt8) (k : Nat) : tbk l k ||| 2 ^ k < 2 ^ (k + 1) :=
  Nat.or_lt_two_pow (Nat.lt_of_lt_of_le (tbk_lt l k) (Nat.pow_le_pow_right (by omega) (by omega))) (Nat.pow_lt_pow_right (by omega) (by omega))

def okCh (c : UInt8) : Bool := c == 48 || c == 49
theorem T_tb {S : ByteArray} (h : S.data.toList.all okCh = true) : S = T (tbk S.data.toList S.size) S.size := by
  apply byteArray_ext
  rw [T_data]
  apply List.ext_getElem?
  intro i
  have hl : S.data.toList.length = S.size := Array.length_toList
  by_cases hi : i < S.size
  · rw [tx_get _ _ _ hi, tbk_bit]
    rw [List.all_eq_true] at h
    have hm := h (S.data.toList[i]'(by omega)) (List.getElem_mem _)
    rw [List.getElem?_eq_getElem (by omega)]
    simp only [okCh, Bool.or_eq_true, beq_iff_eq] at hm
    have hg : S.data.toList.getD i 0 = S.data.toList[i]'(by omega) := by simp [List.getD, hi, hl]
    rw [hg]
    simp only [hi, decide_true, Bool.true_and, beq_iff_eq]
    rcases hm with hm | hm
    · rw [hm]; rfl
    · rw [hm]; rfl
  · rw [List.getElem?_eq_none (by omega), List.getElem?_eq_none (by rw [tx_length]; omega)]
theorem tb_T (s n : Nat) (hs : s < 2 ^ n) : tbk (tx s n) n = s := by
  apply bits_ext (tbk_lt _ _) hs
  intro i hi
  rw [tbk_bit]
  have := tx_get s n i hi
  simp only [List.getD, this, hi, decide_true, Bool.true_and, Option.getD_some]
  cases s.testBit i <;> rfl
theorem tx_ok (s n : Nat) : (tx s n).all okCh = true := by
  rw [List.all_eq_true]
  intro c hc
  simp only [tx, List.mem_map] at hc
  obtain ⟨i, _, rfl⟩ := hc
  cases s.testBit i <;> rfl

/-- Whether a circuit can change. -/
def canB (s n i : Nat) : Bool := if s.testBit i then decide (i + 1 = n) || s.testBit (i + 1) else decide (i = 0) || s.testBit (i - 1)
theorem flip_bit (s i j : Nat) : (s ^^^ 2 ^ i).testBit j = if i = j then !s.testBit j else s.testBit j := by
  rw [Nat.testBit_xor]
  by_cases h : i = j
  · subst h; simp
  · rw [Nat.testBit_two_pow_of_ne h, if_neg h]; simp
theorem flip_ne {s i j : Nat} (h : i ≠ j) : (s ^^^ 2 ^ i).testBit j = s.testBit j := by rw [flip_bit, if_neg h]
theorem flip_eq (s i : Nat) : (s ^^^ 2 ^ i).testBit i = !s.testBit i := by rw [flip_bit, if_pos rfl]
theorem flip_lt {s n i : Nat} (hs : s < 2 ^ n) (hi : i < n) : s ^^^ 2 ^ i < 2 ^ n := Nat.xor_lt_two_pow hs (Nat.pow_lt_pow_right (by omega) hi)
theorem pow8 {n : Nat} (h : n ≤ 8) : 2 ^ n ≤ 256 := Nat.pow_le_pow_right (by omega) h

/-! ## turned, and texts put together -/
/-- The circuits in the opposite order, of the first k. -/
def rv (s n : Nat) : Nat → Nat
  | 0 => 0
  | k + 1 => if s.testBit k then rv s n k ^^^ 2 ^ (n - 1 - k) else rv s n k
theorem rv_bit (s n k : Nat) (hk : k ≤ n) (j : Nat) : (rv s n k).testBit j = (decide (j < n ∧ n - 1 - j < k) && s.testBit (n - 1 - j)) := by
  induction k with
  | zero => simp [rv]
  | succ k ih =>
    have ih := ih (by omega)
    simp only [rv]
    by_cases hb : s.testBit k = true
    · rw [if_pos hb, flip_bit, ih]
      by_cases hj : n - 1 - k = j
      · subst hj
        have e : n - 1 - (n - 1 - k) = k := by omega
        simp [e, hb]
        omega
      · rw [if_neg hj]
        congr 1
        rw [decide_eq_decide]
        omega
    · rw [if_neg hb, ih]
      have hb' : s.testBit k = false := by simpa using hb
      by_cases hj : j < n ∧ n - 1 - j = k
      · rw [hj.2, hb']; simp
      · congr 1
        rw [decide_eq_decide]
        omega
theorem rv_lt (s n k : Nat) (hk : k ≤ n) : rv s n k < 2 ^ n := lt_of_bits fun i hi => by rw [rv_bit s n k hk]; simp; omega
def revT (s n : Nat) : Nat := rv s n n
theorem revT_bit (s n j : Nat) (hj : j < n) : (revT s n).testBit j = s.testBit (n - 1 - j) := by
  unfold revT
  rw [rv_bit s n n (Nat.le_refl _)]
  simp [hj]
  intro _
  omega
theorem revT_lt (s n : Nat) : revT s n < 2 ^ n := rv_lt s n n (Nat.le_refl _)

def chB (b : Bool) : UInt8 := if b then 49 else 48
theorem T_snoc (r m : Nat) : T r m ++ ⟨#[chB (r.testBit m)]⟩ = T r (m + 1) := by
  apply byteArray_ext
  rw [ByteArray.data_append, Array.toList_append, T_data, T_data]
  simp [tx, List.range_succ, chB]
theorem ext_data (S : ByteArray) (a b : Nat) : (S.extract a b).data.toList = (S.data.toList.drop a).take (b - a) := by
  cases S with | mk d =>
  have := ByteArray.extract_mk d.toList a b
  simp only [Array.toArray_toList] at this
  rw [this]
theorem T_ext1 (s n i : Nat) (hi : i < n) : (T s n).extract i (i + 1) = ⟨#[chB (s.testBit i)]⟩ := by
  apply byteArray_ext
  rw [ext_data, T_data]
  apply List.ext_getElem?
  intro j
  by_cases hj : j = 0
  · subst hj
    simp [tx_get s n i hi, chB]
  · have : j ≠ 0 := hj
    rw [List.getElem?_eq_none (by simp [tx_length]; omega), List.getElem?_eq_none (by simp; omega)]
theorem T_mid (s n i : Nat) (hi : i < n) (c : UInt8) (hc : c = chB (!s.testBit i)) : (T s n).extract 0 i ++ ⟨#[c]⟩ ++ (T s n).extract (i + 1) n = T (s ^^^ 2 ^ i) n := by
  apply byteArray_ext
  have e : ((T s n).extract 0 i ++ ⟨#[c]⟩ ++ (T s n).extract (i + 1) n).data.toList = ((T s n).extract 0 i).data.toList ++ [c] ++ ((T s n).extract (i + 1) n).data.toList := by
    simp [ByteArray.data_append]
  rw [e, ext_data, ext_data, T_data, T_data]
  have hsplit : tx (s ^^^ 2 ^ i) n = (tx s n).take i ++ ([c] ++ (tx s n).drop (i + 1)) := by
    apply List.ext_getElem?
    intro j
    have l1 : ((tx s n).take i).length = i := by simp [tx_length]; omega
    by_cases hj : j < i
    · rw [List.getElem?_append_left (by omega), List.getElem?_take_of_lt hj, tx_get s n j (by omega), tx_get _ n j (by omega), flip_ne (by omega)]
    · rw [List.getElem?_append_right (by omega), l1]
      by_cases hj2 : j = i
      · subst hj2
        rw [tx_get _ n j hi, flip_eq, hc]
        simp [chB]
      · rw [List.getElem?_append_right (by simp; omega), List.getElem?_drop]
        simp only [List.length_cons, List.length_nil]
        rw [show i + 1 + (j - i - (0 + 1)) = j by omega]
        by_cases hj3 : j < n
        · rw [tx_get _ n j hj3, tx_get s n j hj3, flip_ne (by omega)]
        · rw [List.getElem?_eq_none (by rw [tx_length]; omega), List.getElem?_eq_none (by rw [tx_length]; omega)]
  rw [hsplit]
  have ht : ((tx s n).drop (i + 1)).take (n - (i + 1)) = (tx s n).drop (i + 1) := List.take_of_length_le (by simp [tx_length])
  rw [ht]
  simp

/-! ## uint16 -/
theorem ofInt_u16 (a : Nat) (ha : a < 65536) : (BitVec.ofInt 16 (a : Int)).toNat = a := by
  rw [BitVec.ofInt_natCast, BitVec.toNat_ofNat]; exact Nat.mod_eq_of_lt (by omega)
theorem u16_and_nat (a b : Nat) (ha : a < 65536) (hb : b < 65536) : bits .and .u16 (a : Int) (b : Int) = ((a &&& b : Nat) : Int) := by
  have hx : a &&& b < 2 ^ 16 := Nat.and_lt_two_pow _ (by omega)
  show IntKind.u16.wrap ((BitVec.ofInt 16 (a : Int) &&& BitVec.ofInt 16 (b : Int)).toNat : Int) = _
  rw [BitVec.toNat_and, ofInt_u16 a ha, ofInt_u16 b hb, IntKind.wrap_u16]
  omega
theorem u16_or_nat (a b : Nat) (ha : a < 65536) (hb : b < 65536) : bits .or .u16 (a : Int) (b : Int) = ((a ||| b : Nat) : Int) := by
  have hx : a ||| b < 2 ^ 16 := Nat.or_lt_two_pow (by omega) (by omega)
  show IntKind.u16.wrap ((BitVec.ofInt 16 (a : Int) ||| BitVec.ofInt 16 (b : Int)).toNat : Int) = _
  rw [BitVec.toNat_or, ofInt_u16 a ha, ofInt_u16 b hb, IntKind.wrap_u16]
  omega
theorem u16_xor_nat (a b : Nat) (ha : a < 65536) (hb : b < 65536) : bits .xor .u16 (a : Int) (b : Int) = ((a ^^^ b : Nat) : Int) := by
  have hx : a ^^^ b < 2 ^ 16 := Nat.xor_lt_two_pow (by omega) (by omega)
  show IntKind.u16.wrap ((BitVec.ofInt 16 (a : Int) ^^^ BitVec.ofInt 16 (b : Int)).toNat : Int) = _
  rw [BitVec.toNat_xor, ofInt_u16 a ha, ofInt_u16 b hb, IntKind.wrap_u16]
  omega
theorem u16_pow (i : Nat) (h : i < 16) : IntKind.u16.wrap ((2 : Int) ^ i) = ((2 ^ i : Nat) : Int) := by
  rw [IntKind.wrap_u16]
  have h1 : 2 ^ i < 2 ^ 16 := Nat.pow_lt_pow_right (by omega) h
  have e : (2 : Int) ^ i = ((2 ^ i : Nat) : Int) := by simp
  rw [e]
  generalize 2 ^ i = q at *
  omega
theorem u16_bit (s i : Nat) (hs : s < 65536) (hi : i < 16) : (bits .and .u16 ((s : Int) / 2 ^ i) 1 == 1) = s.testBit i := by
  have e : ((s : Int) / 2 ^ i) = ((s / 2 ^ i : Nat) : Int) := by simp
  have h1 : s / 2 ^ i < 65536 := Nat.lt_of_le_of_lt (Nat.div_le_self _ _) hs
  have e1 : (1 : Int) = ((1 : Nat) : Int) := rfl
  rw [e, e1, u16_and_nat _ _ h1 (by omega), Nat.testBit_eq_decide_div_mod_eq, Nat.and_one_is_mod]
  rw [Bool.eq_iff_iff]
  simp
  omega
theorem u16_flip (s i : Nat) (hs : s < 65536) (hi : i < 16) : bits .xor .u16 (s : Int) (IntKind.u16.wrap (2 ^ i)) = ((s ^^^ 2 ^ i : Nat) : Int) := by
  have h1 : 2 ^ i < 2 ^ 16 := Nat.pow_lt_pow_right (by omega) hi
  rw [u16_pow i hi, u16_xor_nat _ _ hs (by omega)]
theorem u16_set (s i : Nat) (hs : s < 65536) (hi : i < 16) : bits .or .u16 (s : Int) (IntKind.u16.wrap (2 ^ i)) = ((s ||| 2 ^ i : Nat) : Int) := by
  have h1 : 2 ^ i < 2 ^ 16 := Nat.pow_lt_pow_right (by omega) hi
  rw [u16_pow i hi, u16_or_nat _ _ hs (by omega)]

end Go.Proofs.Ytkfgimhihknpoaa
