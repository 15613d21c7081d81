/-
  Lists of strings: rows that are read, owned rows, and the laws' helpers toStringS, eqStringS, markText, markStringS, heldStringS, szStringS. No condition but lengths that fit.
-/
import Derived.Test.YtebejpaghajhkaaInts
import Derived.Deep.RegionHeld3
namespace Go.Proofs.Ytebejpaghajhkaa
open Go.RowKit
set_option linter.unusedVariables false

abbrev Bs := ByteArray
def AtStrs (w : World) (b off : Nat) (ss : List Bs) : Prop := ∀ k, k < ss.length → w.cell? ⟨b, off + k, none⟩ = some (.string (ss.getD k ByteArray.empty))
theorem AtStrs.below {w w' : World} {B b off : Nat} {ss : List Bs} (h : AtStrs w b off ss) (hb : Below B w w') (hl : b < B) : AtStrs w' b off ss :=
  fun k hk => (hb.cell (p := ⟨b, off + k, none⟩) hl).trans (h k hk)
theorem slStr : SlT 116 9 1 16 (.string ByteArray.empty) := ⟨Try.underlying116, info_parts (by kernel_rfl), rfl, by decide⟩
def OwnSM (w : World) (base g c m : Nat) (ss : List Bs) : Prop := OwnV w base 9 1 g c m (ss.map Value.string)
def OwnS (w : World) (base g c : Nat) (ss : List Bs) : Prop := OwnSM w base g c ss.length ss
section
variable {w w' : World} {base base' g c m : Nat} {ss : List Bs}
theorem OwnSM.len (h : OwnSM w base g c m ss) : m = ss.length := by
  have := (OwnV.parts h).1
  simpa using this.symm
theorem OwnSM.own (h : OwnSM w base g c m ss) : OwnS w base g c ss := by
  have := h.len
  subst this
  exact h
theorem OwnSM.le (h : OwnSM w base g c m ss) : base ≤ g := OwnV.le h
theorem OwnSM.lt (h : OwnSM w base g c m ss) : g < w.heap.size := OwnV.lt h
theorem OwnSM.at (h : OwnSM w base g c m ss) : AtStrs w g 0 ss := by
  intro k hk
  have hl := h.len
  have := OwnV.cell h k (by omega)
  rw [Nat.zero_add, this]
  simp [hk]
theorem OwnS.at (h : OwnS w base g c ss) : AtStrs w g 0 ss := OwnSM.at h
theorem OwnS.below {B : Nat} (h : OwnS w base g c ss) (hb : Below B w w') (hg : g < B) : OwnS w' base g c ss := OwnV.below h hb hg
theorem OwnS.grown {row : Option Nat} (h : OwnS w base g c ss) (hg : w.grownBy w' row) (hne : some g ≠ row) : OwnS w' base g c ss := OwnV.grown h hg hne
theorem OwnS.lt (h : OwnS w base g c ss) : g < w.heap.size := OwnV.lt h
theorem OwnS.le (h : OwnS w base g c ss) : base ≤ g := OwnV.le h
theorem ownSM_empty (w : World) (base : Nat) (hb : base ≤ w.heap.size) : OwnSM (w.alloc (.cells #[] 9)) base w.heap.size 0 0 [] := OwnV.lit #[] hb (by unfold maxLen; omega) rfl
theorem ownSM_one (w : World) (base : Nat) (hb : base ≤ w.heap.size) (s : Bs) : OwnSM (w.alloc (.cells #[.string s] 9)) base w.heap.size 1 1 [s] := OwnV.lit #[.string s] hb (by unfold maxLen; omega) rfl
end
def NewStrs (w : World) (ss : List Bs) (e : Ending) (w' : World) : Prop :=
  ∃ g c, e = .returned (.slice (some ⟨g, 0, none⟩) ss.length c) ∧ OwnS w' w.heap.size g c ss ∧ Below w.heap.size w w'
def NewStrsB (w : World) (ss : List Bs) (b : Bool) (e : Ending) (w' : World) : Prop :=
  ∃ g c, e = .returned (.tuple #[.slice (some ⟨g, 0, none⟩) ss.length c, .bool b]) ∧ OwnS w' w.heap.size g c ss ∧ Below w.heap.size w w'
def RdStrs (w : World) (A : Option Addr) (ss : List Bs) : Prop := 0 < ss.length → ∃ b off, A = some ⟨b, off, none⟩ ∧ b < w.heap.size ∧ AtStrs w b off ss
theorem RdStrs.below {w w' : World} {A : Option Addr} {ss : List Bs} (h : RdStrs w A ss) (hb : Below w.heap.size w w') : RdStrs w' A ss := fun hp => by
  obtain ⟨b, off, hA, hlt, hat⟩ := h hp
  exact ⟨b, off, hA, Nat.lt_of_lt_of_le hlt hb.size, fun k hk => (hb.cell (p := ⟨b, off + k, none⟩) hlt).trans (hat k hk)⟩

/-- 'append(out, s)' onto an owned row of strings. -/
theorem wpList_app1s {ops : Array Oper} {rest : List Oper} {o : Oper} {a : Act} {Q : Exit → Act → World → Prop} (hgd : o.guard = none) (s x : Operand)
    (ho : o.op = .call { callee := .builtin .append, args := #[s, x], argTypes := #[116, 116] }) (w : World) {base g c m : Nat} {ss : List Bs} {z : Bs} (hs : a.eval s = .slice (some ⟨g, 0, none⟩) m c)
    (hown : OwnSM w base g c m ss) (hx : a.eval x = .slice (some ⟨w.heap.size, 0, none⟩) 1 1) (hm : m ≤ 1099511627776)
    (h : ∀ g' c' w', OwnSM w' base g' c' (m + 1) (ss ++ [z]) → w.grownBy w' (some g) → (g' = g ∨ w.heap.size < g') → wpList Try.prog ops Q rest (a.put o.dst (.slice (some ⟨g', 0, none⟩) (m + 1) c')) w') :
    wpList Try.prog ops Q (o :: rest) a (w.alloc (.cells #[.string z] 9)) := by
  refine wpList_app1 slStr hgd s x ho w hs hown hx rfl (by simp [Value.oneCell']) (by unfold maxLen; omega) (by omega) ?_
  intro g' c' w' h1 h2 h3
  refine h g' c' w' ?_ h2 h3
  unfold OwnSM
  simpa using h1

theorem fill_setS (ss : List Bs) (k : Nat) (hk : k < ss.length) :
    (ss.take k ++ List.replicate (ss.length - k) ByteArray.empty).set k (ss.getD k ByteArray.empty) = ss.take (k + 1) ++ List.replicate (ss.length - (k + 1)) ByteArray.empty := by
  apply List.ext_getElem?
  intro j
  simp only [List.getElem?_set, List.getElem?_append, List.length_take, List.getElem?_take, List.length_append, List.length_replicate, List.getElem?_replicate]
  have hm : min k ss.length = k := by omega
  have hm' : min (k + 1) ss.length = k + 1 := by omega
  rw [hm, hm']
  by_cases h1 : k = j
  · subst h1
    simp [hk]
    omega
  · by_cases h2 : j < k
    · simp [h1, h2, show j < k + 1 by omega]
    · by_cases h3 : j < ss.length
      · simp [h1, h2, show ¬ j < k + 1 by omega, show j - k < ss.length - k by omega, show j - (k + 1) < ss.length - (k + 1) by omega]
      · simp [h1, h2, show ¬ j < k + 1 by omega, show ¬ j - k < ss.length - k by omega, show ¬ j - (k + 1) < ss.length - (k + 1) by omega]
theorem toList_inj {a b : Bs} (h : a.toList = b.toList) : a = b := by
  rw [ByteArray.toList_eq, ByteArray.toList_eq] at h
  cases a with | mk a => cases b with | mk b =>
  simp at h
  rw [h]


theorem take_eq_succS {xs ys : List Bs} {k : Nat} (ha : k < xs.length) (hb : k < ys.length) (h : xs.take k = ys.take k) (hk : xs.getD k ByteArray.empty = ys.getD k ByteArray.empty) : xs.take (k + 1) = ys.take (k + 1) := by
  rw [List.take_succ_eq_append_getElem ha, List.take_succ_eq_append_getElem hb, h]
  simp [List.getD, ha, hb] at hk
  rw [hk]


/-- The decimal digits of k, by so much fuel. -/
def dg : Nat → Nat → List UInt8
  | 0, _ => []
  | f + 1, k => if k = 0 then [] else dg f (k / 10) ++ [UInt8.ofNat (48 + k % 10)]
def mt (k : Nat) : Bs := ⟨(109 :: dg 20 k).toArray⟩

theorem slU8' : SlT 22 5 1 1 (.int .u8 0) := ⟨Try.underlying22, info_parts (by kernel_rfl), rfl, by decide⟩
set_option maxHeartbeats 800000 in
theorem markText_any (k : Nat) (w : World) (h1 : 1 ≤ k) (h2 : k ≤ 4611686018427387904) :
    Calls Try.prog 75 #[.int .i64 k] w fun e w' => e = .returned (.string (mt k)) ∧ Below w.heap.size w w' := by
  have t0 := dec_f (show ¬ (k : Int) ≤ 0 by omega)
  have t0' := dec_f (show ¬ k = 0 by omega)
  go_enter Try.func75, Try.ntmps75
  go_wp2
  go_loopw [0, 3] (fun q v wr => ∃ (j f : Nat) (l : List UInt8), j < 10 ^ f ∧ f ≤ 20 ∧ j ≤ 4611686018427387904 ∧ q = .int .i64 j ∧ v = .string ⟨l.toArray⟩ ∧ l.length ≤ 20 - f ∧ dg f j ++ l = dg 20 k ∧ Below w.heap.size w wr) (fun q _ _ => (intOf q).toNat)
  case atStart => exact ⟨k, 20, [], Nat.lt_of_le_of_lt h2 (by decide), by omega, h2, rfl, rfl, by simp, by simp, Below.refl _ _⟩
  case round =>
    obtain ⟨j, f, l, hj, hf, hj2, rfl, rfl, hl, hd, hbel⟩ := hrel
    have HD := Lib.hid hd
    have HB := Lib.hid hbel
    have HJ := Lib.hid hj
    clear hd hbel hj
    by_cases hpos : 0 < j
    · cases f with
      | zero => have := HJ.out; simp at this; omega
      | succ f =>
        have hdg : dg (f + 1) j = dg f (j / 10) ++ [UInt8.ofNat (48 + j % 10)] := by rw [dg, if_neg (by omega)]
        have hnew : dg f (j / 10) ++ (UInt8.ofNat (48 + j % 10) :: l) = dg 20 k := by
          rw [← HD.out, hdg]; simp
        have hj10 : j / 10 < 10 ^ f := by
          have := HJ.out
          rw [Nat.pow_succ] at this
          exact Nat.div_lt_of_lt_mul (by omega)
        have hcv := run_convert_bytes_back (P := Try.prog) (wr.alloc (.cells #[.int .u8 (48 + (j : Int) % 10)] 5)) 22 9 5 ⟨wr.heap.size, 0, none⟩ 1 [UInt8.ofNat (48 + j % 10)] Try.underlying22 Try.underlying5 Try.underlying9 (by
          intro i hi
          have hi0 : i = 0 := by simpa using hi
          subst hi0
          rw [Addr.add_lit, cell_of_row _ wr.heap.size (0 + 0) #[.int .u8 (48 + (j : Int) % 10)] 5 (0, 0) (heap_alloc_new wr _)]
          simp [UInt8.toNat_ofNat']
          omega)
        have HNEW := Lib.hid hnew
        have HJ10 := Lib.hid hj10
        have m1 : 0 ≤ (j : Int) % 10 := by omega
        have m2 : (j : Int) % 10 ≤ 9 := by omega
        simp only [List.length_cons, List.length_nil, Nat.zero_add] at hcv
        generalize UInt8.ofNat (48 + j % 10) = ch at *
        have hadd := ByteArray.mk_append_mk [ch] l
        have HADD := Lib.hid hadd
        clear hdg hnew hj10 hadd
        have t1 := dec_t (show (0 : Int) < (j : Int) by omega)
        go_wp2
        go_roundw
        case rel => exact ⟨j / 10, f, ch :: l, HJ10.out, by omega, by omega, by go_num, by rw [HADD.out]; rfl, by simp; omega, HNEW.out, below_new' HB.out _⟩
        case measure => simp [intOf]; omega
    · have t1 := dec_f (show ¬ (0 : Int) < (j : Int) by omega)
      have hj0 : j = 0 := by omega
      have hmt : (⟨#[109]⟩ : ByteArray) ++ ⟨l.toArray⟩ = mt k := by
        have h := HD.out
        have e : dg f j = [] := by
          subst hj0
          cases f with
          | zero => rfl
          | succ f => simp [dg]
        rw [e] at h
        have := ByteArray.mk_append_mk [109] l
        unfold mt
        rw [← h]
        exact this
      have HM := Lib.hid hmt
      clear hmt hj0
      go_wp2
      go_ret
      exact ⟨ret_str HM.out, HB.out⟩

/-- The marks' texts. -/
def marksS (k n : Nat) : List Bs := (List.range n).map fun j => mt (k + j)
theorem marksS_length (k n : Nat) : (marksS k n).length = n := by simp [marksS]
theorem marksS_get (k n j : Nat) (h : j < n) : (marksS k n).getD j ByteArray.empty = mt (k + j) := by simp [marksS, List.getD, h]
theorem markS_set (ss : List Bs) (k j : Nat) (hj : j < ss.length) : (marksS k j ++ ss.drop j).set j (mt (k + j)) = marksS k (j + 1) ++ ss.drop (j + 1) := by
  have h1 : marksS k (j + 1) = marksS k j ++ [mt (k + j)] := by simp [marksS, List.range_succ]
  rw [h1, List.set_append_right _ _ (by simp [marksS]), marksS_length, Nat.sub_self, List.drop_eq_getElem_cons hj, List.set_cons_zero, List.append_assoc]
  rfl



/-- The letters of the first k texts, together. -/
def sumS (ss : List Bs) : Nat := (ss.map ByteArray.size).sum
theorem sumS_take (ss : List Bs) (k : Nat) (h : k < ss.length) : sumS (ss.take (k + 1)) = sumS (ss.take k) + (ss.getD k ByteArray.empty).size := by
  unfold sumS
  rw [List.take_succ_eq_append_getElem h, List.map_append, List.sum_append]
  congr 1
  simp [List.getD, h]
theorem sumS_le (ss : List Bs) (k : Nat) : sumS (ss.take k) ≤ sumS ss := by
  have h : sumS (ss.take k ++ ss.drop k) = sumS (ss.take k) + sumS (ss.drop k) := by unfold sumS; rw [List.map_append, List.sum_append]
  rw [List.take_append_drop] at h
  omega
theorem sumS_mem {ss : List Bs} {k : Nat} (h : k < ss.length) : (ss.getD k ByteArray.empty).size ≤ sumS ss := by
  have h1 := sumS_take ss k h
  have h2 := sumS_le ss (k + 1)
  omega


end Go.Proofs.Ytebejpaghajhkaa
