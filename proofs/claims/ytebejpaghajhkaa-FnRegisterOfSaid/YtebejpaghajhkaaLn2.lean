/-
  Lines: rows of blocks. No condition.
-/
import Derived.Test.YtebejpaghajhkaaLn1
namespace Go.Proofs.Ytebejpaghajhkaa
open Go.RowKit
set_option linter.unusedVariables false

/-- The cells of a row of blocks. -/
def bcells : List BV → List Value
  | [] => []
  | b :: bs => .int .i64 b.1 :: .bool b.2.1 :: .bool b.2.2 :: bcells bs
abbrev Z3 : BV := (0, false, false)
theorem bcells_length (bs : List BV) : (bcells bs).length = bs.length * 3 := by
  induction bs with
  | nil => rfl
  | cons b bs ih => simp [bcells, ih]; omega
theorem bcells_app (xs ys : List BV) : bcells (xs ++ ys) = bcells xs ++ bcells ys := by
  induction xs with
  | nil => rfl
  | cons b bs ih => simp [bcells, ih]
theorem bcells_get (bs : List BV) : ∀ k, k < bs.length → (bcells bs)[k * 3]? = some (.int .i64 (bs.getD k Z3).1) ∧ (bcells bs)[k * 3 + 1]? = some (.bool (bs.getD k Z3).2.1) ∧ (bcells bs)[k * 3 + 2]? = some (.bool (bs.getD k Z3).2.2) := by
  induction bs with
  | nil => intro k hk; simp at hk
  | cons b bs ih =>
    intro k hk
    match k with
    | 0 => simp [bcells]
    | k + 1 =>
      obtain ⟨h0, h1, h2⟩ := ih k (by simpa using hk)
      have e0 : (k + 1) * 3 = k * 3 + 1 + 1 + 1 := by omega
      have e1 : (k + 1) * 3 + 1 = k * 3 + 1 + 1 + 1 + 1 := by omega
      have e2 : (k + 1) * 3 + 2 = k * 3 + 2 + 1 + 1 + 1 := by omega
      rw [e2, e1, e0]
      simp only [bcells, List.getElem?_cons_succ, List.getD_cons_succ]
      exact ⟨h0, h1, h2⟩
theorem bcells_set (bs : List BV) (b : BV) : ∀ k, k < bs.length → (((bcells bs).set (k * 3) (.int .i64 b.1)).set (k * 3 + 1) (.bool b.2.1)).set (k * 3 + 2) (.bool b.2.2) = bcells (bs.set k b) := by
  induction bs with
  | nil => intro k hk; simp at hk
  | cons c bs ih =>
    intro k hk
    match k with
    | 0 => simp [bcells]
    | k + 1 =>
      have h := ih k (by simpa using hk)
      have e0 : (k + 1) * 3 = k * 3 + 1 + 1 + 1 := by omega
      have e1 : (k + 1) * 3 + 1 = k * 3 + 1 + 1 + 1 + 1 := by omega
      have e2 : (k + 1) * 3 + 2 = k * 3 + 2 + 1 + 1 + 1 := by omega
      rw [e2, e1, e0]
      simp only [bcells, List.set_cons_succ]
      rw [h]
theorem bcells_one (bs : List BV) : ∀ u ∈ bcells bs, u.oneCell' = true := by
  induction bs with
  | nil => intro u hu; cases hu
  | cons b bs ih =>
    intro u hu
    simp only [bcells, List.mem_cons] at hu
    rcases hu with rfl | rfl | rfl | hu
    · rfl
    · rfl
    · rfl
    · exact ih u hu

/-- The cells from 'off' on of block g hold the blocks bs. -/
def AtBl (w : World) (g off : Nat) (bs : List BV) : Prop := ∀ k, k < bs.length → w.cell? ⟨g, off + k * 3, none⟩ = some (.int .i64 (bs.getD k Z3).1) ∧ w.cell? ⟨g, off + k * 3 + 1, none⟩ = some (.bool (bs.getD k Z3).2.1) ∧ w.cell? ⟨g, off + k * 3 + 2, none⟩ = some (.bool (bs.getD k Z3).2.2)
theorem AtBl.below {w w' : World} {B g off : Nat} {bs : List BV} (h : AtBl w g off bs) (hb : Below B w w') (hl : g < B) : AtBl w' g off bs := fun k hk =>
  ⟨(hb.cell (p := ⟨g, off + k * 3, none⟩) hl).trans (h k hk).1, (hb.cell (p := ⟨g, off + k * 3 + 1, none⟩) hl).trans (h k hk).2.1, (hb.cell (p := ⟨g, off + k * 3 + 2, none⟩) hl).trans (h k hk).2.2⟩
def RdBl (w : World) (A : Option Addr) (bs : List BV) : Prop := 0 < bs.length → ∃ b off, A = some ⟨b, off, none⟩ ∧ b < w.heap.size ∧ AtBl w b off bs
theorem RdBl.below {w w' : World} {A : Option Addr} {bs : List BV} (h : RdBl w A bs) (hb : Below w.heap.size w w') : RdBl w' A bs := fun hp => by
  obtain ⟨b, off, hA, hlt, hat⟩ := h hp
  exact ⟨b, off, hA, Nat.lt_of_lt_of_le hlt hb.size, hat.below hb hlt⟩

theorem slBl : SlT 66 59 3 16 (.agg #[.int .i64 0, .bool false, .bool false]) := ⟨Try.underlying66, info_parts (by kernel_rfl), rfl, by decide⟩
def OwnB (w : World) (base g c : Nat) (bs : List BV) : Prop := OwnV w base 59 3 g c bs.length (bcells bs)
section
variable {w w' : World} {base base' g c : Nat} {bs : List BV}
theorem OwnB.at (h : OwnB w base g c bs) : AtBl w g 0 bs := by
  intro k hk
  have h3 := bcells_get bs k hk
  have e := bcells_length bs
  refine ⟨?_, ?_, ?_⟩
  · rw [Nat.zero_add, OwnV.cell h (k * 3) (by omega)]; exact h3.1
  · rw [Nat.zero_add, OwnV.cell h (k * 3 + 1) (by omega)]; exact h3.2.1
  · rw [Nat.zero_add, OwnV.cell h (k * 3 + 2) (by omega)]; exact h3.2.2
theorem OwnB.below {B : Nat} (h : OwnB w base g c bs) (hb : Below B w w') (hg : g < B) : OwnB w' base g c bs := OwnV.below h hb hg
theorem OwnB.lt (h : OwnB w base g c bs) : g < w.heap.size := OwnV.lt h
theorem OwnB.le (h : OwnB w base g c bs) : base ≤ g := OwnV.le h
theorem OwnB.facts (h : OwnB w base g c bs) (k : Nat) (hk : k < bs.length) : w.cell? ⟨g, k * 3, none⟩ = some (.int .i64 (bs.getD k Z3).1) ∧ w.cell? ⟨g, k * 3 + 1, none⟩ = some (.bool (bs.getD k Z3).2.1) ∧ w.cell? ⟨g, k * 3 + 2, none⟩ = some (.bool (bs.getD k Z3).2.2) ∧ w.frozen? ⟨g, k * 3, none⟩ = false ∧ w.frozen? ⟨g, k * 3 + 1, none⟩ = false ∧ w.frozen? ⟨g, k * 3 + 2, none⟩ = false := by
  have h' := h.at k hk
  simp only [Nat.zero_add] at h'
  exact ⟨h'.1, h'.2.1, h'.2.2, OwnV.frozen h _, OwnV.frozen h _, OwnV.frozen h _⟩
theorem OwnB.store (h : OwnB w base g c bs) (k : Nat) (hk : k < bs.length) (x : BV) : OwnB (((w.setCell ⟨g, k * 3, none⟩ (.int .i64 x.1)).setCell ⟨g, k * 3 + 1, none⟩ (.bool x.2.1)).setCell ⟨g, k * 3 + 2, none⟩ (.bool x.2.2)) base g c (bs.set k x) := by
  have hst := ((OwnV.store h (k * 3) (.int .i64 x.1)).store (k * 3 + 1) (.bool x.2.1)).store (k * 3 + 2) (.bool x.2.2)
  rw [bcells_set _ x k hk] at hst
  unfold OwnB
  rw [List.length_set]
  exact hst
theorem OwnB.cap (h : OwnB w base g c bs) : bs.length ≤ c := OwnV.cap h
end
def NewBl (w : World) (bs : List BV) (e : Ending) (w' : World) : Prop :=
  ∃ g c, e = .returned (.slice (some ⟨g, 0, none⟩) bs.length c) ∧ OwnB w' w.heap.size g c bs ∧ Below w.heap.size w w'
theorem made_bl (n : Nat) : (madeCells (Value.agg #[.int .i64 0, .bool false, .bool false]).cells (n * 3)).toList = bcells (List.replicate n Z3) := by
  have e : (Value.agg #[.int .i64 0, .bool false, .bool false]).cells = #[.int .i64 0, .bool false, .bool false] := rfl
  rw [e]
  clear e
  induction n with
  | zero => simp [madeCells, bcells]
  | succ n ih =>
    rw [List.replicate_succ', bcells_app, ← ih]
    simp only [madeCells, Array.toList_map, Array.toList_range]
    rw [show (n + 1) * 3 = n * 3 + 1 + 1 + 1 by omega, List.range_succ, List.range_succ, List.range_succ]
    have h0 : (n * 3) % 3 = 0 := by omega
    have h1 : (n * 3 + 1) % 3 = 1 := by omega
    have h2 : (n * 3 + 1 + 1) % 3 = 2 := by omega
    simp [h0, h1, h2, bcells]
/-- 'make([]Block, n)'. -/
theorem wpList_mk3 {ops : Array Oper} {rest : List Oper} {o : Oper} {a : Act} {Q : Exit → Act → World → Prop} (hgd : o.guard = none) (l d : Operand)
    (ho : o.op = Op.makeSlice 66 l d) (w : World) (base n : Nat) (hl : a.eval l = .int .i64 n) (hd : a.eval d = .int .i64 n) (hb : n ≤ 1048576) (hbase : base ≤ w.heap.size)
    (h : ∀ w', OwnV w' base 59 3 w.heap.size n n (bcells (List.replicate n Z3)) → w.grownBy w' none → wpList Try.prog ops Q rest (a.put o.dst (.slice (some ⟨w.heap.size, 0, none⟩) n n)) w') :
    wpList Try.prog ops Q (o :: rest) a w := by
  obtain ⟨i, hi, hz, hsz, hby⟩ := slBl.info
  refine wpList_make_full w hgd l d 66 ho base 59 i _ 3 slBl.und hi hz hsz .i64 .i64 _ _ n hl hd rfl rfl (by rw [hby]; omega) (by unfold maxLen; omega) hbase ?_
  intro w' h1 h2
  refine h w' ?_ h2
  rw [made_bl] at h1
  exact h1

theorem fill_setB (zs : List BV) (k : Nat) (hk : k < zs.length) :
    (zs.take k ++ List.replicate (zs.length - k) Z3).set k (zs.getD k Z3) = zs.take (k + 1) ++ List.replicate (zs.length - (k + 1)) Z3 := by
  apply List.ext_getElem?
  intro j
  simp only [List.getElem?_set, List.getElem?_append, List.length_take, List.getElem?_take, List.length_append, List.length_replicate, List.getElem?_replicate]
  have hm : min k zs.length = k := by omega
  have hm' : min (k + 1) zs.length = k + 1 := by omega
  rw [hm, hm']
  by_cases h1 : k = j
  · subst h1
    simp [hk]
    omega
  · by_cases h2 : j < k
    · simp [h1, h2, show j < k + 1 by omega]
    · by_cases h3 : j < zs.length
      · simp [h1, h2, show ¬ j < k + 1 by omega, show j - k < zs.length - k by omega, show j - (k + 1) < zs.length - (k + 1) by omega]
      · simp [h1, h2, show ¬ j < k + 1 by omega, show ¬ j - k < zs.length - k by omega, show ¬ j - (k + 1) < zs.length - (k + 1) by omega]
end Go.Proofs.Ytebejpaghajhkaa
