/-
  Lines: rows of blocks. No condition.
-/
import Derived.Test.YtmgakfbchhefcaaLn1
namespace Go.Proofs.Ytmgakfbchhefcaa
open Go.RowKit
set_option linter.unusedVariables false

/-- The cells of a row of blocks. -/
def bcells : List BV → List Value
  | [] => []
  | b :: bs => .int .i64 b.1 :: .bool b.2.1 :: .bool b.2.2 :: bcells bs
abbrev Z3 : BV := (0, false, false)
theorem bcells_length (bs : List BV) : (bcells bs).length = bs.length * 3 := by
  induction bs with
  | nil => rfl
  | cons b bs ih => simp [bcells, ih]; omega
theorem bcells_app (xs ys : List BV) : bcells (xs ++ ys) = bcells xs ++ bcells ys := by
  induction xs with
  | nil => rfl
  | cons b bs ih => simp [bcells, ih]
theorem bcells_get (bs : List BV) : ∀ k, k < bs.length → (bcells bs)[k * 3]? = some (.int .i64 (bs.getD k Z3).1) ∧ (bcells bs)[k * 3 + 1]? = some (.bool (bs.getD k Z3).2.1) ∧ (bcells bs)[k * 3 + 2]? = some (.bool (bs.getD k Z3).2.2) := by
  induction bs with
  | nil => intro k hk; simp at hk
  | cons b bs ih =>
    intro k hk
    match k with
    | 0 => simp [bcells]
    | k + 1 =>
      obtain ⟨h0, h1, h2⟩ := ih k (by simpa using hk)
      have e0 : (k + 1) * 3 = k * 3 + 1 + 1 + 1 := by omega
      have e1 : (k + 1) * 3 + 1 = k * 3 + 1 + 1 + 1 + 1 := by omega
      have e2 : (k + 1) * 3 + 2 = k * 3 + 2 + 1 + 1 + 1 := by omega
      rw [e2, e1, e0]
      simp only [bcells, List.getElem?_cons_succ, List.getD_cons_succ]
      exact ⟨h0, h1, h2⟩
theorem bcells_set (bs : List BV) (b : BV) : ∀ k, k < bs.length → (((bcells bs).set (k * 3) (.int .i64 b.1)).set (k * 3 + 1) (.bool b.2.1)).set (k * 3 + 2) (.bool b.2.2) = bcells (bs.set k b) := by
  induction bs with
  | nil => intro k hk; simp at hk
  | cons c bs ih =>
    intro k hk
    match k with
    | 0 => simp [bcells]
    | k + 1 =>
      have h := ih k (by simpa using hk)
      have e0 : (k + 1) * 3 = k * 3 + 1 + 1 + 1 := by omega
      have e1 : (k + 1) * 3 + 1 = k * 3 + 1 + 1 + 1 + 1 := by omega
      have e2 : (k + 1) * 3 + 2 = k * 3 + 2 + 1 + 1 + 1 := by omega
      rw [e2, e1, e0]
      simp only [bcells, List.set_cons_succ]
      rw [h]
theorem bcells_one (bs : List BV) : ∀ u ∈ bcells bs, u.oneCell' = true := by
  induction bs with
  | nil => intro u hu; cases hu
  | cons b bs ih =>
    intro u hu
    simp only [bcells, List.mem_cons] at hu
    rcases hu with rfl | rfl | rfl | hu
    · rfl
    · rfl
    · rfl
    · exact ih u hu

/-- The cells from 'off' on of block g hold the blocks bs. -/
def AtBl (w : World) (g off : Nat) (bs : List BV) : Prop := ∀ k, k < bs.length → w.cell? ⟨g, off + k * 3, none⟩ = some (.int .i64 (bs.getD k Z3).1) ∧ w.cell? ⟨g, off + k * 3 + 1, none⟩ = some (.bool (bs.getD k Z3).2.1) ∧ w.cell? ⟨g, off + k * 3 + 2, none⟩ = some (.bool (bs.getD k Z3).2.2)
theorem AtBl.below {w w' : World} {B g off : Nat} {bs : List BV} (h : AtBl w g off bs) (hb : Below B w w') (hl : g < B) : AtBl w' g off bs := fun k hk =>
  ⟨(hb.cell (p := ⟨g, off + k * 3, none⟩) hl).trans (h k hk).1, (hb.cell (p := ⟨g, off + k * 3 + 1, none⟩) hl).trans (h k hk).2.1, (hb.cell (p := ⟨g, off + k * 3 + 2, none⟩) hl).trans (h k hk).2.2⟩
def RdBl (w : World) (A : Option Addr) (bs : List BV) : Prop := 0 < bs.length → ∃ b off, A = some ⟨b, off, none⟩ ∧ b < w.heap.size ∧ AtBl w b off bs
theorem RdBl.below {w w' : World} {A : Option Addr} {bs : List BV} (h : RdBl w A bs) (hb : Below w.heap.size w w') : RdBl w' A bs := fun hp => by
  obtain ⟨b, off, hA, hlt, hat⟩ := h hp
  exact ⟨b, off, hA, Nat.lt_of_lt_of_le hlt hb.size, hat.below hb hlt⟩

theorem slBl : SlT 30 48 3 16 (.agg #[.int .i64 0, .bool false, .bool false]) := ⟨Try.underlying30, info_parts (by kernel_rfl), rfl, by decide⟩
def OwnB (w : World) (base g c : Nat) (bs : List BV) : Prop := OwnV w base 48 3 g c bs.length (bcells bs)
section
variable {w w' : World} {base base' g c : Nat} {bs : List BV}
theorem OwnB.at (h : OwnB w base g c bs) : AtBl w g 0 bs := by
  intro k hk
  have h3 := bcells_get bs k hk
  have e := bcells_length bs
  refine ⟨?_, ?_, ?_⟩
  · rw [Nat.zero_add, OwnV.cell h (k * 3) (by omega)]; exact h3.1
  · rw [Nat.zero_add, OwnV.cell h (k * 3 + 1) (by omega)]; exact h3.2.1
  · rw [Nat.zero_add, OwnV.cell h (k * 3 + 2) (by omega)]; exact h3.2.2
theorem OwnB.below {B : Nat} (h : OwnB w base g c bs) (hb : Below B w w') (hg : g < B) : OwnB w' base g c bs := OwnV.below h hb hg
theorem OwnB.lt (h : OwnB w base g c bs) : g < w.heap.size := OwnV.lt h
theorem OwnB.le (h : OwnB w base g c bs) : base ≤ g := OwnV.le h
theorem OwnB.facts (h : OwnB w base g c bs) (k : Nat) (hk : k < bs.length) : w.cell? ⟨g, k * 3, none⟩ = some (.int .i64 (bs.getD k Z3).1) ∧ w.cell? ⟨g, k * 3 + 1, none⟩ = some (.bool (bs.getD k Z3).2.1) ∧ w.cell? ⟨g, k * 3 + 2, none⟩ = some (.bool (bs.getD k Z3).2.2) ∧ w.frozen? ⟨g, k * 3, none⟩ = false ∧ w.frozen? ⟨g, k * 3 + 1, none⟩ = false ∧ w.frozen? ⟨g, k * 3 + 2, none⟩ = false := by
  have h' := h.at k hk
  simp only [Nat.zero_add] at h'
  exact ⟨h'.1, h'.2.1, h'.2.2, OwnV.frozen h _, OwnV.frozen h _, OwnV.frozen h _⟩
theorem OwnB.store (h : OwnB w base g c bs) (k : Nat) (hk : k < bs.length) (x : BV) : OwnB (((w.setCell ⟨g, k * 3, none⟩ (.int .i64 x.1)).setCell ⟨g, k * 3 + 1, none⟩ (.bool x.2.1)).setCell ⟨g, k * 3 + 2, none⟩ (.bool x.2.2)) base g c (bs.set k x) := by
  have hst := ((OwnV.store h (k * 3) (.int .i64 x.1)).store (k * 3 + 1) (.bool x.2.1)).store (k * 3 + 2) (.bool x.2.2)
  rw [bcells_set _ x k hk] at hst
  unfold OwnB
  rw [List.length_set]
  exact hst
theorem OwnB.cap (h : OwnB w base g c bs) : bs.length ≤ c := OwnV.cap h
end
def NewBl (w : World) (bs : List BV) (e : Ending) (w' : World) : Prop :=
  ∃ g c, e = .returned (.slice (some ⟨g, 0, none⟩) bs.length c) ∧ OwnB w' w.heap.size g c bs ∧ Below w.heap.size w w'
theorem made_bl (n : Nat) : (madeCells (Value.agg #[.int .i64 0, .bool false, .bool false]).cells (n * 3)).toList = bcells (List.replicate n Z3) := by
  have e : (Value.agg #[.int .i64 0, .bool false, .bool false]).cells = #[.int .i64 0, .bool false, .bool false] := rfl
  rw [e]
  clear e
  induction n with
  | zero => simp [madeCells, bcells]
  | succ n ih =>
    rw [List.replicate_succ', bcells_app, ← ih]
    simp only [madeCells, Array.toList_map, Array.toList_range]
    rw [show (n + 1) * 3 = n * 3 + 1 + 1 + 1 by omega, List.range_succ, List.range_succ, List.range_succ]
    have h0 : (n * 3) % 3 = 0 := by omega
    have h1 : (n * 3 + 1) % 3 = 1 := by omega
    have h2 : (n * 3 + 1 + 1) % 3 = 2 := by omega
    simp [h0, h1, h2, bcells]
/-- 'make([]Block, n)'. -/
theorem wpList_mk3 {ops : Array Oper} {rest : List Oper} {o : Oper} {a : Act} {Q : Exit → Act → World → Prop} (hgd : o.guard = none) (l d : Operand)
    (ho : o.op = Op.makeSlice 30 l d) (w : World) (base n : Nat) (hl : a.eval l = .int .i64 n) (hd : a.eval d = .int .i64 n) (hb : n ≤ 1048576) (hbase : base ≤ w.heap.size)
    (h : ∀ w', OwnV w' base 48 3 w.heap.size n n (bcells (List.replicate n Z3)) → w.grownBy w' none → wpList Try.prog ops Q rest (a.put o.dst (.slice (some ⟨w.heap.size, 0, none⟩) n n)) w') :
    wpList Try.prog ops Q (o :: rest) a w := by
  obtain ⟨i, hi, hz, hsz, hby⟩ := slBl.info
  refine wpList_make_full w hgd l d 30 ho base 48 i _ 3 slBl.und hi hz hsz .i64 .i64 _ _ n hl hd rfl rfl (by rw [hby]; omega) (by unfold maxLen; omega) hbase ?_
  intro w' h1 h2
  refine h w' ?_ h2
  rw [made_bl] at h1
  exact h1

set_option maxHeartbeats 400000 in
theorem toBlock_any (n : Int) (i o : Bool) (w : World) : Calls Try.prog 80 #[.agg #[.int .i64 n, .bool i, .bool o]] w fun e w' => e = .returned (.agg #[.int .i64 n, .bool i, .bool o]) ∧ Below w.heap.size w w' := by
  go_enter Try.func80, Try.ntmps80
  go_wp2
  refine bodyPost_ret (v := .agg #[.int .i64 n, .bool i, .bool o]) (by simp [results, Try.results80, go_sem]) rfl ⟨rfl, below_new' (below_new' (below_new w _) _) _⟩
theorem fill_setB (zs : List BV) (k : Nat) (hk : k < zs.length) :
    (zs.take k ++ List.replicate (zs.length - k) Z3).set k (zs.getD k Z3) = zs.take (k + 1) ++ List.replicate (zs.length - (k + 1)) Z3 := by
  apply List.ext_getElem?
  intro j
  simp only [List.getElem?_set, List.getElem?_append, List.length_take, List.getElem?_take, List.length_append, List.length_replicate, List.getElem?_replicate]
  have hm : min k zs.length = k := by omega
  have hm' : min (k + 1) zs.length = k + 1 := by omega
  rw [hm, hm']
  by_cases h1 : k = j
  · subst h1
    simp [hk]
    omega
  · by_cases h2 : j < k
    · simp [h1, h2, show j < k + 1 by omega]
    · by_cases h3 : j < zs.length
      · simp [h1, h2, show ¬ j < k + 1 by omega, show j - k < zs.length - k by omega, show j - (k + 1) < zs.length - (k + 1) by omega]
      · simp [h1, h2, show ¬ j < k + 1 by omega, show ¬ j - k < zs.length - k by omega, show ¬ j - (k + 1) < zs.length - (k + 1) by omega]
set_option maxHeartbeats 800000 in
theorem toBlockS_any (A : Option Addr) (c : Nat) (bs : List BV) (w : World) (hn : bs.length ≤ 1048576) (hr : RdBl w A bs) :
    Calls Try.prog 49 #[.slice A bs.length c] w (NewBl w bs) := by
  have HR := Lib.hid hr
  clear hr
  go_enter Try.func49, Try.ntmps49
  go_wp2_with (at_make; refine wpList_mk3 rfl (.tmp 6) (.tmp 6) rfl w w.heap.size bs.length rfl rfl (by omega) (Nat.le_refl _) ?_; intro w1 hown1 hg1; have hb1 : Below w.heap.size w w1 := (Below.refl _ _).grown hg1 (Nat.le_refl _) (by simp))
  go_loopw [4] (fun i wr => ∃ k : Nat, k ≤ bs.length ∧ i = .int .i64 k ∧ OwnV wr w.heap.size 48 3 w.heap.size bs.length bs.length (bcells (bs.take k ++ List.replicate (bs.length - k) Z3)) ∧ Below w.heap.size w wr) (fun i _ => bs.length - (intOf i).toNat)
  case atStart => exact ⟨0, Nat.zero_le _, rfl, by simpa using hown1, hb1⟩
  case round =>
    clear hown1 hg1 hb1
    obtain ⟨k, hk, rfl, hown, hbel⟩ := hrel
    by_cases hlt : k < bs.length
    · obtain ⟨b, off, rfl, hb, hat⟩ := HR.out (by omega)
      have hc := hat.below hbel hb k hlt
      obtain ⟨x, hx⟩ : ∃ x, bs.getD k Z3 = x := ⟨_, rfl⟩
      rw [hx] at hc
      obtain ⟨h0, h1, h2⟩ := hc
      have hlen : (bs.take k ++ List.replicate (bs.length - k) Z3).length = bs.length := by simp; omega
      have HO : Hid (OwnB wr w.heap.size w.heap.size bs.length (bs.take k ++ List.replicate (bs.length - k) Z3)) := Lib.hid (by unfold OwnB; rw [hlen]; exact hown)
      have HL := Lib.hid hown.lt
      have HB := Lib.hid hbel
      have HF := Lib.hid (fill_setB bs k hlt)
      have HX := Lib.hid hx
      have HLN := Lib.hid hlen
      have HT := Lib.hid (fun w => toBlock_any x.1 x.2.1 x.2.2 w)
      clear hown hbel hat hx hlen
      go_wp2_with (go_at_call 80; go_must (go_fit (HT.out _); rintro e w2 ⟨rfl, hb2⟩; have O2 := Lib.hid (HO.out.below hb2 HL.out); have B2 := Lib.hid (below_to HB.out hb2 HB.out.size); obtain ⟨f0, f1, f2, z0, z1, z2⟩ := O2.out.facts k (by rw [HLN.out]; omega); clear hb2 h0 h1 h2))
      have HS := Lib.hid (O2.out.store k (by rw [HLN.out]; omega) x)
      have B3 := Lib.hid (((B2.out.setCell (p := ⟨w.heap.size, k * 3, none⟩) (Nat.le_refl _) (.int .i64 x.1)).setCell (p := ⟨w.heap.size, k * 3 + 1, none⟩) (Nat.le_refl _) (.bool x.2.1)).setCell (p := ⟨w.heap.size, k * 3 + 2, none⟩) (Nat.le_refl _) (.bool x.2.2))
      go_roundw
      case rel =>
        refine ⟨k + 1, by omega, by go_num, ?_, B3.out⟩
        have h := HS.out
        rw [← HX.out, HF.out] at h
        unfold OwnB at h
        have e : (bs.take (k + 1) ++ List.replicate (bs.length - (k + 1)) Z3).length = bs.length := by simp; omega
        rw [e, HX.out] at h
        exact h
      case measure => simp [intOf]; omega
    · go_wp2
      go_ret
      refine ⟨w.heap.size, bs.length, rfl, ?_, hbel⟩
      have e : bs.take k ++ List.replicate (bs.length - k) Z3 = bs := by
        rw [List.take_of_length_le (by omega), show bs.length - k = 0 by omega]; simp
      rw [e] at hown
      exact hown
end Go.Proofs.Ytmgakfbchhefcaa
