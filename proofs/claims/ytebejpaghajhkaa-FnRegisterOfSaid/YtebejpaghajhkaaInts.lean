/-
  The helpers of the laws on lists of ints: toIntS, eqIntS, markIntS, heldIntS, sameInts, hasInt: what each does to a row of ints. No condition but lengths that fit.
-/
import Derived.Test.YtebejpaghajhkaaBase
namespace Go.Proofs.Ytebejpaghajhkaa
open Go.RowKit
set_option linter.unusedVariables false

/-- The world has only drawn. -/
def Qt (w w' : World) : Prop := ∃ n, w' = w.drewN n
theorem Qt.below {w w' : World} (h : Qt w w') (B : Nat) : Below B w w' := by
  obtain ⟨n, rfl⟩ := h
  exact ⟨rfl, rfl, rfl, Nat.le_refl _, fun _ _ => rfl⟩

/-- What a call that hands back a new list of ints leaves. -/
def NewInts (w : World) (zs : List Int) (e : Ending) (w' : World) : Prop :=
  ∃ g c, e = .returned (.slice (some ⟨g, 0, none⟩) zs.length c) ∧ Own w' w.heap.size g c zs ∧ Below w.heap.size w w'

/-- A list of ints that came in, nil or not. -/
def RdInts (w : World) (A : Option Addr) (zs : List Int) : Prop := 0 < zs.length → ∃ b off, A = some ⟨b, off, none⟩ ∧ b < w.heap.size ∧ AtInts w b off zs

theorem RdInts.below {w w' : World} {A : Option Addr} {zs : List Int} (h : RdInts w A zs) (hb : Below w.heap.size w w') : RdInts w' A zs := fun hp => by
  obtain ⟨b, off, hA, hlt, hat⟩ := h hp
  exact ⟨b, off, hA, Nat.lt_of_lt_of_le hlt hb.size, fun k hk => (hb.cell (p := ⟨b, off + k, none⟩) hlt).trans (hat k hk)⟩
theorem AtInts.below {w w' : World} {B b off : Nat} {zs : List Int} (h : AtInts w b off zs) (hb : Below B w w') (hl : b < B) : AtInts w' b off zs :=
  fun k hk => (hb.cell (p := ⟨b, off + k, none⟩) hl).trans (h k hk)
theorem below_to {B B' : Nat} {a b d : World} (h : Below B a b) (k : Below B' b d) (hB : B ≤ B') : Below B a d := h.trans (k.mono hB)
theorem below_drewN {B : Nat} {a w : World} (h : Below B a w) (n : Nat) : Below B a (w.drewN n) := ⟨h.os, h.tape, h.output, h.size, h.block⟩

/-- What a law is told of a list of ints that came in. -/
def ArgInts (w : World) (A : Option Addr) (zs : List Int) : Prop := RdInts w A zs ∧ (∀ z ∈ zs, -9223372036854775808 ≤ z ∧ z ≤ 9223372036854775807) ∧ zs.length ≤ 9223372036854775807
theorem argInts_nil (w : World) : ArgInts w none [] := ⟨fun h => absurd h (by simp), by simp, by simp⟩
/-- Out of the row that a slice argument leads to: the numbers that it holds. -/
theorem argInts_row {w : World} {x : Addr} {len cap : Nat} {zs : List Int} (hl : len ≤ cap) (hm : cap ≤ maxLen) (hz : zs.length = cap) (hcell : ∀ i, i < zs.length → w.cell? (x.add i) = some (.int .i64 (zs.getD i 0))) (hwz : ∀ n ∈ zs, (Lit.int .i64 n).wf = true) :
    ∃ ys : List Int, ys.length = len ∧ ArgInts w (some x) ys := by
  unfold maxLen at hm
  refine ⟨zs.take len, by simp; omega, fun hp => ?_, fun z hzm => ?_, by simp; omega⟩
  · have hlen : (zs.take len).length = len := by simp; omega
    obtain ⟨b, off, spot⟩ := x
    have hc := hcell 0 (by omega)
    have hspot : spot = none := by simpa [Addr.add] using World.cell?_spot hc
    subst hspot
    refine ⟨b, off, rfl, ?_, fun k hk => ?_⟩
    · rcases Nat.lt_or_ge b w.heap.size with h | h
      · exact h
      · simp [Addr.add, World.cell?, Array.getElem?_eq_none h] at hc
    · have h1 := hcell k (by omega)
      rw [Addr.add_lit] at h1
      rw [h1]
      simp [List.getD, show k < len by omega]
  · have := hwz z (List.mem_of_mem_take hzm)
    simp [Lit.wf, IntKind.min, IntKind.max, IntKind.signed, IntKind.bits] at this
    omega

/-- What a call that hands back a new list of ints and a bool leaves. -/
def NewIntsB (w : World) (zs : List Int) (b : Bool) (e : Ending) (w' : World) : Prop :=
  ∃ g c, e = .returned (.tuple #[.slice (some ⟨g, 0, none⟩) zs.length c, .bool b]) ∧ Own w' w.heap.size g c zs ∧ Below w.heap.size w w'

/-- An owned row of m ints, m a number of its own. -/
def OwnM (w : World) (base g c m : Nat) (zs : List Int) : Prop := OwnV w base 3 1 g c m (zs.map (Value.int .i64))
theorem OwnM.len {w : World} {base g c m : Nat} {zs : List Int} (h : OwnM w base g c m zs) : m = zs.length := by
  have := (OwnV.parts h).1
  simpa using this.symm
theorem OwnM.own {w : World} {base g c m : Nat} {zs : List Int} (h : OwnM w base g c m zs) : Own w base g c zs := by
  have := h.len
  subst this
  exact h
theorem OwnM.le {w : World} {base g c m : Nat} {zs : List Int} (h : OwnM w base g c m zs) : base ≤ g := OwnV.le h
theorem OwnM.lt {w : World} {base g c m : Nat} {zs : List Int} (h : OwnM w base g c m zs) : g < w.heap.size := OwnV.lt h
theorem ownM_empty (w : World) (base : Nat) (hb : base ≤ w.heap.size) : OwnM (w.alloc (.cells #[] 3)) base w.heap.size 0 0 [] := OwnV.lit #[] hb (by unfold maxLen; omega) rfl
theorem own_empty (w : World) (base : Nat) (hb : base ≤ w.heap.size) : Own (w.alloc (.cells #[] 3)) base w.heap.size 0 [] := ownM_empty w base hb
theorem below_new (w : World) (o : Obj) : Below w.heap.size w (w.alloc o) := (Below.refl _ _).alloc (Nat.le_refl _) o
theorem below_new' {w0 w : World} (h : Below w0.heap.size w0 w) (o : Obj) : Below w0.heap.size w0 (w.alloc o) := h.alloc h.size o
theorem below_app {w0 w w' : World} {g : Nat} (hbel : Below w0.heap.size w0 w) (hg : w.grownBy w' (some g)) (hB : w0.heap.size ≤ g) : Below w0.heap.size w0 w' :=
  hbel.grown hg hbel.size (fun k hk => by injection hk with hk; omega)

/-- 'append(out, x)' onto an owned row of ints. -/
theorem wpList_app1i {ops : Array Oper} {rest : List Oper} {o : Oper} {a : Act} {Q : Exit → Act → World → Prop} (hgd : o.guard = none) (s x : Operand)
    (ho : o.op = .call { callee := .builtin .append, args := #[s, x], argTypes := #[24, 24] }) (w : World) {base g c m : Nat} {zs : List Int} {z : Int} (hs : a.eval s = .slice (some ⟨g, 0, none⟩) m c)
    (hown : OwnM w base g c m zs) (hx : a.eval x = .slice (some ⟨w.heap.size, 0, none⟩) 1 1) (hm : m ≤ 1099511627776)
    (h : ∀ g' c' w', OwnM w' base g' c' (m + 1) (zs ++ [z]) → w.grownBy w' (some g) → (g' = g ∨ w.heap.size < g') → wpList Try.prog ops Q rest (a.put o.dst (.slice (some ⟨g', 0, none⟩) (m + 1) c')) w') :
    wpList Try.prog ops Q (o :: rest) a (w.alloc (.cells #[.int .i64 z] 3)) := by
  refine wpList_app1 slInt hgd s x ho w hs hown hx rfl (by simp [Value.oneCell']) (by unfold maxLen; omega) (by omega) ?_
  intro g' c' w' h1 h2 h3
  refine h g' c' w' ?_ h2 h3
  unfold OwnM
  simpa using h1

/-- 'append(out, src...)' of ints. -/
theorem wpList_appi {ops : Array Oper} {rest : List Oper} {o : Oper} {a : Act} {Q : Exit → Act → World → Prop} (hgd : o.guard = none) (s x : Operand)
    (ho : o.op = .call { callee := .builtin .append, args := #[s, x], argTypes := #[24, 24] }) (w : World) {base g c m b off d : Nat} {zs ys : List Int} (hs : a.eval s = .slice (some ⟨g, 0, none⟩) m c)
    (hown : OwnM w base g c m zs) (hx : a.eval x = .slice (some ⟨b, off, none⟩) ys.length d) (hat : AtInts w b off ys) (hm : m + ys.length ≤ 1099511627776)
    (h : ∀ g' c' w', OwnM w' base g' c' (m + ys.length) (zs ++ ys) → w.grownBy w' (some g) → (g' = g ∨ g' = w.heap.size) → wpList Try.prog ops Q rest (a.put o.dst (.slice (some ⟨g', 0, none⟩) (m + ys.length) c')) w') :
    wpList Try.prog ops Q (o :: rest) a w := by
  refine wpList_app slInt hgd s x ho w hs hown hx (news := ys.map (Value.int .i64)) (by simp) ?_ (ints_oneCell _ _) (by unfold maxLen; omega) (by omega) ?_
  · intro j u hu
    have hj := (List.getElem?_eq_some_iff.1 hu).1
    simp at hj
    rw [Addr.add_lit, hat j hj]
    simp [hj] at hu
    simp [hj, hu]
  · intro g' c' w' h1 h2 h3
    refine h g' c' w' ?_ h2 h3
    unfold OwnM
    simpa using h1

theorem fill_set (zs : List Int) (k : Nat) (hk : k < zs.length) :
    (zs.take k ++ List.replicate (zs.length - k) 0).set k (zs.getD k 0) = zs.take (k + 1) ++ List.replicate (zs.length - (k + 1)) 0 := by
  apply List.ext_getElem?
  intro j
  simp only [List.getElem?_set, List.getElem?_append, List.length_take, List.getElem?_take, List.length_append, List.length_replicate, List.getElem?_replicate]
  have hm : min k zs.length = k := by omega
  have hm' : min (k + 1) zs.length = k + 1 := by omega
  rw [hm, hm']
  by_cases h1 : k = j
  · subst h1
    simp [hk]
    omega
  · by_cases h2 : j < k
    · simp [h1, h2, show j < k + 1 by omega]
    · by_cases h3 : j < zs.length
      · simp [h1, h2, show ¬ j < k + 1 by omega, show j - k < zs.length - k by omega, show j - (k + 1) < zs.length - (k + 1) by omega]
      · simp [h1, h2, show ¬ j < k + 1 by omega, show ¬ j - k < zs.length - k by omega, show ¬ j - (k + 1) < zs.length - (k + 1) by omega]


theorem take_eq_succ {xs ys : List Int} {k : Nat} (ha : k < xs.length) (hb : k < ys.length) (h : xs.take k = ys.take k) (hk : xs.getD k 0 = ys.getD k 0) : xs.take (k + 1) = ys.take (k + 1) := by
  rw [List.take_succ_eq_append_getElem ha, List.take_succ_eq_append_getElem hb, h]
  simp [List.getD, ha, hb] at hk
  rw [hk]
theorem ne_of_at {xs ys : List Int} {k : Nat} (hk : xs.getD k 0 ≠ ys.getD k 0) : xs ≠ ys := by rintro rfl; exact hk rfl

set_option maxHeartbeats 400000 in
theorem eqIntS_any (b off c b' off' c' : Nat) (xs ys : List Int) (w : World) (hn : xs.length ≤ 9223372036854775807) (hn' : ys.length ≤ 9223372036854775807) (ha : AtInts w b off xs) (hb : AtInts w b' off' ys) :
    Calls Try.prog 38 #[.slice (some ⟨b, off, none⟩) xs.length c, .slice (some ⟨b', off', none⟩) ys.length c'] w fun e w' => e = .returned (.bool (decide (xs = ys))) ∧ ∃ n, w' = w.drewN n := by
  generalize hr : decide (xs = ys) = r
  have HR := Lib.hid hr
  have HA := Lib.hid ha
  have HB := Lib.hid hb
  clear ha hb hr
  by_cases hl : xs.length = ys.length
  · have t0 := bne_f (show (xs.length : Int) = (ys.length : Int) by omega)
    have HL := Lib.hid hl
    have hl1 : xs.length ≤ ys.length := by omega
    have hl2 : ys.length ≤ xs.length := by omega
    clear hl
    go_enter Try.func38, Try.ntmps38
    go_wp2
    go_loopw [5] (fun i wr => ∃ k n : Nat, k ≤ xs.length ∧ i = .int .i64 k ∧ xs.take k = ys.take k ∧ wr = w.drewN n) (fun i _ => xs.length - (intOf i).toNat)
    case atStart => exact ⟨0, 0, Nat.zero_le _, rfl, rfl, rfl⟩
    case round =>
      obtain ⟨k, n, hk, rfl, hp, rfl⟩ := hrel
      have HP := Lib.hid hp
      clear hp
      by_cases hlt : k < xs.length
      · have hc1 := HA.out.at k hlt
        have hc2 := HB.out.at k (by omega)
        have i1 : (k : Int) < (xs.length : Int) := by omega
        have i2 : (k : Int) < (ys.length : Int) := by omega
        obtain ⟨x, hx⟩ : ∃ x, xs.getD k 0 = x := ⟨_, rfl⟩
        obtain ⟨y, hy⟩ : ∃ y, ys.getD k 0 = y := ⟨_, rfl⟩
        rw [hx] at hc1
        rw [hy] at hc2
        have HX := Lib.hid hx
        have HY := Lib.hid hy
        clear hx hy
        by_cases hxy : x = y
        · have t1 := bne_f hxy
          have HXY := Lib.hid hxy
          clear hxy
          go_wp2
          go_quiet (fail)
          go_wp2
          go_roundw
          case rel => exact ⟨k + 1, _, by omega, by go_num, take_eq_succ hlt (by omega) HP.out (by rw [HX.out, HY.out, HXY.out]), rfl⟩
          case measure => simp [intOf]; omega
        · have t1 := bne_t hxy
          have HXY := Lib.hid hxy
          clear hxy
          go_wp2
          go_quiet (fail)
          go_wp2
          go_ret
          exact ⟨ret_bool (by rw [← HR.out]; exact (dec_f (ne_of_at (k := k) (by rw [HX.out, HY.out]; exact HXY.out))).symm), _, World.drewN_drewN _ _ _⟩
      · go_wp2
        go_ret
        refine ⟨ret_bool ?_, _, rfl⟩
        rw [← HR.out]
        have := HP.out
        rw [List.take_of_length_le (by omega), List.take_of_length_le (by omega)] at this
        exact (dec_t this).symm
  · have t0 := bne_t (show (xs.length : Int) ≠ (ys.length : Int) by omega)
    have HL := Lib.hid hl
    clear hl
    go_enter Try.func38, Try.ntmps38
    go_wp2
    go_ret
    exact ⟨ret_bool (by rw [← HR.out]; exact (dec_f (fun h => HL.out (by rw [h]))).symm), 0, rfl⟩

theorem eqIntS_same (b off c b' off' c' : Nat) (zs : List Int) (w : World) (hn : zs.length ≤ 9223372036854775807) (ha : AtInts w b off zs) (hb : AtInts w b' off' zs) :
    Calls Try.prog 38 #[.slice (some ⟨b, off, none⟩) zs.length c, .slice (some ⟨b', off', none⟩) zs.length c'] w fun e w' => e = .returned (.bool true) ∧ Qt w w' :=
  (eqIntS_any b off c b' off' c' zs zs w hn hn ha hb).mono fun e w' ⟨he, hq⟩ => ⟨by rw [he]; simp, hq⟩

/-- The numbers k, k+1, .., as many as n. -/
def marks (k : Int) : Nat → List Int
  | 0 => []
  | n + 1 => k :: marks (k + 1) n
theorem marks_length (n : Nat) : ∀ k, (marks k n).length = n := by
  induction n with
  | zero => intro k; rfl
  | succ n ih => intro k; simp [marks, ih]
theorem marks_get (n : Nat) : ∀ (k : Int) (j : Nat), j < n → (marks k n).getD j 0 = k + j := by
  induction n with
  | zero => intro k j h; omega
  | succ n ih =>
    intro k j h
    cases j with
    | zero => simp [marks]
    | succ j => 
      have := ih (k + 1) j (by omega)
      simp only [marks, List.getD_cons_succ, this]
      omega
theorem mark_set (n : Nat) : ∀ (zs : List Int) (k : Int) (j : Nat), zs.length = n → j < n → (marks k j ++ zs.drop j).set j (k + j) = marks k (j + 1) ++ zs.drop (j + 1) := by
  intro zs k j hn hj
  apply List.ext_getElem?
  intro i
  have hget : ∀ m t : Nat, (marks k m)[t]? = if t < m then some (k + t) else none := by
    intro m t
    by_cases h : t < m
    · have h1 := marks_get m k t h
      rw [if_pos h, List.getElem?_eq_getElem (by rw [marks_length]; exact h)]
      simp [List.getD, marks_length, h] at h1
      rw [h1]
    · rw [if_neg h]; simp [marks_length]; omega
  simp only [List.getElem?_set, List.getElem?_append, marks_length, hget, List.length_append, List.length_drop, List.getElem?_drop]
  by_cases h1 : j = i
  · subst h1
    simp
    omega
  · by_cases h2 : i < j
    · simp [h1, h2, show i < j + 1 by omega]
    · simp [h1, h2, show ¬ i < j + 1 by omega, show j + (i - j) = i by omega, show j + 1 + (i - (j + 1)) = i by omega]

/-- What markIntS leaves: the marks in the row, nothing else in memory turned. -/
def Marked (w : World) (base g c : Nat) (n : Nat) (k : Int) (e : Ending) (w' : World) : Prop :=
  e = .returned (.int .i64 (k + n)) ∧ Own w' base g c (marks k n) ∧ w.grownBy w' (some g) ∧ w'.heap.size = w.heap.size

set_option maxHeartbeats 400000 in
theorem markIntS_any (base g c : Nat) (zs : List Int) (k : Int) (w : World) (hn : zs.length ≤ 1099511627776) (hk : 0 ≤ k) (hk' : k ≤ 1099511627776) (ho : Own w base g c zs) :
    Calls Try.prog 40 #[.slice (some ⟨g, 0, none⟩) zs.length c, .int .i64 k] w (Marked w base g c zs.length k) := by
  have HO := Lib.hid ho
  clear ho
  go_enter Try.func40, Try.ntmps40
  go_wp2
  go_loopw [1, 5] (fun q i wr => ∃ j : Nat, j ≤ zs.length ∧ i = .int .i64 j ∧ q = .int .i64 (k + j) ∧ OwnV wr base 3 1 g c zs.length ((marks k j ++ zs.drop j).map (Value.int .i64)) ∧ w.grownBy wr (some g) ∧ wr.heap.size = w.heap.size) (fun _ i _ => zs.length - (intOf i).toNat)
  case atStart => exact ⟨0, Nat.zero_le _, rfl, by simp, HO.out, World.grownBy.refl _ _, rfl⟩
  case round =>
    obtain ⟨j, hj, rfl, rfl, hown, hgr, hsz⟩ := hrel
    have HG := Lib.hid hgr
    have HZ := Lib.hid hsz
    clear hgr hsz
    by_cases hlt : j < zs.length
    · have hc := hown.cell j (by omega)
      have hj' : ((marks k j ++ zs.drop j).map (Value.int .i64))[j]? = some (.int .i64 (zs.getD j 0)) := by
        simp [List.getElem?_append, marks_length, hlt]
      rw [hj'] at hc
      obtain ⟨x, hx⟩ : ∃ x, zs.getD j 0 = x := ⟨_, rfl⟩
      rw [hx] at hc
      clear hj' hx
      have hf := hown.frozen j
      have hst := hown.store j (.int .i64 (k + j))
      rw [← List.map_set, mark_set _ zs k j rfl hlt] at hst
      have HS := Lib.hid hst
      clear hst hown
      go_wp2
      go_roundw
      case rel => exact ⟨j + 1, by omega, by go_num, by go_num, HS.out, grownBy_trans HG.out ⟨rfl, rfl, rfl, by simp, fun i _ hne => Below.heap_setCell _ _ _ _ (fun e => hne (by rw [e]))⟩, by simpa using HZ.out⟩
      case measure => simp [intOf]; omega
    · go_wp2
      go_ret
      have e : marks k j ++ zs.drop j = marks k zs.length := by
        rw [List.drop_of_length_le (by omega), show j = zs.length by omega]; simp
      refine ⟨ret_int (by omega), ?_, HG.out, HZ.out⟩
      rw [e] at hown
      unfold Own
      rw [marks_length]
      exact hown

set_option maxHeartbeats 400000 in
theorem heldIntS_any (g off c n : Nat) (k : Int) (w : World) (hn : n ≤ 1099511627776) (hk : 0 ≤ k) (hk' : k ≤ 1099511627776) (ho : AtInts w g off (marks k n)) :
    Calls Try.prog 41 #[.slice (some ⟨g, off, none⟩) n c, .int .i64 k] w fun e w' => e = .returned (.int .i64 (k + n)) ∧ w = w' := by
  have HO := Lib.hid ho
  clear ho
  go_enter Try.func41, Try.ntmps41
  go_wp2
  go_loop [1, 5] (fun q i => ∃ j : Nat, j ≤ n ∧ i = .int .i64 j ∧ q = .int .i64 (k + j)) (fun _ i => n - (intOf i).toNat)
  case atStart => exact ⟨0, Nat.zero_le _, rfl, by simp⟩
  case round =>
    obtain ⟨j, hj, rfl, rfl⟩ := hrel
    by_cases hlt : j < n
    · have hc := HO.out j (by rw [marks_length]; exact hlt)
      rw [marks_get n k j hlt] at hc
      have t0 := bne_f (show (k + j : Int) = k + j from rfl)
      go_wp2
      go_round
      case rel => exact ⟨j + 1, by omega, by go_num, by go_num⟩
      case measure => simp [intOf]; omega
    · go_wp2
      go_ret
      exact ⟨ret_int (by omega), rfl⟩


end Go.Proofs.Ytebejpaghajhkaa
