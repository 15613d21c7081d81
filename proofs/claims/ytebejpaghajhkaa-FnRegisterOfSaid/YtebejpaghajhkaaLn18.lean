/-
  Lines: LineMoves of the reference: some moves. No condition.
-/
import Derived.Test.YtebejpaghajhkaaLn15
import Derived.Test.YtebejpaghajhkaaLn16
namespace Go.Proofs.Ytebejpaghajhkaa
open Go.RowKit
set_option linter.unusedVariables false
set_option linter.unusedSimpArgs false

/-- A move: section, letter. -/
abbrev MV := Int × ByteArray
abbrev Z2m : MV := (0, ByteArray.empty)
def mcells : List MV → List Value
  | [] => []
  | b :: bs => .int .i64 b.1 :: .string b.2 :: mcells bs
theorem mcells_length (bs : List MV) : (mcells bs).length = bs.length * 2 := by
  induction bs with
  | nil => rfl
  | cons b bs ih => simp [mcells, ih]; omega
theorem mcells_app (xs ys : List MV) : mcells (xs ++ ys) = mcells xs ++ mcells ys := by
  induction xs with
  | nil => rfl
  | cons b bs ih => simp [mcells, ih]
theorem mcells_get (bs : List MV) : ∀ k, k < bs.length → (mcells bs)[k * 2]? = some (.int .i64 (bs.getD k Z2m).1) ∧ (mcells bs)[k * 2 + 1]? = some (.string (bs.getD k Z2m).2) := by
  induction bs with
  | nil => intro k hk; simp at hk
  | cons b bs ih =>
    intro k hk
    cases k with
    | zero => simp [mcells]
    | succ k =>
      have := ih k (by simpa using hk)
      rw [show (k + 1) * 2 = k * 2 + 1 + 1 by omega]
      simpa [mcells] using this
theorem slMv : SlT 23 74 2 24 (.agg #[.int .i64 0, .string ByteArray.empty]) := ⟨Try.underlying23, info_parts (by kernel_rfl), rfl, by decide⟩
/-- Moves in memory. -/
def AtMv (w : World) (g off : Nat) (ms : List MV) : Prop := ∀ k, k < ms.length → w.cell? ⟨g, off + k * 2, none⟩ = some (.int .i64 (ms.getD k Z2m).1) ∧ w.cell? ⟨g, off + k * 2 + 1, none⟩ = some (.string (ms.getD k Z2m).2)
def OwnMv (w : World) (base g c m : Nat) (ms : List MV) : Prop := OwnV w base 74 2 g c m (mcells ms)
theorem OwnMv.len {w : World} {base g c m : Nat} {ms : List MV} (h : OwnMv w base g c m ms) : m = ms.length := by
  have := (OwnV.parts h).1
  rw [mcells_length] at this
  omega
theorem OwnMv.at {w : World} {base g c m : Nat} {ms : List MV} (h : OwnMv w base g c m ms) : AtMv w g 0 ms := by
  intro k hk
  have hm := h.len
  subst hm
  obtain ⟨h0, h1⟩ := mcells_get ms k hk
  rw [Nat.zero_add]
  exact ⟨(OwnV.cell h (k * 2) (by omega)).trans h0, (OwnV.cell h (k * 2 + 1) (by omega)).trans h1⟩
theorem AtMv.below {w w' : World} {B g off : Nat} {ms : List MV} (h : AtMv w g off ms) (hb : Below B w w') (hl : g < B) : AtMv w' g off ms := fun k hk =>
  ⟨(hb.cell (p := ⟨g, off + k * 2, none⟩) hl).trans (h k hk).1, (hb.cell (p := ⟨g, off + k * 2 + 1, none⟩) hl).trans (h k hk).2⟩
/-- Every move has a short letter and can be done. -/
def Short (bs : List BV) (ts : List Int) (ms : List MV) : Prop := ∀ k, k < ms.length → (ms.getD k Z2m).2.size ≤ 8 ∧ stepV bs ts (ms.getD k Z2m).1 (ms.getD k Z2m).2 ≠ none
theorem Short.snoc {bs : List BV} {ts : List Int} {ms : List MV} {x : MV} (h : Short bs ts ms) (hx : x.2.size ≤ 8) (hs : stepV bs ts x.1 x.2 ≠ none) : Short bs ts (ms ++ [x]) := by
  intro k hk
  simp only [List.length_append, List.length_cons, List.length_nil] at hk
  by_cases e : k < ms.length
  · have := h k e
    rw [List.getD_eq_getElem?_getD, List.getElem?_append_left e]
    rwa [List.getD_eq_getElem?_getD] at this
  · have : k = ms.length := by omega
    subst this
    have e2 : (ms ++ [x]).getD ms.length Z2m = x := by simp [List.getD]
    rw [e2]
    exact ⟨hx, hs⟩
/-- What a call that hands back some moves leaves. -/
def SomeMv (w : World) (bs : List BV) (ts : List Int) (e : Ending) (w' : World) : Prop := ∃ (ms : List MV) (g c : Nat), e = .returned (.slice (some ⟨g, 0, none⟩) ms.length c) ∧ OwnMv w' w.heap.size g c ms.length ms ∧ Short bs ts ms ∧ ms.length ≤ 35 ∧ Below w.heap.size w w'

theorem LnAt.belowB {W W' : World} {B L b c t c' : Nat} {bs : List BV} {ts : List Int} (h : LnAt W L b c t c' bs ts) (k : Below B W W') (hL : L < B) (hb : b < B) (ht : t < B) : LnAt W' L b c t c' bs ts :=
  ⟨h.1.below k hL, h.2.1.below k hb, h.2.2.1.below k ht, Nat.lt_of_lt_of_le h.2.2.2.1 k.size, Nat.lt_of_lt_of_le h.2.2.2.2 k.size⟩
theorem ext_size (i : Nat) (h : i < 7) : (ByteArray.extract ⟨#[97, 99, 101, 102, 108, 111, 114]⟩ i (i + 1)).size = 1 := by
  rcases (show i = 0 ∨ i = 1 ∨ i = 2 ∨ i = 3 ∨ i = 4 ∨ i = 5 ∨ i = 6 by omega) with rfl | rfl | rfl | rfl | rfl | rfl | rfl <;> decide
set_option maxHeartbeats 3200000 in
theorem specMoves_any (b c t c' : Nat) (bs : List BV) (ts : List Int) (w : World) (hn : bs.length ≤ 1048576) (hm : ts.length ≤ 1048576) (hb : b < w.heap.size) (ht : t < w.heap.size) (ha : AtBl w b 0 bs) (hi : AtInts w t 0 ts) :
    Calls Try.prog 80 #[.agg #[.slice (some ⟨b, 0, none⟩) bs.length c, .slice (some ⟨t, 0, none⟩) ts.length c']] w (SomeMv w bs ts) := by
  have hL := LnAt.new (c := c) (c' := c') hb ht ha hi
  have BW := below_new w (.cells #[.slice (some ⟨b, 0, none⟩) bs.length c, .slice (some ⟨t, 0, none⟩) ts.length c'] 68)
  have S1 : Hid (Below w.heap.size w ((w.alloc (.cells #[.slice (some ⟨b, 0, none⟩) bs.length c, .slice (some ⟨t, 0, none⟩) ts.length c'] 68)).alloc (.cells #[] 74)) ∧ LnAt ((w.alloc (.cells #[.slice (some ⟨b, 0, none⟩) bs.length c, .slice (some ⟨t, 0, none⟩) ts.length c'] 68)).alloc (.cells #[] 74)) w.heap.size b c t c' bs ts ∧ OwnMv ((w.alloc (.cells #[.slice (some ⟨b, 0, none⟩) bs.length c, .slice (some ⟨t, 0, none⟩) ts.length c'] 68)).alloc (.cells #[] 74)) (w.heap.size + 1) (w.heap.size + 1) 0 0 []) := Lib.hid ⟨below_new' BW _, hL.below (below_new _ _), by
    have := OwnV.lit (w := w.alloc (.cells #[.slice (some ⟨b, 0, none⟩) bs.length c, .slice (some ⟨t, 0, none⟩) ts.length c'] 68)) (base := w.heap.size + 1) (e := 74) (size := 2) (n := 0) #[] (by simp) (by unfold maxLen; omega) rfl
    unfold OwnMv
    simpa [mcells] using this⟩
  have hvl := fun W (h : LnAt W w.heap.size b c t c' bs ts) => specValid_any b c t c' bs ts W hn hm h.2.2.2.1 h.2.2.2.2 h.2.1 h.2.2.1
  have HST : Hid (∀ W W', (Below w.heap.size w W ∧ LnAt W w.heap.size b c t c' bs ts) → Below W.heap.size W W' → (Below w.heap.size w W' ∧ LnAt W' w.heap.size b c t c' bs ts)) := Lib.hid fun W W' h k => ⟨below_to h.1 k h.1.size, h.2.below k⟩
  have BL := Lib.hid hb
  have TL := Lib.hid ht
  clear hL BW ha hi hb ht
  by_cases hV : lineB bs ts = true
  · obtain ⟨h1, h2, h3, _⟩ := lineB_iff.1 hV
    rw [hV] at hvl
    have HVL := Lib.hid hvl
    have hl4 := fun (k : Nat) (s : ByteArray) W (hs : s.size ≤ 9223372036854775807) (h : LnAt W w.heap.size b c t c' bs ts) => l4Step_any b c t c' bs ts (k : Int) s W h1.2 h3 hs h.2.2.2.1 h.2.2.2.2 h.2.1 h.2.2.1
    have HL4 := Lib.hid hl4
    have HVV := Lib.hid hV
    clear hV hvl hl4 h2
    go_enter Try.func80, Try.ntmps80
    go_wp2_with fail
    generalize (w.alloc (.cells #[.slice (some ⟨b, 0, none⟩) bs.length c, .slice (some ⟨t, 0, none⟩) ts.length c'] 68)).alloc (.cells #[] 74) = W1 at *
    go_loopw [3, 5, 6, 7, 8, 9] (fun out k _ _ _ _ wr => ∃ (kk : Nat) (ms : List MV) (g d : Nat), kk ≤ bs.length ∧ k = .int .i64 kk ∧ out = .slice (some ⟨g, 0, none⟩) ms.length d ∧ OwnMv wr (w.heap.size + 1) g d ms.length ms ∧ Short bs ts ms ∧ ms.length ≤ kk * 7 ∧ (Below w.heap.size w wr ∧ LnAt wr w.heap.size b c t c' bs ts)) (fun _ k _ _ _ _ _ => bs.length - (intOf k).toNat)
    case atStart => exact ⟨0, [], w.heap.size + 1, 0, Nat.zero_le _, rfl, rfl, S1.out.2.2, fun k h => absurd h (by simp), by simp, S1.out.1, S1.out.2.1⟩
    case round =>
      obtain ⟨kk, ms, g, d, hk, rfl, rfl, hown, hsh, hml, hS⟩ := hrel
      have S2 := Lib.hid hS
      have c0 := hS.2.cell0
      have c1 := hS.2.cell1
      have O2 := Lib.hid hown
      have H2 := Lib.hid hsh
      clear hS hown hsh
      by_cases hlt : kk < bs.length
      · have i1 : (kk : Int) < (bs.length : Int) := by omega
        go_wp2_with (go_at_call 93; go_must (go_fit (HVL.out _ S2.out.2); rintro e w3 ⟨rfl, hb3⟩; have S3 := Lib.hid (HST.out _ _ S2.out hb3); have O3 : Hid (OwnMv w3 (w.heap.size + 1) g d ms.length ms) := OwnV.below O2.out hb3 O2.out.lt; clear hb3))
        clear c0 c1 S2 O2
        generalize wr = wo at *
        go_loopw [3, 6, 7, 8, 9] (fun out i _ _ _ wr => ∃ (ii : Nat) (ms : List MV) (g d : Nat), ii ≤ 7 ∧ i = .int .i64 ii ∧ out = .slice (some ⟨g, 0, none⟩) ms.length d ∧ OwnMv wr (w.heap.size + 1) g d ms.length ms ∧ Short bs ts ms ∧ ms.length ≤ kk * 7 + ii ∧ (Below w.heap.size w wr ∧ LnAt wr w.heap.size b c t c' bs ts)) (fun _ i _ _ _ _ => 7 - (intOf i).toNat)
        case atStart => exact ⟨0, ms, g, d, Nat.zero_le _, rfl, rfl, O3.out, H2.out, hml, S3.out⟩
        case round =>
          clear S3 O3 H2 hml
          obtain ⟨ii, ms, g, d, hi7, rfl, rfl, hown, hsh, hml, hS⟩ := hrel
          have S4 := Lib.hid hS
          have O4 := Lib.hid hown
          have H4 := Lib.hid hsh
          clear hown hsh
          by_cases hlt7 : ii < 7
          · have i2 : (ii : Int) < 7 := by omega
            have i3 : (ii : Int) + 1 ≤ 7 := by omega
            obtain ⟨s, hs⟩ : ∃ s, ByteArray.extract ⟨#[97, 99, 101, 102, 108, 111, 114]⟩ ii (ii + 1) = s := ⟨_, rfl⟩
            have hsz := ext_size ii hlt7
            rw [hs] at hsz
            have HSZ := Lib.hid hsz
            clear hsz
            have S5 := Lib.hid (HST.out _ _ hS (below_new wr (.cells #[.int .i64 (kk : Int), .string s] 74)))
            have K5 := Lib.hid (Blk.new wr 74 #[.int .i64 (kk : Int), .string s])
            have B5 := Lib.hid (Nat.le_of_lt (show wr.heap.size < (wr.alloc (.cells #[.int .i64 (kk : Int), .string s] 74)).heap.size by simp))
            have O5 : Hid (OwnMv (wr.alloc (.cells #[.int .i64 (kk : Int), .string s] 74)) (w.heap.size + 1) g d ms.length ms) := OwnV.alloc O4.out _
            clear hS S4 O4
            go_upto_region 10 with fail
            generalize hW5 : wr.alloc (.cells #[.int .i64 (kk : Int), .string s] 74) = W5 at *
            clear hW5 hs
            have d0 := S5.out.2.cell0
            have d1 := S5.out.2.cell1
            obtain ⟨x0, x1, _, _⟩ := blkCells2 K5.out
            have hl4 := fun W h => HL4.out kk s W (by have := HSZ.out; omega) h
            obtain ⟨o, ho⟩ : ∃ o, stepI bs ts (kk : Int) s = o := ⟨_, rfl⟩
            rw [ho] at hl4
            have HO : Hid (stepV bs ts (kk : Int) s = o) := Lib.hid (by unfold stepV; rw [if_pos HVV.out]; exact ho)
            have HL := Lib.hid hl4
            clear hl4 ho
            cases o
            case none =>
              unfold StepO at HL
              simp only at HL
              go_wp2_with (go_at_call 94; go_must (go_fit (HL.out _ S5.out.2); rintro e w6 ⟨rfl, hb6⟩; have S6 := Lib.hid (HST.out _ _ S5.out hb6); have O6 : Hid (OwnMv w6 (w.heap.size + 1) g d ms.length ms) := OwnV.below O5.out hb6 O5.out.lt; clear hb6))
              go_roundw
              case rel => exact ⟨ii + 1, ms, g, d, by omega, by go_num, rfl, OwnV.alloc O6.out _, H4.out, by omega, HST.out _ _ S6.out (below_new _ _)⟩
              case measure => simp [intOf]; omega
            case some p =>
              unfold StepO at HL
              simp only at HL
              go_upto_region 12 with (go_at_call 94; go_must (go_fit (HL.out _ S5.out.2); rintro e w6 ⟨h, f, h', f', rfl, _, _, _, hb6⟩; have S7 := Lib.hid (HST.out _ _ (HST.out _ _ S5.out hb6) (below_new w6 (.cells #[.slice (some ⟨h, 0, none⟩) p.1.length f, .slice (some ⟨h', 0, none⟩) p.2.length f'] 68))); have O7 : Hid (OwnMv (w6.alloc (.cells #[.slice (some ⟨h, 0, none⟩) p.1.length f, .slice (some ⟨h', 0, none⟩) p.2.length f'] 68)) (w.heap.size + 1) g d ms.length ms) := OwnV.alloc (OwnV.below O5.out hb6 O5.out.lt) _; have K7 := Lib.hid ((K5.out.below hb6 K5.out.lt).alloc (.cells #[.slice (some ⟨h, 0, none⟩) p.1.length f, .slice (some ⟨h', 0, none⟩) p.2.length f'] 68)); clear hb6))
              generalize w6.alloc (.cells #[.slice (some ⟨h, 0, none⟩) p.1.length f, .slice (some ⟨h', 0, none⟩) p.2.length f'] 68) = W7 at *
              clear d0 d1 x0 x1
              obtain ⟨y0, y1, _, _⟩ := blkCells2 K7.out
              go_wp2_with (at_builtin; refine wpList_app1 slMv rfl (.tmp 42) (.tmp 44) rfl _ rfl O7.out rfl rfl (by simp [Value.oneCell']) (by unfold maxLen; omega) (by omega) ?_; intro g9 c9 w9 hown9 hg9 hat9)
              have S9 := Lib.hid (show Below w.heap.size w w9 ∧ LnAt w9 w.heap.size b c t c' bs ts from ⟨below_app S7.out.1 hg9 (by have := OwnV.le O7.out; omega), S7.out.2.belowB (below_of_grown hg9 S7.out.2.1.lt (by have := OwnV.le O7.out; omega)) (by omega) (by have := BL.out; omega) (by have := TL.out; omega)⟩)
              go_roundw
              case rel => exact ⟨ii + 1, ms ++ [((kk : Int), s)], g9, c9, by omega, by go_num, by simp, by unfold OwnMv; rw [mcells_app]; simpa [mcells] using hown9, H4.out.snoc (by have := HSZ.out; show s.size ≤ 8; omega) (by show stepV bs ts (kk : Int) s ≠ none; rw [HO.out]; exact fun h => by cases h), by simp; omega, S9.out⟩
              case measure => simp [intOf]; omega
          · have hi : ii = 7 := by omega
            subst hi
            go_wp2_with fail
            go_roundw
            case rel => exact ⟨kk + 1, ms, g, d, by omega, by go_num, rfl, O4.out, H4.out, by omega, S4.out⟩
            case measure => simp [intOf]; omega
      · have hke : kk = bs.length := by omega
        subst hke
        go_wp2_with fail
        go_ret
        exact ⟨ms, g, d, rfl, OwnV.mono O2.out (by have := OwnV.le O2.out; omega), H2.out, by omega, S2.out.1⟩
  · have hV' : lineB bs ts = false := by simpa using hV
    rw [hV'] at hvl
    have HVL := Lib.hid hvl
    clear hV hV' hvl
    go_enter Try.func80, Try.ntmps80
    go_wp2_with fail
    generalize (w.alloc (.cells #[.slice (some ⟨b, 0, none⟩) bs.length c, .slice (some ⟨t, 0, none⟩) ts.length c'] 68)).alloc (.cells #[] 74) = W1 at *
    have c0 := S1.out.2.1.cell0
    have c1 := S1.out.2.1.cell1
    go_loopw [3, 5, 6, 7, 8, 9] (fun out k _ _ _ _ wr => k = .int .i64 0 ∧ out = .slice (some ⟨w.heap.size + 1, 0, none⟩) 0 0 ∧ wr = W1) (fun _ k _ _ _ _ _ => 0)
    case atStart => exact ⟨rfl, rfl, rfl⟩
    case round =>
      obtain ⟨rfl, rfl, rfl⟩ := hrel
      by_cases hlt : 0 < bs.length
      · have i1 : (0 : Int) < (bs.length : Int) := by omega
        go_wp2_with (go_at_call 93; go_must (go_fit (HVL.out _ S1.out.2.1); rintro e w3 ⟨rfl, hb3⟩; have S3 := Lib.hid (HST.out _ _ ⟨S1.out.1, S1.out.2.1⟩ hb3); have O3 := Lib.hid (OwnV.below S1.out.2.2 hb3 S1.out.2.2.lt); clear hb3))
        go_ret
        exact ⟨[], w.heap.size + 1, 0, rfl, OwnV.mono O3.out (by omega), fun k h => absurd h (by simp), by simp, S3.out.1⟩
      · have hz : bs.length = 0 := by omega
        have i1 : ¬ (0 : Int) < (bs.length : Int) := by omega
        have i1b := dec_f i1
        have i1c := dec_f hlt
        clear hz i1 hlt
        go_wp2_with fail
        go_ret
        exact ⟨[], w.heap.size + 1, 0, rfl, OwnV.mono S1.out.2.2 (by omega), fun k h => absurd h (by simp), by simp, S1.out.1⟩
end Go.Proofs.Ytebejpaghajhkaa
