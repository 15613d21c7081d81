/-
  Lines: the text of a section's moves (LineText); a run by sections; a run in two parts. No condition.
-/
import Derived.Test.YtebejpaghajhkaaLn25
import Derived.Test.YtebejpaghajhkaaBuild
import Derived.Test.YtebejpaghajhkaaRg8
namespace Go.Proofs.Ytebejpaghajhkaa
open Go.RowKit
open Go.Shelf
set_option linter.unusedVariables false
set_option linter.unusedSimpArgs false

/-- The letters of the first i moves of a section. -/
def txM (ms : List MV) (k : Int) : Nat → List UInt8
  | 0 => []
  | i + 1 => txM ms k i ++ (if (ms.getD i Z2m).1 = k then (ms.getD i Z2m).2.data.toList else [])
theorem txM_len {ms : List MV} {k : Int} (hs : ShortL ms) : ∀ i, i ≤ ms.length → (txM ms k i).length ≤ 8 * i := by
  intro i
  induction i with
  | zero => intro _; simp [txM]
  | succ i ih =>
    intro hi
    have h1 := ih (by omega)
    have h2 := hs i (by omega)
    have h3 : (ms.getD i Z2m).2.data.toList.length = (ms.getD i Z2m).2.size := Array.length_toList
    simp only [txM, List.length_append]
    split
    · omega
    · simp; omega
theorem bldAt_alloc {T e : TypeId} {B b : Nat} {p : Value} {bs : List Value} {w : World} (h : Lib.BuilderAt T e B b p bs w) (o : Obj) : Lib.BuilderAt T e B b p bs (w.alloc o) := by
  obtain ⟨hB, v, hb, hown, hne⟩ := h
  have hl : ∀ (g : Nat) (x : Obj), w.heap[g]? = some x → (w.alloc o).heap[g]? = some x := fun g x hg => by
    have hlt : g < w.heap.size := by
      rcases Nat.lt_or_ge g w.heap.size with h | h
      · exact h
      · rw [Array.getElem?_eq_none h] at hg; cases hg
    exact (Below.heap_alloc w o g hlt).trans hg
  refine ⟨hB, v, hl _ _ hb, ⟨hown.1, ?_⟩, hne⟩
  rcases hown.2 with hn | ⟨g, cap, cur, hv, hbg, hg, rest⟩
  · exact .inl hn
  · exact .inr ⟨g, cap, cur, hv, hbg, hl _ _ hg, rest⟩
theorem isBld_alloc {B b : Nat} {bs : List Value} {w : World} (h : IsBld B b bs w) (o : Obj) : IsBld B b bs (w.alloc o) := h.elim (fun x => .inl (bldAt_alloc x o)) (fun x => .inr (bldAt_alloc x o))
set_option maxHeartbeats 1600000 in
theorem lineText_any (a off cm : Nat) (ms : List MV) (k : Int) (w : World) (hk : ms.length ≤ 1048576) (hs : ShortL ms) (hx : a < w.heap.size) (hms : AtMv w a off ms) :
    Calls Try.prog 21 #[.slice (some ⟨a, off, none⟩) ms.length cm, .int .i64 k] w fun e w' => e = .returned (.string ⟨(txM ms k ms.length).toArray⟩) ∧ Below w.heap.size w w' := by
  have I0 := Lib.hid (bld_fresh w.heap.size w (Nat.le_refl _))
  have B0 := Lib.hid (below_new w (.cells #[.pointer none, .slice none 0 0] 88))
  have MS := Lib.hid hms
  have HX := Lib.hid hx
  have HSH := Lib.hid hs
  have HLN := Lib.hid (fun i hi => txM_len (k := k) hs i hi)
  clear hms hx hs
  go_enter Try.func21, Try.ntmps21
  go_wp2_with fail
  go_loopw [10] (fun q wr => ∃ i : Nat, i ≤ ms.length ∧ q = .int .i64 i ∧ IsBld w.heap.size w.heap.size (Lib.byteCells (txM ms k i)) wr ∧ Below w.heap.size w wr) (fun q _ => ms.length - (intOf q).toNat)
  case atStart => exact ⟨0, by omega, rfl, I0.out, B0.out⟩
  case round =>
    clear I0 B0
    obtain ⟨i, hi, rfl, hib, hb⟩ := hrel
    have IB := Lib.hid hib
    have HB := Lib.hid hb
    clear hib hb
    by_cases hlt : i < ms.length
    · obtain ⟨x0, x1⟩ := (MS.out.below HB.out HX.out) i hlt
      have hln := HLN.out i (by omega)
      have htx : txM ms k (i + 1) = txM ms k i ++ (if (ms.getD i Z2m).1 = k then (ms.getD i Z2m).2.data.toList else []) := rfl
      have hsz := HSH.out i hlt
      generalize ms.getD i Z2m = mv at *
      obtain ⟨n, s⟩ := mv
      simp only at htx hsz x0 x1
      have i1 : (i : Int) < (ms.length : Int) := by omega
      have HB2 := Lib.hid (below_new' HB.out (.cells #[.int .i64 n, .string s] 74))
      have IB2 := Lib.hid (isBld_alloc IB.out (.cells #[.int .i64 n, .string s] 74))
      have K2 := Lib.hid (Blk.new wr 74 #[.int .i64 n, .string s])
      have hilt : i + 1 ≤ ms.length := hlt
      by_cases hn : n = k
      · rw [if_pos hn] at htx
        have t1 := beq_t hn
        have HTX := Lib.hid htx
        have HW := Lib.hid (writeString_any w.heap.size w.heap.size (Lib.byteCells (txM ms k i)) s (wr.alloc (.cells #[.int .i64 n, .string s] 74)) IB2.out (by rw [Lib.byteCells_length]; omega) HB2.out.size)
        clear htx hn hlt HB IB
        go_upto_region 5 with fail
        generalize wr.alloc (.cells #[.int .i64 n, .string s] 74) = W2 at *
        obtain ⟨y0, y1, _, _⟩ := blkCells2 K2.out
        clear x0 x1
        go_wp2_with fail
        refine HW.out.mono ?_
        rintro e w3 ⟨rfl, hbl, hb3⟩
        have I3 : Hid (IsBld w.heap.size w.heap.size (Lib.byteCells (txM ms k (i + 1))) w3) := Lib.hid (by
          rw [HTX.out, Lib.byteCells_append, ← Lib.strCells_eq]
          exact .inr hbl)
        have B3 := Lib.hid (HB2.out.trans hb3)
        clear hbl hb3 HW IB2 HB2 K2 y0 y1
        go_wp2_with fail
        go_roundw
        case rel => exact ⟨i + 1, hilt, by go_num, I3.out, B3.out⟩
        case measure => simp [intOf]; omega
      · rw [if_neg hn, List.append_nil] at htx
        have t1 := beq_f hn
        have HTX := Lib.hid htx
        clear htx hn hlt HB IB
        go_upto_region 5 with fail
        generalize wr.alloc (.cells #[.int .i64 n, .string s] 74) = W2 at *
        obtain ⟨y0, y1, _, _⟩ := blkCells2 K2.out
        clear x0 x1
        go_wp2_with fail
        go_roundw
        case rel => exact ⟨i + 1, hilt, by go_num, by rw [HTX.out]; exact IB2.out, HB2.out⟩
        case measure => simp [intOf]; omega
    · obtain rfl : i = ms.length := by omega
      clear hlt
      go_wp2_with fail
      refine (bldString_any w.heap.size w.heap.size (txM ms k ms.length) wr IB.out HB.out.size).mono ?_
      rintro e w3 ⟨rfl, hb3⟩
      go_wp2_with fail
      go_ret
      exact ⟨rfl, HB.out.trans hb3⟩
end Go.Proofs.Ytebejpaghajhkaa
