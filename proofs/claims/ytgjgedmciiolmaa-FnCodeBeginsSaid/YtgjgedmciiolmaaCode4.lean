/-
  The drawing of a code: l91Code, DrawCodeText. Weak contracts: a short list of small numbers. No condition.
-/
import Derived.Test.YtgjgedmciiolmaaCode3
import Derived.Test.YtgjgedmciiolmaaDraw
namespace Go.Proofs.Ytgjgedmciiolmaa
open Go.RowKit
set_option linter.unusedVariables false

/-- A short list of small ints in block g, and whatever was there before, but for the reader, is as it was. -/
def DrawnL (w : World) (base R p k mx : Nat) (lo hi : Int) (e : Ending) (w' : World) : Prop :=
  ∃ (zs : List Int) (g c p' : Nat), e = .returned (.slice (some ⟨g, 0, none⟩) zs.length c) ∧ zs.length ≤ mx ∧ (∀ z ∈ zs, lo ≤ z ∧ z ≤ hi) ∧ zs.length ≤ c ∧ c ≤ 9223372036854775807 ∧ AtInts w' g 0 zs ∧ w.heap.size ≤ g ∧ g < w'.heap.size ∧ p' ≤ p + k ∧ Rdr w' base R p' ∧ w.grownBy w' (some R)
theorem OwnV.cap2 {w : World} {base e size g c n : Nat} {xs : List Value} (h : OwnV w base e size g c n xs) : c ≤ 9223372036854775807 := by
  obtain ⟨_, cur, _, _, _, h, _⟩ := h.parts
  exact h
theorem Rdr.grown {w w' : World} {base R p : Nat} {row : Option Nat} (h : Rdr w base R p) (hg : w.grownBy w' row) (hr : ∀ g, row = some g → R < g) : Rdr w' base R p := h.keep fun b hb => hg.block b (Nat.lt_of_le_of_lt hb h.lt) (fun e => by have := hr b e.symm; omega)
theorem grownBy_to {w w1 w2 : World} {R g : Nat} (h : w.grownBy w1 (some R)) (h2 : w1.grownBy w2 (some g)) (hg : w.heap.size ≤ g) : w.grownBy w2 (some R) :=
  ⟨h2.os.trans h.os, h2.tape.trans h.tape, h2.output.trans h.output, Nat.le_trans h.size h2.size, fun i hi hne => (h2.block i (Nat.lt_of_lt_of_le hi h.size) (fun e => by injection e; omega)).trans (h.block i hi hne)⟩
theorem atInts_lit (w : World) (t : TypeId) (zs : List Int) : AtInts (w.alloc (.cells (zs.map (Value.int .i64)).toArray t)) w.heap.size 0 zs := by
  intro k hk
  rw [Nat.zero_add, cell_of_row _ w.heap.size k _ t (0, 0) (heap_alloc_new w _)]
  simp [List.getD, hk]
theorem AtInts.keep {w w' : World} {g off : Nat} {zs : List Int} (h : AtInts w g off zs) (hk : w'.heap[g]? = w.heap[g]?) : AtInts w' g off zs := fun k hl => by
  rw [← h k hl]; simp only [World.cell?, hk]
theorem AtInts.grown {w w' : World} {g off : Nat} {zs : List Int} {row : Option Nat} (h : AtInts w g off zs) (hg : w.grownBy w' row) (hl : g < w.heap.size) (hne : some g ≠ row) : AtInts w' g off zs := h.keep (hg.block g hl hne)
theorem AtInts.take {w : World} {g off : Nat} {zs : List Int} (h : AtInts w g off zs) (m : Nat) : AtInts w g off (zs.take m) := fun k hk => by
  have hk' : k < zs.length ∧ k < m := by simp at hk; omega
  rw [h k hk'.1]
  simp [List.getD, hk'.1, hk'.2]

/-- pick behind the literal of a list of ints. -/
theorem pickLit_any (base R p : Nat) (zs : List Int) (t : TypeId) (n : Int) (w : World) (hp : p ≤ 1000000) (hn : 0 < n ∧ n ≤ 1000000) (hr : Rdr w base R p) :
    Calls Try.prog 41 #[.pointer (some ⟨R, 0, none⟩), .int .i64 n] (w.alloc (.cells (zs.map (Value.int .i64)).toArray t)) fun e w' => ∃ x : Nat, e = .returned (.int .i64 x) ∧ (x : Int) < n ∧ AtInts w' w.heap.size 0 zs ∧ w.heap.size < w'.heap.size ∧ Rdr w' base R (p + 1) ∧ w.grownBy w' (some R) := by
  refine (pick_any base R p n _ hp (by omega) (hr.alloc _)).mono ?_
  rintro e w1 ⟨x, rfl, hx, hr1, hg1⟩
  have hs := hg1.size
  simp only [World.size_alloc] at hs
  refine ⟨x, rfl, hx hn.1, ?_, by omega, hr1, grownBy_trans (grownBy_alloc (World.grownBy.refl _ _) _) hg1⟩
  exact (atInts_lit w t zs).grown hg1 (by simp) (by have := hr.lt; intro h; injection h; omega)
set_option maxHeartbeats 1600000 in
theorem l91Code_any (base R p : Nat) (w : World) (hp : p ≤ 100000) (hr : Rdr w base R p) :
    Calls Try.prog 40 #[.pointer (some ⟨R, 0, none⟩)] w (DrawnL w base R p 8 6 (-1) 7) := by
  have hRl := hr.lt
  have HR := Lib.hid (hr.alloc (.cells #[] 3))
  have HO := Lib.hid (ownM_empty w w.heap.size (Nat.le_refl _))
  have HG := Lib.hid (grownBy_alloc (World.grownBy.refl w (some R)) (.cells #[] 3))
  clear hr
  go_enter Try.func40, Try.ntmps40
  go_wp2_with fail
  refine (pick_any base R p 3 _ (by omega) (by omega) HR.out).mono ?_
  rintro e w1 ⟨x, rfl, hx, hr1, hg1⟩
  have hx3 : x < 3 := by have := hx (by omega); omega
  have R1 := Lib.hid hr1
  have G1 := Lib.hid (grownBy_trans HG.out hg1)
  have O1 : Hid (OwnM w1 w.heap.size w.heap.size 0 0 []) := Lib.hid (OwnV.grown HO.out hg1 (by intro h; injection h; omega))
  clear hr1 hg1 hx HR HO HG
  go_wp2_with fail
  go_loopw [3, 5] (fun v q wr => ∃ (k g d m : Nat) (zs : List Int), k ≤ 1 + x ∧ q = .int .i64 k ∧ v = .slice (some ⟨g, 0, none⟩) m d ∧ m = k ∧ OwnM wr w.heap.size g d m zs ∧ (∀ z ∈ zs, -1 ≤ z ∧ z ≤ 7) ∧ Rdr wr base R (p + 1 + k) ∧ w.grownBy wr (some R)) (fun _ q _ => 1 + x - (intOf q).toNat)
  case atStart => exact ⟨0, _, _, 0, [], by omega, rfl, rfl, rfl, O1.out, by simp, R1.out, G1.out⟩
  case round =>
    clear O1 R1 G1
    obtain ⟨k, g, d, m, zs, hk, rfl, rfl, rfl, hown, hin, hr, hg⟩ := hrel
    have HOW := Lib.hid hown
    have HIN := Lib.hid hin
    have HR := Lib.hid hr
    have HG := Lib.hid hg
    have hgR : R ≠ g := by have := hown.le; omega
    clear hown hin hr hg
    by_cases hlt : m < 1 + x
    · have t0 := dec_t (show (m : Int) < 1 + (x : Int) by omega)
      go_wp2_with fail
      refine (pick_any base R (p + 1 + m) 3 _ (by omega) (by omega) HR.out).mono ?_
      rintro e w2 ⟨y, rfl, hy, hr2, hg2⟩
      have hy3 : y < 3 := by have := hy (by omega); omega
      have R2 := Lib.hid hr2
      have G2 := Lib.hid (grownBy_trans HG.out hg2)
      have O2 : Hid (OwnM w2 w.heap.size g d m zs) := Lib.hid (OwnV.grown HOW.out hg2 (by intro h; injection h; omega))
      clear hr2 hg2 hy
      go_wp2_with (at_builtin; refine wpList_app1i rfl (.tmp 15) (.tmp 19) rfl _ rfl O2.out rfl (by omega) ?_; intro g' c' w' hown' hg' hat')
      have R := Lib.hid hown'
      have RG := Lib.hid (grownBy_to G2.out hg' O2.out.le)
      have RR := Lib.hid (R2.out.grown hg' (fun g0 h => by injection h with h; subst h; have := O2.out.le; omega))
      have RIN : Hid (∀ z ∈ zs ++ [(1 : Int) + (y : Int)], -1 ≤ z ∧ z ≤ 7) := Lib.hid (by
        intro z hz
        rcases List.mem_append.1 hz with h | h
        · exact HIN.out z h
        · simp at h; omega)
      clear hown' hg' hat'
      go_wp2
      go_roundw
      case rel => exact ⟨m + 1, g', c', m + 1, _, by omega, by go_num, rfl, rfl, R.out, RIN.out, by have := RR.out; rw [Nat.add_assoc] at this; exact this, RG.out⟩
      case measure => simp [intOf]; omega
    · have t0 := dec_f (show ¬ (m : Int) < 1 + (x : Int) by omega)
      have hm1 : 1 ≤ m := by omega
      have hml := HOW.out.len
      have HML := Lib.hid hml
      have hzl : zs.length ≤ 3 := by omega
      have hzl1 : 1 ≤ zs.length := by omega
      clear hml
      go_wp2_with fail
      refine (pick_any base R (p + 1 + m) 30 _ (by omega) (by omega) HR.out).mono ?_
      rintro e w2 ⟨y, rfl, _, hr2, hg2⟩
      have R2 := Lib.hid hr2
      have G2 := Lib.hid (grownBy_trans HG.out hg2)
      have O2 : Hid (OwnM w2 w.heap.size g d m zs) := Lib.hid (OwnV.grown HOW.out hg2 (by intro h; injection h; omega))
      clear hr2 hg2 HR HG HOW
      by_cases hy0 : y = 0
      · subst hy0
        go_wp2_with fail
        refine (pickLit_any base R (p + 1 + m + 1) [0, 7, 6, -1] 3 4 w2 (by omega) (by omega) R2.out).mono ?_
        rintro e w3 ⟨i, rfl, hi, hat3, hsz3, hr3, hg3⟩
        have hc3 := hat3 i (by show i < 4; omega)
        rw [Nat.zero_add] at hc3
        have hv : -1 ≤ ([0, 7, 6, -1] : List Int).getD i 0 ∧ ([0, 7, 6, -1] : List Int).getD i 0 ≤ 7 := by
          match i, hi with
          | 0, _ => decide
          | 1, _ => decide
          | 2, _ => decide
          | 3, _ => decide
        generalize ([0, 7, 6, -1] : List Int).getD i 0 = v at *
        have R3 := Lib.hid hr3
        have G3 := Lib.hid (grownBy_trans G2.out hg3)
        have O3 : Hid (OwnM w3 w.heap.size g d m zs) := Lib.hid (OwnV.grown O2.out hg3 (by intro h; injection h; omega))
        have hl0 := O3.out.own.at 0 (by omega)
        rw [Nat.zero_add] at hl0
        generalize zs.getD 0 0 = u0 at hl0
        have f0 := OwnV.frozen O3.out 0
        have i4 : (i : Int) < 4 := by omega
        have hne2 : w2.heap.size ≠ g := by have := O2.out.lt; omega
        have hst : OwnM (w3.setCell ⟨g, 0, none⟩ (.int .i64 v)) w.heap.size g d m (zs.set 0 v) := by
          have := OwnV.store O3.out 0 (.int .i64 v)
          unfold OwnM
          rw [List.map_set]
          exact this
        have HST := Lib.hid hst
        have GST := Lib.hid (grownBy_to G3.out (grownBy_set w3 g 0 (.int .i64 v)) O3.out.le)
        have RST := Lib.hid (R3.out.grown (grownBy_set w3 g 0 (.int .i64 v)) (fun g0 h => by injection h with h; subst h; have := O3.out.le; omega))
        have HIN2 : Hid (∀ z ∈ zs.set 0 v, -1 ≤ z ∧ z ≤ 7) := Lib.hid (by
          intro z hz
          rcases List.mem_or_eq_of_mem_set hz with h | h
          · exact HIN.out z h
          · rw [h]; exact hv)
        have i0 : (0 : Int) < (m : Int) := by omega
        have i0' : 0 < m := by omega
        clear hr3 hg3 hat3 hst
        go_wp2_with fail
        go_ret
        have hl2 : m = (zs.set 0 v).length := HST.out.len
        refine ⟨zs.set 0 v, g, d, p + 1 + m + 1 + 1, ret_sl hl2, by omega, HIN2.out, ?_, OwnV.cap2 HST.out, HST.out.own.at, HST.out.le, HST.out.lt, by omega, RST.out, GST.out⟩
        have := OwnV.cap HST.out
        omega
      · have t1 := beq_f (show (y : Int) ≠ 0 by omega)
        have t1' : (y == 0) = false := by simpa using hy0
        by_cases hy1 : y = 1
        · subst hy1
          have E := Lib.hid (own_empty w2 w.heap.size G2.out.size)
          have EG := Lib.hid (grownBy_alloc G2.out (.cells #[] 3))
          have ER := Lib.hid (R2.out.alloc (.cells #[] 3))
          go_wp2_with fail
          go_ret
          exact ⟨[], _, _, p + 1 + m + 1, rfl, by simp, by simp, by simp, by omega, E.out.at, E.out.le, E.out.lt, by omega, ER.out, EG.out⟩
        · have t2 := beq_f (show (y : Int) ≠ 1 by omega)
          have t2' : (y == 1) = false := by simpa using hy1
          by_cases hy2 : y = 2
          · subst hy2
            go_wp2_with fail
            refine (pickLit_any base R (p + 1 + m + 1) [1, 2, 1, 2, 1, 1] 3 2 w2 (by omega) (by omega) R2.out).mono ?_
            rintro e w3 ⟨i, rfl, hi, hat3, hsz3, hr3, hg3⟩
            have A3 := Lib.hid (hat3.take (5 + i))
            have R3 := Lib.hid hr3
            have G3 := Lib.hid (grownBy_trans G2.out hg3)
            have i5 : (5 : Int) + (i : Int) ≤ 6 := by omega
            have hl3 : (([1, 2, 1, 2, 1, 1] : List Int).take (5 + i)).length = 5 + i := by simp; omega
            have HL3 := Lib.hid hl3
            clear hr3 hg3 hat3 hl3
            go_wp2_with fail
            go_ret
            refine ⟨([1, 2, 1, 2, 1, 1] : List Int).take (5 + i), w2.heap.size, 6, p + 1 + m + 1 + 1, ret_sl (by rw [HL3.out]), by rw [HL3.out]; omega, ?_, by rw [HL3.out]; omega, by omega, A3.out, G2.out.size, hsz3, by omega, R3.out, G3.out⟩
            intro z hz
            have hz := List.mem_of_mem_take hz
            simp at hz
            omega
          · have t3 := beq_f (show (y : Int) ≠ 2 by omega)
            have t3' : (y == 2) = false := by simpa using hy2
            go_wp2_with fail
            go_ret
            refine ⟨zs, g, d, p + 1 + m + 1, ret_sl HML.out, by omega, HIN.out, ?_, OwnV.cap2 O2.out, O2.out.own.at, O2.out.le, O2.out.lt, by omega, R2.out, G2.out⟩
            have := OwnV.cap O2.out
            have := HML.out
            omega

end Go.Proofs.Ytgjgedmciiolmaa
