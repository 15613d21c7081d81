/-
  CodeBegins of the program; the drawing of two codes; the law FnCodeBegins. No condition.
-/
import Derived.Test.YtgjgedmciiolmaaCode7
import Derived.Deep.RegionWith
namespace Go.Proofs.Ytgjgedmciiolmaa
open Go.RowKit
set_option linter.unusedVariables false

set_option maxHeartbeats 400000 in
theorem begins_any (xs ys : List Int) (w : World) (hx : codeB xs = true) (hy : codeB ys = true) :
    Calls Try.prog 42 #[.string (cbs xs), .string (cbs ys)] w fun e w' => e = .returned (.bool (begB xs ys)) ∧ w = w' := by
  have px := codeB_parts hx
  have py := codeB_parts hy
  have hbg : begB xs ys = (decide (xs.length < ys.length) && decide (xs = ys.take xs.length)) := by unfold begB; rw [hx, hy]; simp
  rw [hbg]
  have hzx := cbs_size xs
  have hzy := cbs_size ys
  by_cases hl : xs.length < ys.length
  · have h0 := fun w => hasPrefix0_any xs ys w hl py.2.2 px.1 py.1
    rw [dec_t hl]
    generalize decide (xs = ys.take xs.length) = r at *
    have t0 := dec_t (show (cbs xs).size < (cbs ys).size by omega)
    generalize cbs xs = X at *
    generalize cbs ys = Y at *
    have H0 := Lib.hid h0
    clear h0 hbg px py hzx hzy hx hy
    have h1 : ∀ w, Calls Try.prog 59 #[.string Y, .string X] w fun e w' => e = .returned (.bool r) ∧ w = w' := by
      intro w
      go_enter Try.func59, Try.ntmps59
      go_wp2_with fail
      refine (H0.out _).mono ?_
      rintro e w' ⟨rfl, rfl⟩
      go_wp2_with fail
      go_ret
      exact ⟨rfl, rfl⟩
    have H1 := Lib.hid h1
    clear h1
    have h2 : ∀ w, Calls Try.prog 56 #[.string X, .string Y] w fun e w' => e = .returned (.bool r) ∧ w = w' := by
      intro w
      go_enter Try.func56, Try.ntmps56
      go_wp2_with fail
      refine (H1.out _).mono ?_
      rintro e w' ⟨rfl, rfl⟩
      go_wp2_with fail
      go_ret
      exact ⟨rfl, rfl⟩
    have H2 := Lib.hid h2
    clear h2
    go_enter Try.func42, Try.ntmps42
    go_wp2_with fail
    refine (H2.out _).mono ?_
    rintro e w' ⟨rfl, rfl⟩
    go_wp2_with fail
    go_ret
    exact ⟨by simp, rfl⟩
  · rw [dec_f hl]
    have t0 := dec_f (show ¬ (cbs xs).size < (cbs ys).size by omega)
    generalize cbs xs = X at *
    generalize cbs ys = Y at *
    clear hbg px py hzx hzy hx hy
    go_enter Try.func42, Try.ntmps42
    go_wp2_with fail
    go_ret
    exact ⟨rfl, rfl⟩

set_option maxHeartbeats 800000 in
theorem impl_begins (b off c b' off' c' : Nat) (xs ys : List Int) (w : World) (hn : xs.length ≤ 1048576) (hn' : ys.length ≤ 1048576) (hbl : b < w.heap.size) (hbl' : b' < w.heap.size) (ha : AtInts w b off xs) (hb : AtInts w b' off' ys) :
    Calls Try.prog 20 #[.slice (some ⟨b, off, none⟩) xs.length c, .slice (some ⟨b', off', none⟩) ys.length c'] w fun e w' => e = .returned (.bool (begB xs ys)) ∧ Below w.heap.size w w' := by
  have hx := codeOf_any b off c xs w hn hbl ha
  have HB := Lib.hid hb
  clear ha hb
  by_cases h1 : codeB xs = true
  · have e1 : codeV xs = cbs xs := by unfold codeV; rw [if_pos h1]
    rw [h1, e1] at hx
    by_cases h2 : codeB ys = true
    · have e2 : codeV ys = cbs ys := by unfold codeV; rw [if_pos h2]
      have hbe := fun w => begins_any xs ys w h1 h2
      have HX := Lib.hid hx
      have HBE := Lib.hid hbe
      have HE2 := Lib.hid e2
      have H2 := Lib.hid h2
      clear hx hbe e1 e2 h1 h2
      go_enter Try.func20, Try.ntmps20
      go_wp2_with fail
      refine HX.out.mono ?_
      rintro e w1 ⟨rfl, hb1⟩
      have B1 := Lib.hid hb1
      have hy := codeOf_any b' off' c' ys w1 hn' (Nat.lt_of_lt_of_le hbl' hb1.size) (HB.out.below hb1 hbl')
      rw [H2.out, HE2.out] at hy
      have HY := Lib.hid hy
      clear hb1 hy
      go_wp2_with fail
      refine HY.out.mono ?_
      rintro e w2 ⟨rfl, hb2⟩
      have B2 := Lib.hid (below_to B1.out hb2 B1.out.size)
      clear hb2
      go_wp2_with fail
      refine (HBE.out _).mono ?_
      rintro e w' ⟨rfl, rfl⟩
      go_wp2_with fail
      go_ret
      exact ⟨rfl, B2.out⟩
    · have h2' : codeB ys = false := by simpa using h2
      have hbg : begB xs ys = false := by unfold begB; rw [h2']; simp
      rw [hbg]
      have HX := Lib.hid hx
      have H2 := Lib.hid h2'
      clear hx e1 h1 h2 h2' hbg
      go_enter Try.func20, Try.ntmps20
      go_wp2_with fail
      refine HX.out.mono ?_
      rintro e w1 ⟨rfl, hb1⟩
      have B1 := Lib.hid hb1
      have hy := codeOf_any b' off' c' ys w1 hn' (Nat.lt_of_lt_of_le hbl' hb1.size) (HB.out.below hb1 hbl')
      rw [H2.out] at hy
      have HY := Lib.hid hy
      clear hb1 hy
      go_wp2_with fail
      refine HY.out.mono ?_
      rintro e w2 ⟨rfl, hb2⟩
      have B2 := Lib.hid (below_to B1.out hb2 B1.out.size)
      clear hb2
      go_wp2_with fail
      go_ret
      exact ⟨rfl, B2.out⟩
  · have h1' : codeB xs = false := by simpa using h1
    have hbg : begB xs ys = false := by unfold begB; rw [h1']; simp
    rw [hbg]
    rw [h1'] at hx
    have HX := Lib.hid hx
    clear hx h1 h1' hbg
    go_enter Try.func20, Try.ntmps20
    go_wp2_with fail
    refine HX.out.mono ?_
    rintro e w1 ⟨rfl, hb1⟩
    have B1 := Lib.hid hb1
    have hy := codeOf_any b' off' c' ys w1 hn' (Nat.lt_of_lt_of_le hbl' hb1.size) (HB.out.below hb1 hbl')
    have HY := Lib.hid hy
    clear hb1 hy
    go_wp2_with fail
    refine HY.out.mono ?_
    rintro e w2 ⟨rfl, hb2⟩
    have B2 := Lib.hid (below_to B1.out hb2 B1.out.size)
    generalize codeB ys = r at *
    clear hb2
    go_wp2_with fail
    go_ret
    exact ⟨rfl, B2.out⟩

def DrawL2 (w : World) (e : Ending) (w' : World) : Prop := ∃ (xs ys : List Int) (g c g' c' : Nat), e = .returned (.tuple #[.slice (some ⟨g, 0, none⟩) xs.length c, .slice (some ⟨g', 0, none⟩) ys.length c']) ∧ xs.length ≤ 6 ∧ ys.length ≤ 6 ∧ xs.length ≤ c ∧ c ≤ 9223372036854775807 ∧ ys.length ≤ c' ∧ AtInts w' g 0 xs ∧ g < w'.heap.size ∧ AtInts w' g' 0 ys ∧ g' < w'.heap.size ∧ Below w.heap.size w w'
set_option maxHeartbeats 1600000 in
theorem draw_begins (A : Option Addr) (c m : Nat) (w : World) (hmc : m ≤ c) (hc : c ≤ 9223372036854775807) (hr : ByteRow w w.heap.size A m) :
    Calls Try.prog 19 #[.slice A m c] w (DrawL2 w) := by
  have HO := Lib.hid (open_any w.heap.size A m c w (Nat.le_refl _) hmc hc hr)
  clear hr
  go_enter Try.func19, Try.ntmps19
  go_wp2_with fail
  refine HO.out.mono ?_
  rintro e w1 ⟨rfl, hr1, hb1⟩
  have HR1 := Lib.hid hr1
  have HB1 := Lib.hid hb1
  clear hr1 hb1 HO
  go_wp2_with fail
  refine (l91Code_any w.heap.size w.heap.size 0 _ (by omega) HR1.out).mono ?_
  rintro e w2 ⟨ys, g, d, p', rfl, hl, hin, hlc, hc2, hat, hge, hlt, hp', hr2, hg2⟩
  have HA2 := Lib.hid hat
  have HR2 := Lib.hid hr2
  have HB2 := Lib.hid (below_app HB1.out hg2 (Nat.le_refl _))
  have hgR : g ≠ w.heap.size := by have := HR1.out.lt; omega
  clear hat hin hg2 hge hr2
  have fin : ∀ (w3 : World) (p3 : Nat), p3 ≤ 20 → Rdr w3 w.heap.size w.heap.size p3 → Calls Try.prog 40 #[.pointer (some ⟨w.heap.size, 0, none⟩)] w3 (DrawnL w3 w.heap.size w.heap.size p3 8 6 (-1) 7) := fun w3 p3 h3 hr3 => l91Code_any _ _ _ _ (by omega) hr3
  have FIN := Lib.hid fin
  clear fin
  by_cases hy1 : 1 < ys.length
  · have t0 := dec_t (show (1 : Int) < (ys.length : Int) by omega)
    go_wp2_with fail
    refine (pick_any w.heap.size w.heap.size p' 3 _ (by omega) (by omega) HR2.out).mono ?_
    rintro e w3 ⟨x3, rfl, _, hr3, hg3⟩
    have HR3 := Lib.hid hr3
    have HB3 := Lib.hid (below_app HB2.out hg3 (Nat.le_refl _))
    have HA3 := Lib.hid (HA2.out.grown hg3 hlt (by intro h; injection h; omega))
    have hl3 := Nat.lt_of_lt_of_le hlt hg3.size
    clear hr3 hg3 HA2 HR2 HB2
    by_cases hx3 : x3 = 0
    · subst hx3
      go_wp2_with fail
      refine (FIN.out _ (p' + 1) (by omega) HR3.out).mono ?_
      rintro e w4 ⟨xs, g4, d4, p4, rfl, hl4, _, hlc4, hc4, hat4, hge4, hlt4, _, _, hg4⟩
      have HA4 := Lib.hid hat4
      have HY4 := Lib.hid (HA3.out.grown hg4 hl3 (by intro h; injection h; omega))
      have hyl4 := Nat.lt_of_lt_of_le hl3 hg4.size
      have HB4 := Lib.hid (below_app HB3.out hg4 (Nat.le_refl _))
      clear hat4 hg4
      go_wp2_with fail
      go_ret2
      exact ⟨xs, ys, g4, d4, g, d, rfl, hl4, hl, hlc4, hc4, hlc, HA4.out, hlt4, HY4.out, hyl4, HB4.out⟩
    · have t1 := dec_t (show 0 < x3 by omega)
      have t1' := dec_t (show (0 : Int) < (x3 : Int) by omega)
      go_wp2_with fail
      refine (pick_any w.heap.size w.heap.size (p' + 1) ((ys.length : Int) - 1) _ (by omega) (by omega) HR3.out).mono ?_
      rintro e w4 ⟨x4, rfl, hx4, _, hg4⟩
      have hx4' : x4 + 1 < ys.length := by have := hx4 (by omega); omega
      have HY4 := Lib.hid (HA3.out.grown hg4 hl3 (by intro h; injection h; omega))
      have hyl4 := Nat.lt_of_lt_of_le hl3 hg4.size
      have HB4 := Lib.hid (below_app HB3.out hg4 (Nat.le_refl _))
      have i1 : (1 : Int) + (x4 : Int) ≤ (d : Int) := by omega
      have i2 : (0 : Int) ≤ 1 + (x4 : Int) := by omega
      have i3 : ((1 : Int) + (x4 : Int)).toNat = 1 + x4 := by omega
      have hlt4 : (ys.take (1 + x4)).length = 1 + x4 := by simp; omega
      have HLT := Lib.hid hlt4
      clear hg4 hx4 hlt4
      go_wp2_with fail
      go_ret2
      refine ⟨ys.take (1 + x4), ys, g, d, g, d, ?_, by rw [HLT.out]; omega, hl, by rw [HLT.out]; omega, hc2, hlc, HY4.out.take' _, hyl4, HY4.out, hyl4, HB4.out⟩
      rw [HLT.out]
      rfl
  · have t0 := dec_f (show ¬ (1 : Int) < (ys.length : Int) by omega)
    go_wp2_with fail
    refine (FIN.out _ p' (by omega) HR2.out).mono ?_
    rintro e w4 ⟨xs, g4, d4, p4, rfl, hl4, _, hlc4, hc4, hat4, hge4, hlt4, _, _, hg4⟩
    have HA4 := Lib.hid hat4
    have HY4 := Lib.hid (HA2.out.grown hg4 hlt (by intro h; injection h; omega))
    have hyl4 := Nat.lt_of_lt_of_le hlt hg4.size
    have HB4 := Lib.hid (below_app HB2.out hg4 (Nat.le_refl _))
    clear hat4 hg4
    go_wp2_with fail
    go_ret2
    exact ⟨xs, ys, g4, d4, g, d, rfl, hl4, hl, hlc4, hc4, hlc, HA4.out, hlt4, HY4.out, hyl4, HB4.out⟩

theorem smk_take {ys : List Int} (m k : Nat) (h : k ≤ m) : smk (ys.take m) k = smk ys k := by
  induction k with
  | zero => rfl
  | succ k ih =>
    simp only [smk]
    rw [ih (by omega)]
    congr 1
    simp [List.getD, show k < m by omega]
theorem smk_lt {ys : List Int} (hall : ys.all (inB 1 6) = true) {j k : Nat} (hjk : j < k) (hk : k ≤ ys.length) : smk ys j < smk ys k := by
  induction k with
  | zero => omega
  | succ k ih =>
    have hx := all_at hall (show k < ys.length by omega)
    rw [inB_iff] at hx
    simp only [smk]
    by_cases h : j < k
    · have := ih h (by omega); omega
    · obtain rfl : j = k := by omega
      omega
/-- All that the law on CodeBegins wants. -/
theorem begB_facts {xs ys : List Int} (h : begB xs ys = true) : beatsV xs < beatsV ys ∧ begB ys xs = false ∧ (xs.length = 1 ∨ begB (xs.take (xs.length - 1)) ys = true) ∧ (codeT ys).extract 0 (2 * xs.length - 1) = codeT xs := by
  obtain ⟨hx, hy, hl, he⟩ := begB_iff.1 h
  have px := codeB_parts hx
  have py := codeB_parts hy
  refine ⟨?_, ?_, ?_, ?_⟩
  · unfold beatsV
    rw [if_pos hx, if_pos hy]
    have e1 : smk xs xs.length = smk ys xs.length := by
      have := smk_take (ys := ys) xs.length xs.length (Nat.le_refl _)
      rw [← he] at this
      exact this
    rw [e1]
    exact smk_lt py.1 hl (Nat.le_refl _)
  · unfold begB
    rw [dec_f (show ¬ ys.length < xs.length by omega)]
    simp
  · by_cases h1 : xs.length = 1
    · exact .inl h1
    · right
      rw [begB_iff]
      have hlen : (xs.take (xs.length - 1)).length = xs.length - 1 := by simp
      refine ⟨?_, hy, by rw [hlen]; omega, ?_⟩
      · unfold codeB grpB
        rw [hlen, inB_true (by omega), Bool.and_true]
        rw [List.all_eq_true] at *
        exact fun z hz => px.1 z (List.mem_of_mem_take hz)
      · rw [hlen]
        have e9 : xs.take (xs.length - 1) = (ys.take xs.length).take (xs.length - 1) := congrArg (List.take (xs.length - 1)) he
        rw [e9, List.take_take, Nat.min_eq_left (by omega)]
  · have hz := codeT_size hx
    have hzy := codeT_size hy
    have hes : ((codeT ys).extract 0 (2 * xs.length - 1)).size = 2 * xs.length - 1 := by
      rw [ByteArray.size_extract]; omega
    refine ba_ext (by omega) fun k hk => ?_
    rw [hes] at hk
    rw [codeT_bt hx k hk]
    have e2 : bt ((codeT ys).extract 0 (2 * xs.length - 1)) k = bt (codeT ys) k := by
      unfold bt
      rw [ext_data]
      simp [List.getD, hk]
    rw [e2, codeT_bt hy k (by omega)]
    have e3 : xs.getD (k / 2) 0 = ys.getD (k / 2) 0 := by
      have e9 : xs.getD (k / 2) 0 = (ys.take xs.length).getD (k / 2) 0 := congrArg (fun l => List.getD l (k / 2) 0) he
      rw [e9]
      simp [List.getD, show k / 2 < xs.length by omega]
    rw [e3]

end Go.Proofs.Ytgjgedmciiolmaa
