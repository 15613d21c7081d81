/-
  The law FnExactRegisterMissing, walked call by call. No condition.
-/
import Derived.Test.YtebejpaghajhkaaRl2
import Derived.Test.YtebejpaghajhkaaRg13
namespace Go.Proofs.Ytebejpaghajhkaa
open Go.RowKit
set_option linter.unusedVariables false
set_option linter.unusedSimpArgs false

theorem row_ne {w : World} {base base' g c g' c' : Nat} {zs : List Int} {ns : List NV} (h : Own w base g c zs) (k : OwnN w base' g' c' ns) : g ≠ g' := by
  rintro rfl
  obtain ⟨_, cur, _, hh, _⟩ := OwnV.parts h
  obtain ⟨_, cur', _, hh', _⟩ := OwnV.parts k
  rw [hh] at hh'
  injection hh' with hh'
  injection hh' with _ h2 _
  exact absurd h2 (by decide)
theorem misV_len (xs ys : List NV) (sl : Int) : (misV xs ys sl).length ≤ xs.length := by
  unfold misV
  split
  · exact misK_len _ _ _ _
  · simp
set_option maxRecDepth 100000 in
set_option maxHeartbeats 6400000 in
theorem law_ExactRegisterMissing (A : Option Addr) (c : Nat) (xs : List NV) (A' : Option Addr) (c' : Nat) (ys : List NV) (sl : Int) (w : World) (hq : ArgNt w A xs) (hq' : ArgNt w A' ys) (hsl : -9223372036854775808 ≤ sl ∧ sl ≤ 9223372036854775807) :
    Calls Try.prog 9 #[.slice A xs.length c, .slice A' ys.length c', .int .i64 sl] w fun e w' => e = .returned (.bool true) ∧ Below w.heap.size w w' := by
  have HSZ := Lib.hid (szNoteS_any A c xs 1048576 w hq.2.2 (fun k hk => (hq.2.1 k hk).2) (by omega) hq.1)
  by_cases hbig : (xs.length : Int) + sumN xs xs.length ≤ 1048576
  · rw [szN_t hbig] at HSZ
    have t0 := dec_f (show ¬ (1048576 : Int) - xs.length - sumN xs xs.length < 0 by omega)
    have HSZ' := Lib.hid (fun W (k : Below w.heap.size w W) => szNoteS_any A' c' ys ((1048576 : Int) - xs.length - sumN xs xs.length) W hq'.2.2 (fun k hk => (hq'.2.1 k hk).2) (by omega) (hq'.1.below k))
    by_cases hbig' : (ys.length : Int) + sumN ys ys.length ≤ (1048576 : Int) - xs.length - sumN xs xs.length
    · rw [szN_t hbig'] at HSZ'
      have hs := sz_of hq (by omega)
      have hs' := sz_of hq' (by omega)
      have t1 := dec_f (show ¬ (1048576 : Int) - xs.length - sumN xs xs.length - ys.length - sumN ys ys.length < 0 by omega)
      have HTO := Lib.hid (fun W (k : Below w.heap.size w W) => toNoteS_any A c xs W (by omega) (hq.1.below k))
      have HTO' := Lib.hid (fun W (k : Below w.heap.size w W) => toNoteS_any A' c' ys W (by omega) (hq'.1.below k))
      have him := fun B d B' d' W h h' => implMissing_any B B' d d' xs ys sl W hs hs' h h'
      have hsp := fun W base g d B' d' (h : OwnN W base g d xs) h' => specMissing_any g 0 d B' d' xs ys sl W hs hs' h.cap2.1 h.cap2.2 h.lt h.at h'
      have hvl := misV_len xs ys sl
      generalize misV xs ys sl = V at *
      have HIM := Lib.hid him
      have HSP := Lib.hid hsp
      have HEQ := Lib.hid (fun b c b' c' W h1 h2 h3 h4 => eqNoteS_same b 0 c b' 0 c' xs W (by omega) h1 h2 h3 h4)
      have HEQ' := Lib.hid (fun b c b' c' W h1 h2 h3 h4 => eqNoteS_same b 0 c b' 0 c' ys W (by omega) h1 h2 h3 h4)
      have HVL : Hid (V.length ≤ 9223372036854775807) := Lib.hid (by omega)
      have HV1 : Hid (V.length ≤ 1099511627776) := Lib.hid (by omega)
      have HMX := Lib.hid (fun W {base g d} (h : OwnN W base g d xs) => markNoteS_any base g d xs 1 W (by omega) (by omega) (by omega) h)
      have hmy := fun W {base g d} (h : OwnN W base g d ys) => markNoteS_any base g d ys (1 + 2 * xs.length) W (by omega) (by omega) (by omega) h
      rw [show ((1 + 2 * xs.length : Nat) : Int) = 1 + 2 * (xs.length : Int) by omega] at hmy
      have HMY := Lib.hid hmy
      have t2 := dec_f (show ¬ (1 : Int) + 2 * xs.length + 2 * ys.length < 0 by omega)
      have t3 := dec_f (show ¬ (1 : Int) + V.length < 0 by omega)
      have t4 := bne_f (show (1 : Int) + V.length = 1 + V.length from rfl)
      clear him hsp hq hq' hs hs' hbig hbig' hmy
      go_enter Try.func9, Try.ntmps9
      go_wp2_with fail
      refine HSZ.out.mono ?_
      rintro e w1 ⟨rfl, hb1⟩
      have B1 := Lib.hid hb1
      clear hb1
      go_wp2_with fail
      refine (HSZ'.out _ B1.out).mono ?_
      rintro e w2 ⟨rfl, hb2⟩
      have B2 := Lib.hid (below_to B1.out hb2 B1.out.size)
      clear hb2 B1 
      go_wp2_with fail
      refine (HTO.out _ B2.out).mono ?_
      rintro e w3 ⟨g3, d3, rfl, ho3, hb3⟩
      have B3 := Lib.hid (below_to B2.out hb3 B2.out.size)
      have X3 : Hid (OwnN w3 w.heap.size g3 d3 xs) := Lib.hid (OwnV.mono ho3 (Nat.le_trans B2.out.size ho3.le))
      clear hb3 B2  ho3
      go_wp2_with fail
      refine (HTO'.out _ B3.out).mono ?_
      rintro e w4 ⟨g4, d4, rfl, ho4, hb4⟩
      have B4 := Lib.hid (below_to B3.out hb4 B3.out.size)
      have X4 : Hid (OwnN w4 w.heap.size g3 d3 xs) := Lib.hid (OwnV.below X3.out hb4 X3.out.lt)
      have Y4 : Hid (OwnN w4 w.heap.size g4 d4 ys) := Lib.hid (OwnV.mono ho4 (Nat.le_trans B3.out.size ho4.le))
      clear hb4 B3 X3 ho4
      go_wp2_with fail
      refine (HSP.out _ _ _ _ _ _ X4.out Y4.out.rd).mono ?_
      rintro e w5 ⟨g5, d5, rfl, ho5, hb5⟩
      have B5 := Lib.hid (below_to B4.out hb5 B4.out.size)
      have X5 : Hid (OwnN w5 w.heap.size g3 d3 xs) := Lib.hid (OwnV.below X4.out hb5 X4.out.lt)
      have Y5 : Hid (OwnN w5 w.heap.size g4 d4 ys) := Lib.hid (OwnV.below Y4.out hb5 Y4.out.lt)
      have W5 : Hid (Own w5 w.heap.size g5 d5 V) := Lib.hid (OwnV.mono ho5 (Nat.le_trans B4.out.size ho5.le))
      clear hb5 B4 X4 Y4 ho5
      clear X5 Y5
      have LTW := Lib.hid W5.out.lt
      go_wp2_with fail
      refine (HTO.out _ B5.out).mono ?_
      rintro e w6 ⟨g6, d6, rfl, ho6, hb6⟩
      have ZZ6 := Lib.hid hb6.size
      have B6 := Lib.hid (below_to B5.out hb6 B5.out.size)
      have W6 : Hid (Own w6 w.heap.size g5 d5 V) := Lib.hid (OwnV.below W5.out hb6 W5.out.lt)
      have X6 : Hid (OwnN w6 w.heap.size g6 d6 xs) := Lib.hid (OwnV.mono ho6 (Nat.le_trans B5.out.size ho6.le))
      clear hb6 B5 W5 ho6
      have LTX := Lib.hid X6.out.lt
      have Z6 := Lib.hid (show g6 < w6.heap.size from X6.out.lt)
      go_wp2_with fail
      refine (HTO'.out _ B6.out).mono ?_
      rintro e w7 ⟨g7, d7, rfl, ho7, hb7⟩
      have ZZ7 := Lib.hid hb7.size
      have B7 := Lib.hid (below_to B6.out hb7 B6.out.size)
      have W7 : Hid (Own w7 w.heap.size g5 d5 V) := Lib.hid (OwnV.below W6.out hb7 W6.out.lt)
      have X7 : Hid (OwnN w7 w.heap.size g6 d6 xs) := Lib.hid (OwnV.below X6.out hb7 X6.out.lt)
      have LXY : Hid (g6 < g7) := Lib.hid (Nat.lt_of_lt_of_le LTX.out ho7.le)
      have Y7 : Hid (OwnN w7 w.heap.size g7 d7 ys) := Lib.hid (OwnV.mono ho7 (Nat.le_trans B6.out.size ho7.le))
      clear hb7 B6 W6 X6 ho7
      go_wp2_with fail
      have ZW : Hid (w5.heap.size ≤ w7.heap.size) := Lib.hid (by have h1 := ZZ6.out; have h2 := ZZ7.out; omega)
      refine (HIM.out _ _ _ _ _ X7.out.rd Y7.out.rd).mono ?_
      rintro e w8 ⟨g8, d8, rfl, ho8, hb8⟩
      have B8 := Lib.hid (below_to B7.out hb8 B7.out.size)
      have W8 : Hid (Own w8 w.heap.size g5 d5 V) := Lib.hid (OwnV.below W7.out hb8 W7.out.lt)
      have X8 : Hid (OwnN w8 w.heap.size g6 d6 xs) := Lib.hid (OwnV.below X7.out hb8 X7.out.lt)
      have Y8 : Hid (OwnN w8 w.heap.size g7 d7 ys) := Lib.hid (OwnV.below Y7.out hb8 Y7.out.lt)
      have LHW : Hid (g5 < g8) := Lib.hid (Nat.lt_of_lt_of_le (Nat.lt_of_lt_of_le LTW.out (by have h1 := ZW.out; omega)) ho8.le)
      have H8 : Hid (Own w8 w.heap.size g8 d8 V) := Lib.hid (OwnV.mono ho8 (Nat.le_trans B7.out.size ho8.le))
      clear hb8 B7 W7 X7 Y7 ho8
      go_wp2_with fail
      refine (eqIntS_same _ _ _ _ _ _ V _ HVL.out H8.out.at W8.out.at).mono ?_
      rintro e w9 ⟨rfl, hq9⟩
      have hb9 := hq9.below w8.heap.size
      have B9 := Lib.hid (below_to B8.out hb9 B8.out.size)
      have W9 : Hid (Own w9 w.heap.size g5 d5 V) := Lib.hid (OwnV.below W8.out hb9 W8.out.lt)
      have X9 : Hid (OwnN w9 w.heap.size g6 d6 xs) := Lib.hid (OwnV.below X8.out hb9 X8.out.lt)
      have Y9 : Hid (OwnN w9 w.heap.size g7 d7 ys) := Lib.hid (OwnV.below Y8.out hb9 Y8.out.lt)
      have H9 : Hid (Own w9 w.heap.size g8 d8 V) := Lib.hid (OwnV.below H8.out hb9 H8.out.lt)
      clear hq9 hb9 B8 W8 X8 Y8 H8
      go_wp2_with fail
      refine (HTO.out _ B9.out).mono ?_
      rintro e w10 ⟨g10, d10, rfl, ho10, hb10⟩
      have B10 := Lib.hid (below_to B9.out hb10 B9.out.size)
      have W10 : Hid (Own w10 w.heap.size g5 d5 V) := Lib.hid (OwnV.below W9.out hb10 W9.out.lt)
      have X10 : Hid (OwnN w10 w.heap.size g6 d6 xs) := Lib.hid (OwnV.below X9.out hb10 X9.out.lt)
      have Y10 : Hid (OwnN w10 w.heap.size g7 d7 ys) := Lib.hid (OwnV.below Y9.out hb10 Y9.out.lt)
      have H10 : Hid (Own w10 w.heap.size g8 d8 V) := Lib.hid (OwnV.below H9.out hb10 H9.out.lt)
      have Q10 : Hid (OwnN w10 w.heap.size g10 d10 xs) := Lib.hid (OwnV.mono ho10 (Nat.le_trans B9.out.size ho10.le))
      clear hb10 B9 W9 X9 Y9 H9 ho10
      go_wp2_with fail
      refine (HEQ.out _ _ _ _ _ X10.out.lt Q10.out.lt X10.out.at Q10.out.at).mono ?_
      rintro e w11 ⟨rfl, hb11⟩
      have B11 := Lib.hid (below_to B10.out hb11 B10.out.size)
      have W11 : Hid (Own w11 w.heap.size g5 d5 V) := Lib.hid (OwnV.below W10.out hb11 W10.out.lt)
      have X11 : Hid (OwnN w11 w.heap.size g6 d6 xs) := Lib.hid (OwnV.below X10.out hb11 X10.out.lt)
      have Y11 : Hid (OwnN w11 w.heap.size g7 d7 ys) := Lib.hid (OwnV.below Y10.out hb11 Y10.out.lt)
      have H11 : Hid (Own w11 w.heap.size g8 d8 V) := Lib.hid (OwnV.below H10.out hb11 H10.out.lt)
      have Q11 : Hid (OwnN w11 w.heap.size g10 d10 xs) := Lib.hid (OwnV.below Q10.out hb11 Q10.out.lt)
      clear hb11 B10 W10 X10 Y10 H10 Q10
      clear Q11
      go_wp2_with fail
      refine (HTO'.out _ B11.out).mono ?_
      rintro e w12 ⟨g12, d12, rfl, ho12, hb12⟩
      have B12 := Lib.hid (below_to B11.out hb12 B11.out.size)
      have W12 : Hid (Own w12 w.heap.size g5 d5 V) := Lib.hid (OwnV.below W11.out hb12 W11.out.lt)
      have X12 : Hid (OwnN w12 w.heap.size g6 d6 xs) := Lib.hid (OwnV.below X11.out hb12 X11.out.lt)
      have Y12 : Hid (OwnN w12 w.heap.size g7 d7 ys) := Lib.hid (OwnV.below Y11.out hb12 Y11.out.lt)
      have H12 : Hid (Own w12 w.heap.size g8 d8 V) := Lib.hid (OwnV.below H11.out hb12 H11.out.lt)
      have Q12 : Hid (OwnN w12 w.heap.size g12 d12 ys) := Lib.hid (OwnV.mono ho12 (Nat.le_trans B11.out.size ho12.le))
      clear hb12 B11 W11 X11 Y11 H11 ho12
      go_wp2_with fail
      refine (HEQ'.out _ _ _ _ _ Y12.out.lt Q12.out.lt Y12.out.at Q12.out.at).mono ?_
      rintro e w13 ⟨rfl, hb13⟩
      have B13 := Lib.hid (below_to B12.out hb13 B12.out.size)
      have W13 : Hid (Own w13 w.heap.size g5 d5 V) := Lib.hid (OwnV.below W12.out hb13 W12.out.lt)
      have X13 : Hid (OwnN w13 w.heap.size g6 d6 xs) := Lib.hid (OwnV.below X12.out hb13 X12.out.lt)
      have Y13 : Hid (OwnN w13 w.heap.size g7 d7 ys) := Lib.hid (OwnV.below Y12.out hb13 Y12.out.lt)
      have H13 : Hid (Own w13 w.heap.size g8 d8 V) := Lib.hid (OwnV.below H12.out hb13 H12.out.lt)
      have Q13 : Hid (OwnN w13 w.heap.size g12 d12 ys) := Lib.hid (OwnV.below Q12.out hb13 Q12.out.lt)
      clear hb13 B12 W12 X12 Y12 H12 Q12
      clear Q13
      go_wp2_with fail
      refine (HMX.out _ X13.out).mono ?_
      rintro e w14 ⟨rfl, hg14⟩
      have B14 := Lib.hid (below_app B13.out hg14 X13.out.le)
      have W14 : Hid (Own w14 w.heap.size g5 d5 V) := Lib.hid (OwnV.grown W13.out hg14 (by have := row_ne W13.out X13.out; intro e; injection e; omega))
      have Y14 : Hid (OwnN w14 w.heap.size g7 d7 ys) := Lib.hid (OwnV.grown Y13.out hg14 (by have := LXY.out; intro e; injection e; omega))
      have H14 : Hid (Own w14 w.heap.size g8 d8 V) := Lib.hid (OwnV.grown H13.out hg14 (by have := row_ne H13.out X13.out; intro e; injection e; omega))
      clear hg14 B13 W13 X13 Y13 H13
      go_wp2_with fail
      refine (HMY.out _ Y14.out).mono ?_
      rintro e w15 ⟨rfl, hg15⟩
      have B15 := Lib.hid (below_app B14.out hg15 Y14.out.le)
      have W15 : Hid (Own w15 w.heap.size g5 d5 V) := Lib.hid (OwnV.grown W14.out hg15 (by have := row_ne W14.out Y14.out; intro e; injection e; omega))
      have H15 : Hid (Own w15 w.heap.size g8 d8 V) := Lib.hid (OwnV.grown H14.out hg15 (by have := row_ne H14.out Y14.out; intro e; injection e; omega))
      clear hg15 B14 W14 Y14 H14
      go_wp2_with fail
      refine (eqIntS_same _ _ _ _ _ _ V _ HVL.out H15.out.at W15.out.at).mono ?_
      rintro e w16 ⟨rfl, hq16⟩
      have hb16 := hq16.below w15.heap.size
      have B16 := Lib.hid (below_to B15.out hb16 B15.out.size)
      have W16 : Hid (Own w16 w.heap.size g5 d5 V) := Lib.hid (OwnV.below W15.out hb16 W15.out.lt)
      have H16 : Hid (Own w16 w.heap.size g8 d8 V) := Lib.hid (OwnV.below H15.out hb16 H15.out.lt)
      clear hq16 hb16 B15 W15 H15
      go_wp2_with fail
      refine (markIntS_any w.heap.size g8 d8 V 1 _ HV1.out (by omega) (by omega) H16.out).mono ?_
      rintro e w17 ⟨rfl, hm17, hg17, _⟩
      have B17 := Lib.hid (below_app B16.out hg17 H16.out.le)
      have W17 : Hid (Own w17 w.heap.size g5 d5 V) := Lib.hid (OwnV.grown W16.out hg17 (by have := LHW.out; intro e; injection e; omega))
      have H17 : Hid (Own w17 w.heap.size g8 d8 (marks 1 V.length)) := Lib.hid hm17
      clear hm17
      clear hg17 B16 W16 H16
      go_wp2_with fail
      refine (heldIntS_any g8 0 d8 V.length 1 _ HV1.out (by omega) (by omega) H17.out.at).mono ?_
      rintro e w18 ⟨rfl, rfl⟩
      go_wp2_with fail
      refine (HTO.out _ B17.out).mono ?_
      rintro e w18 ⟨g18, d18, rfl, ho18, hb18⟩
      have B18 := Lib.hid (below_to B17.out hb18 B17.out.size)
      have W18 : Hid (Own w18 w.heap.size g5 d5 V) := Lib.hid (OwnV.below W17.out hb18 W17.out.lt)
      have H18 : Hid (Own w18 w.heap.size g8 d8 (marks 1 V.length)) := Lib.hid (OwnV.below H17.out hb18 H17.out.lt)
      have X18 : Hid (OwnN w18 w.heap.size g18 d18 xs) := Lib.hid (OwnV.mono ho18 (Nat.le_trans B17.out.size ho18.le))
      clear hb18 B17 W17 H17 ho18
      go_wp2_with fail
      refine (HTO'.out _ B18.out).mono ?_
      rintro e w19 ⟨g19, d19, rfl, ho19, hb19⟩
      have B19 := Lib.hid (below_to B18.out hb19 B18.out.size)
      have W19 : Hid (Own w19 w.heap.size g5 d5 V) := Lib.hid (OwnV.below W18.out hb19 W18.out.lt)
      have H19 : Hid (Own w19 w.heap.size g8 d8 (marks 1 V.length)) := Lib.hid (OwnV.below H18.out hb19 H18.out.lt)
      have X19 : Hid (OwnN w19 w.heap.size g18 d18 xs) := Lib.hid (OwnV.below X18.out hb19 X18.out.lt)
      have Y19 : Hid (OwnN w19 w.heap.size g19 d19 ys) := Lib.hid (OwnV.mono ho19 (Nat.le_trans B18.out.size ho19.le))
      clear hb19 B18 W18 H18 X18 ho19
      go_wp2_with fail
      refine (HIM.out _ _ _ _ _ X19.out.rd Y19.out.rd).mono ?_
      rintro e w20 ⟨g20, d20, rfl, ho20, hb20⟩
      have B20 := Lib.hid (below_to B19.out hb20 B19.out.size)
      have W20 : Hid (Own w20 w.heap.size g5 d5 V) := Lib.hid (OwnV.below W19.out hb20 W19.out.lt)
      have H20 : Hid (Own w20 w.heap.size g8 d8 (marks 1 V.length)) := Lib.hid (OwnV.below H19.out hb20 H19.out.lt)
      have X20 : Hid (OwnN w20 w.heap.size g18 d18 xs) := Lib.hid (OwnV.below X19.out hb20 X19.out.lt)
      have Y20 : Hid (OwnN w20 w.heap.size g19 d19 ys) := Lib.hid (OwnV.below Y19.out hb20 Y19.out.lt)
      have K20 : Hid (Own w20 w.heap.size g20 d20 V) := Lib.hid (OwnV.mono ho20 (Nat.le_trans B19.out.size ho20.le))
      clear hb20 B19 W19 H19 X19 Y19 ho20
      clear X20 Y20
      go_wp2_with fail
      refine (eqIntS_same _ _ _ _ _ _ V _ HVL.out K20.out.at W20.out.at).mono ?_
      rintro e w21 ⟨rfl, hq21⟩
      have hb21 := hq21.below w20.heap.size
      have B21 := Lib.hid (below_to B20.out hb21 B20.out.size)
      have W21 : Hid (Own w21 w.heap.size g5 d5 V) := Lib.hid (OwnV.below W20.out hb21 W20.out.lt)
      have H21 : Hid (Own w21 w.heap.size g8 d8 (marks 1 V.length)) := Lib.hid (OwnV.below H20.out hb21 H20.out.lt)
      have K21 : Hid (Own w21 w.heap.size g20 d20 V) := Lib.hid (OwnV.below K20.out hb21 K20.out.lt)
      clear hq21 hb21 B20 W20 H20 K20
      go_wp2_with fail
      refine (heldIntS_any g8 0 d8 V.length 1 _ HV1.out (by omega) (by omega) H21.out.at).mono ?_
      rintro e w22 ⟨rfl, rfl⟩
      go_wp2_with fail
      go_ret
      exact ⟨rfl, B21.out⟩
    · rw [szN_f hbig'] at HSZ'
      clear hq hq' hbig hbig'
      go_enter Try.func9, Try.ntmps9
      go_wp2_with fail
      refine HSZ.out.mono ?_
      rintro e w1 ⟨rfl, hb1⟩
      have B1 := Lib.hid hb1
      clear hb1
      go_wp2_with fail
      refine (HSZ'.out _ B1.out).mono ?_
      rintro e w2 ⟨rfl, hb2⟩
      have B2 := Lib.hid (below_to B1.out hb2 B1.out.size)
      clear hb2 B1
      go_wp2_with fail
      go_ret
      exact ⟨rfl, B2.out⟩
  · rw [szN_f hbig] at HSZ
    clear hq hq' hbig
    go_enter Try.func9, Try.ntmps9
    go_wp2_with fail
    refine HSZ.out.mono ?_
    rintro e w1 ⟨rfl, hb1⟩
    have B1 := Lib.hid hb1
    clear hb1
    go_wp2_with fail
    go_ret
    exact ⟨rfl, B1.out⟩
end Go.Proofs.Ytebejpaghajhkaa
