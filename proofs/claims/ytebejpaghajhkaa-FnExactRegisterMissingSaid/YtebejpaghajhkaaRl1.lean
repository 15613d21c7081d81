/-
  The laws FnExactRegisterText, FnExactRegisterOffset, FnExactRegisterSlack, walked call by call. No condition.
-/
import Derived.Test.YtebejpaghajhkaaRg7
namespace Go.Proofs.Ytebejpaghajhkaa
open Go.RowKit
set_option linter.unusedVariables false
set_option linter.unusedSimpArgs false

theorem OwnN.rd {w : World} {base g c : Nat} {ns : List NV} (h : OwnN w base g c ns) : RdNt w (some ⟨g, 0, none⟩) ns := fun _ => ⟨g, 0, rfl, h.lt, h.at⟩
theorem OwnN.step {w w' : World} {base g c : Nat} {ns : List NV} (h : OwnN w base g c ns) (k : Below w.heap.size w w') : OwnN w' base g c ns := h.below k h.lt
theorem sz_of {ns : List NV} {w : World} {A : Option Addr} (h : ArgNt w A ns) (hl : ns.length ≤ 1048576) : SzNt ns := ⟨hl, fun k hk => (h.2.1 k hk).2⟩

set_option maxRecDepth 100000 in
set_option maxHeartbeats 1600000 in
theorem law_ExactRegisterText (A : Option Addr) (c : Nat) (ns : List NV) (w : World) (hq : ArgNt w A ns) :
    Calls Try.prog 4 #[.slice A ns.length c] w fun e w' => e = .returned (.bool true) ∧ Below w.heap.size w w' := by
  have HSZ := Lib.hid (szNoteS_any A c ns 1048576 w hq.2.2 (fun k hk => (hq.2.1 k hk).2) (by omega) hq.1)
  by_cases hbig : (ns.length : Int) + sumN ns ns.length ≤ 1048576
  · rw [szN_t hbig] at HSZ
    have hs := sz_of hq (by omega)
    have HR := Lib.hid hq.1
    have t0 := dec_f (show ¬ (1048576 : Int) - ns.length - sumN ns ns.length < 0 by omega)
    have HTO := Lib.hid (fun W (k : Below w.heap.size w W) => toNoteS_any A c ns W (by omega) (hq.1.below k))
    have HIM := Lib.hid (fun A' c' W h => implText_any A' c' ns W hs h)
    have HSP := Lib.hid (fun A' c' W h => specText_any A' c' ns W hs h)
    have HEQ := Lib.hid (fun b c b' c' W h1 h2 h3 h4 => eqNoteS_same b 0 c b' 0 c' ns W (by omega) h1 h2 h3 h4)
    obtain ⟨X, hX⟩ : ∃ X, (if regB ns then txt ns else ⟨#[]⟩) = X := ⟨_, rfl⟩
    rw [hX] at HIM HSP
    clear hX hq hs
    go_enter Try.func4, Try.ntmps4
    go_wp2_with fail
    refine HSZ.out.mono ?_
    rintro e w1 ⟨rfl, hb1⟩
    have B1 := Lib.hid hb1
    clear hb1
    go_wp2_with fail
    refine (HTO.out _ B1.out).mono ?_
    rintro e w2 ⟨g2, d2, rfl, ho2, hb2⟩
    have B2 := Lib.hid (below_to B1.out hb2 B1.out.size)
    have O2 := Lib.hid ho2
    clear hb2 ho2 B1
    go_wp2_with fail
    refine (HSP.out _ _ _ O2.out.rd).mono ?_
    rintro e w3 ⟨rfl, rfl⟩
    go_wp2_with fail
    refine (HTO.out _ B2.out).mono ?_
    rintro e w4 ⟨g4, d4, rfl, ho4, hb4⟩
    have B4 := Lib.hid (below_to B2.out hb4 B2.out.size)
    have O4 := Lib.hid ho4
    clear hb4 ho4 B2 O2
    go_wp2_with fail
    refine (HIM.out _ _ _ O4.out.rd).mono ?_
    rintro e w5 ⟨rfl, hb5⟩
    have B5 := Lib.hid (below_to B4.out hb5 B4.out.size)
    have O5 := Lib.hid (O4.out.step hb5)
    clear hb5 B4 O4
    go_wp2_with fail
    refine (HTO.out _ B5.out).mono ?_
    rintro e w6 ⟨g6, d6, rfl, ho6, hb6⟩
    have B6 := Lib.hid (below_to B5.out hb6 B5.out.size)
    have O6 := Lib.hid (O5.out.step hb6)
    have P6 := Lib.hid ho6
    clear hb6 ho6 B5 O5
    go_wp2_with fail
    refine (HEQ.out _ _ _ _ _ O6.out.lt P6.out.lt O6.out.at P6.out.at).mono ?_
    rintro e w7 ⟨rfl, hb7⟩
    have B7 := Lib.hid (below_to B6.out hb7 B6.out.size)
    clear hb7
    go_wp2_with fail
    go_ret
    exact ⟨rfl, B7.out⟩
  · rw [szN_f hbig] at HSZ
    clear hq hbig
    go_enter Try.func4, Try.ntmps4
    go_wp2_with fail
    refine HSZ.out.mono ?_
    rintro e w1 ⟨rfl, hb1⟩
    have B1 := Lib.hid hb1
    clear hb1
    go_wp2_with fail
    go_ret
    exact ⟨rfl, B1.out⟩

--@GENRL

set_option maxRecDepth 100000 in
set_option maxHeartbeats 3200000 in
theorem law_ExactRegisterOffset (A : Option Addr) (c : Nat) (xs : List NV) (A' : Option Addr) (c' : Nat) (ys : List NV) (sl : Int) (w : World) (hq : ArgNt w A xs) (hq' : ArgNt w A' ys) (hsl : -9223372036854775808 ≤ sl ∧ sl ≤ 9223372036854775807) :
    Calls Try.prog 5 #[.slice A xs.length c, .slice A' ys.length c', .int .i64 sl] w fun e w' => e = .returned (.bool true) ∧ Below w.heap.size w w' := by
  have HSZ := Lib.hid (szNoteS_any A c xs 1048576 w hq.2.2 (fun k hk => (hq.2.1 k hk).2) (by omega) hq.1)
  by_cases hbig : (xs.length : Int) + sumN xs xs.length ≤ 1048576
  · rw [szN_t hbig] at HSZ
    have t0 := dec_f (show ¬ (1048576 : Int) - xs.length - sumN xs xs.length < 0 by omega)
    have HSZ' := Lib.hid (fun W (k : Below w.heap.size w W) => szNoteS_any A' c' ys ((1048576 : Int) - xs.length - sumN xs xs.length) W hq'.2.2 (fun k hk => (hq'.2.1 k hk).2) (by omega) (hq'.1.below k))
    by_cases hbig' : (ys.length : Int) + sumN ys ys.length ≤ (1048576 : Int) - xs.length - sumN xs xs.length
    · rw [szN_t hbig'] at HSZ'
      have hs := sz_of hq (by omega)
      have hs' := sz_of hq' (by omega)
      have t1 := dec_f (show ¬ (1048576 : Int) - xs.length - sumN xs xs.length - ys.length - sumN ys ys.length < 0 by omega)
      have HTO := Lib.hid (fun W (k : Below w.heap.size w W) => toNoteS_any A c xs W (by omega) (hq.1.below k))
      have HTO' := Lib.hid (fun W (k : Below w.heap.size w W) => toNoteS_any A' c' ys W (by omega) (hq'.1.below k))
      have him := fun B d B' d' W h h' => implOffset_any B B' d d' xs ys sl W hs hs' h h'
      have hsp := fun B d B' d' W h h' => specOffset_any B B' d d' xs ys sl W hs hs' h h'
      obtain ⟨vx, vb, hV⟩ := offE_form (offV xs ys sl)
      rw [hV] at him hsp
      have HIM := Lib.hid him
      have HSP := Lib.hid hsp
      have HEQ := Lib.hid (fun b c b' c' W h1 h2 h3 h4 => eqNoteS_same b 0 c b' 0 c' xs W (by omega) h1 h2 h3 h4)
      have HEQ' := Lib.hid (fun b c b' c' W h1 h2 h3 h4 => eqNoteS_same b 0 c b' 0 c' ys W (by omega) h1 h2 h3 h4)
      have q0 := bne_f (show (vx : Int) = vx from rfl)
      have q1 : (vb != vb) = false := by simp
      clear hV him hsp hq hq' hs hs' hbig hbig'
      go_enter Try.func5, Try.ntmps5
      go_wp2_with fail
      refine HSZ.out.mono ?_
      rintro e w1 ⟨rfl, hb1⟩
      have B1 := Lib.hid hb1
      clear hb1
      go_wp2_with fail
      refine (HSZ'.out _ B1.out).mono ?_
      rintro e w2 ⟨rfl, hb2⟩
      have B2 := Lib.hid (below_to B1.out hb2 B1.out.size)
      clear hb2 B1
      go_wp2_with fail
      refine (HTO.out _ B2.out).mono ?_
      rintro e w3 ⟨g3, d3, rfl, ho3, hb3⟩
      have B3 := Lib.hid (below_to B2.out hb3 B2.out.size)
      have O3 := Lib.hid ho3
      clear hb3 ho3 B2
      go_wp2_with fail
      refine (HTO'.out _ B3.out).mono ?_
      rintro e w4 ⟨g4, d4, rfl, ho4, hb4⟩
      have B4 := Lib.hid (below_to B3.out hb4 B3.out.size)
      have O4 := Lib.hid (O3.out.step hb4)
      have P4 := Lib.hid ho4
      clear hb4 ho4 B3 O3
      go_wp2_with fail
      refine (HSP.out _ _ _ _ _ O4.out.rd P4.out.rd).mono ?_
      rintro e w5 ⟨rfl, hb5⟩
      have B5 := Lib.hid (below_to B4.out hb5 B4.out.size)
      clear hb5 B4 O4 P4
      go_wp2_with fail
      refine (HTO.out _ B5.out).mono ?_
      rintro e w6 ⟨g6, d6, rfl, ho6, hb6⟩
      have B6 := Lib.hid (below_to B5.out hb6 B5.out.size)
      have O6 := Lib.hid ho6
      clear hb6 ho6 B5
      go_wp2_with fail
      refine (HTO'.out _ B6.out).mono ?_
      rintro e w7 ⟨g7, d7, rfl, ho7, hb7⟩
      have B7 := Lib.hid (below_to B6.out hb7 B6.out.size)
      have O7 := Lib.hid (O6.out.step hb7)
      have P7 := Lib.hid ho7
      clear hb7 ho7 B6 O6
      go_wp2_with fail
      refine (HIM.out _ _ _ _ _ O7.out.rd P7.out.rd).mono ?_
      rintro e w8 ⟨rfl, hb8⟩
      have B8 := Lib.hid (below_to B7.out hb8 B7.out.size)
      have O8 := Lib.hid (O7.out.step hb8)
      have P8 := Lib.hid (P7.out.step hb8)
      clear hb8 B7 O7 P7
      go_wp2_with fail
      refine (HTO.out _ B8.out).mono ?_
      rintro e w9 ⟨g9, d9, rfl, ho9, hb9⟩
      have B9 := Lib.hid (below_to B8.out hb9 B8.out.size)
      have O9 := Lib.hid (O8.out.step hb9)
      have P9 := Lib.hid (P8.out.step hb9)
      have Q9 := Lib.hid ho9
      clear hb9 ho9 B8 O8 P8
      go_wp2_with fail
      refine (HEQ.out _ _ _ _ _ O9.out.lt Q9.out.lt O9.out.at Q9.out.at).mono ?_
      rintro e w10 ⟨rfl, hb10⟩
      have B10 := Lib.hid (below_to B9.out hb10 B9.out.size)
      have P10 := Lib.hid (P9.out.step hb10)
      clear hb10 B9 O9 P9 Q9
      go_wp2_with fail
      refine (HTO'.out _ B10.out).mono ?_
      rintro e w11 ⟨g11, d11, rfl, ho11, hb11⟩
      have B11 := Lib.hid (below_to B10.out hb11 B10.out.size)
      have P11 := Lib.hid (P10.out.step hb11)
      have Q11 := Lib.hid ho11
      clear hb11 ho11 B10 P10
      go_wp2_with fail
      refine (HEQ'.out _ _ _ _ _ P11.out.lt Q11.out.lt P11.out.at Q11.out.at).mono ?_
      rintro e w12 ⟨rfl, hb12⟩
      have B12 := Lib.hid (below_to B11.out hb12 B11.out.size)
      clear hb12
      go_wp2_with fail
      go_ret
      exact ⟨rfl, B12.out⟩
    · rw [szN_f hbig'] at HSZ'
      clear hq hq' hbig hbig'
      go_enter Try.func5, Try.ntmps5
      go_wp2_with fail
      refine HSZ.out.mono ?_
      rintro e w1 ⟨rfl, hb1⟩
      have B1 := Lib.hid hb1
      clear hb1
      go_wp2_with fail
      refine (HSZ'.out _ B1.out).mono ?_
      rintro e w2 ⟨rfl, hb2⟩
      have B2 := Lib.hid (below_to B1.out hb2 B1.out.size)
      clear hb2 B1
      go_wp2_with fail
      go_ret
      exact ⟨rfl, B2.out⟩
  · rw [szN_f hbig] at HSZ
    clear hq hq' hbig
    go_enter Try.func5, Try.ntmps5
    go_wp2_with fail
    refine HSZ.out.mono ?_
    rintro e w1 ⟨rfl, hb1⟩
    have B1 := Lib.hid hb1
    clear hb1
    go_wp2_with fail
    go_ret
    exact ⟨rfl, B1.out⟩

set_option maxRecDepth 100000 in
set_option maxHeartbeats 3200000 in
theorem law_ExactRegisterSlack (A : Option Addr) (c : Nat) (xs : List NV) (A' : Option Addr) (c' : Nat) (ys : List NV) (w : World) (hq : ArgNt w A xs) (hq' : ArgNt w A' ys) :
    Calls Try.prog 6 #[.slice A xs.length c, .slice A' ys.length c'] w fun e w' => e = .returned (.bool true) ∧ Below w.heap.size w w' := by
  have HSZ := Lib.hid (szNoteS_any A c xs 1048576 w hq.2.2 (fun k hk => (hq.2.1 k hk).2) (by omega) hq.1)
  by_cases hbig : (xs.length : Int) + sumN xs xs.length ≤ 1048576
  · rw [szN_t hbig] at HSZ
    have t0 := dec_f (show ¬ (1048576 : Int) - xs.length - sumN xs xs.length < 0 by omega)
    have HSZ' := Lib.hid (fun W (k : Below w.heap.size w W) => szNoteS_any A' c' ys ((1048576 : Int) - xs.length - sumN xs xs.length) W hq'.2.2 (fun k hk => (hq'.2.1 k hk).2) (by omega) (hq'.1.below k))
    by_cases hbig' : (ys.length : Int) + sumN ys ys.length ≤ (1048576 : Int) - xs.length - sumN xs xs.length
    · rw [szN_t hbig'] at HSZ'
      have hs := sz_of hq (by omega)
      have hs' := sz_of hq' (by omega)
      have t1 := dec_f (show ¬ (1048576 : Int) - xs.length - sumN xs xs.length - ys.length - sumN ys ys.length < 0 by omega)
      have HTO := Lib.hid (fun W (k : Below w.heap.size w W) => toNoteS_any A c xs W (by omega) (hq.1.below k))
      have HTO' := Lib.hid (fun W (k : Below w.heap.size w W) => toNoteS_any A' c' ys W (by omega) (hq'.1.below k))
      have him := fun B d B' d' W h h' => implSlack_any B B' d d' xs ys W hs hs' h h'
      have hsp := fun B d B' d' W h h' => specSlack_any B B' d d' xs ys W hs hs' h h'
      obtain ⟨vx, vb, hV⟩ := slE_form (slV xs ys)
      rw [hV] at him hsp
      have HIM := Lib.hid him
      have HSP := Lib.hid hsp
      have HEQ := Lib.hid (fun b c b' c' W h1 h2 h3 h4 => eqNoteS_same b 0 c b' 0 c' xs W (by omega) h1 h2 h3 h4)
      have HEQ' := Lib.hid (fun b c b' c' W h1 h2 h3 h4 => eqNoteS_same b 0 c b' 0 c' ys W (by omega) h1 h2 h3 h4)
      have q0 := bne_f (show (vx : Int) = vx from rfl)
      have q1 : (vb != vb) = false := by simp
      clear hV him hsp hq hq' hs hs' hbig hbig'
      go_enter Try.func6, Try.ntmps6
      go_wp2_with fail
      refine HSZ.out.mono ?_
      rintro e w1 ⟨rfl, hb1⟩
      have B1 := Lib.hid hb1
      clear hb1
      go_wp2_with fail
      refine (HSZ'.out _ B1.out).mono ?_
      rintro e w2 ⟨rfl, hb2⟩
      have B2 := Lib.hid (below_to B1.out hb2 B1.out.size)
      clear hb2 B1
      go_wp2_with fail
      refine (HTO.out _ B2.out).mono ?_
      rintro e w3 ⟨g3, d3, rfl, ho3, hb3⟩
      have B3 := Lib.hid (below_to B2.out hb3 B2.out.size)
      have O3 := Lib.hid ho3
      clear hb3 ho3 B2
      go_wp2_with fail
      refine (HTO'.out _ B3.out).mono ?_
      rintro e w4 ⟨g4, d4, rfl, ho4, hb4⟩
      have B4 := Lib.hid (below_to B3.out hb4 B3.out.size)
      have O4 := Lib.hid (O3.out.step hb4)
      have P4 := Lib.hid ho4
      clear hb4 ho4 B3 O3
      go_wp2_with fail
      refine (HSP.out _ _ _ _ _ O4.out.rd P4.out.rd).mono ?_
      rintro e w5 ⟨rfl, hb5⟩
      have B5 := Lib.hid (below_to B4.out hb5 B4.out.size)
      clear hb5 B4 O4 P4
      go_wp2_with fail
      refine (HTO.out _ B5.out).mono ?_
      rintro e w6 ⟨g6, d6, rfl, ho6, hb6⟩
      have B6 := Lib.hid (below_to B5.out hb6 B5.out.size)
      have O6 := Lib.hid ho6
      clear hb6 ho6 B5
      go_wp2_with fail
      refine (HTO'.out _ B6.out).mono ?_
      rintro e w7 ⟨g7, d7, rfl, ho7, hb7⟩
      have B7 := Lib.hid (below_to B6.out hb7 B6.out.size)
      have O7 := Lib.hid (O6.out.step hb7)
      have P7 := Lib.hid ho7
      clear hb7 ho7 B6 O6
      go_wp2_with fail
      refine (HIM.out _ _ _ _ _ O7.out.rd P7.out.rd).mono ?_
      rintro e w8 ⟨rfl, hb8⟩
      have B8 := Lib.hid (below_to B7.out hb8 B7.out.size)
      have O8 := Lib.hid (O7.out.step hb8)
      have P8 := Lib.hid (P7.out.step hb8)
      clear hb8 B7 O7 P7
      go_wp2_with fail
      refine (HTO.out _ B8.out).mono ?_
      rintro e w9 ⟨g9, d9, rfl, ho9, hb9⟩
      have B9 := Lib.hid (below_to B8.out hb9 B8.out.size)
      have O9 := Lib.hid (O8.out.step hb9)
      have P9 := Lib.hid (P8.out.step hb9)
      have Q9 := Lib.hid ho9
      clear hb9 ho9 B8 O8 P8
      go_wp2_with fail
      refine (HEQ.out _ _ _ _ _ O9.out.lt Q9.out.lt O9.out.at Q9.out.at).mono ?_
      rintro e w10 ⟨rfl, hb10⟩
      have B10 := Lib.hid (below_to B9.out hb10 B9.out.size)
      have P10 := Lib.hid (P9.out.step hb10)
      clear hb10 B9 O9 P9 Q9
      go_wp2_with fail
      refine (HTO'.out _ B10.out).mono ?_
      rintro e w11 ⟨g11, d11, rfl, ho11, hb11⟩
      have B11 := Lib.hid (below_to B10.out hb11 B10.out.size)
      have P11 := Lib.hid (P10.out.step hb11)
      have Q11 := Lib.hid ho11
      clear hb11 ho11 B10 P10
      go_wp2_with fail
      refine (HEQ'.out _ _ _ _ _ P11.out.lt Q11.out.lt P11.out.at Q11.out.at).mono ?_
      rintro e w12 ⟨rfl, hb12⟩
      have B12 := Lib.hid (below_to B11.out hb12 B11.out.size)
      clear hb12
      go_wp2_with fail
      go_ret
      exact ⟨rfl, B12.out⟩
    · rw [szN_f hbig'] at HSZ'
      clear hq hq' hbig hbig'
      go_enter Try.func6, Try.ntmps6
      go_wp2_with fail
      refine HSZ.out.mono ?_
      rintro e w1 ⟨rfl, hb1⟩
      have B1 := Lib.hid hb1
      clear hb1
      go_wp2_with fail
      refine (HSZ'.out _ B1.out).mono ?_
      rintro e w2 ⟨rfl, hb2⟩
      have B2 := Lib.hid (below_to B1.out hb2 B1.out.size)
      clear hb2 B1
      go_wp2_with fail
      go_ret
      exact ⟨rfl, B2.out⟩
  · rw [szN_f hbig] at HSZ
    clear hq hq' hbig
    go_enter Try.func6, Try.ntmps6
    go_wp2_with fail
    refine HSZ.out.mono ?_
    rintro e w1 ⟨rfl, hb1⟩
    have B1 := Lib.hid hb1
    clear hb1
    go_wp2_with fail
    go_ret
    exact ⟨rfl, B1.out⟩
end Go.Proofs.Ytebejpaghajhkaa
