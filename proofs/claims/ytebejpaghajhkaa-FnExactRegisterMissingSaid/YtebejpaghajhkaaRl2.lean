/-
  The laws FnExactRegisterSound and FnExactRegisterBlock, walked call by call. No condition.
-/
import Derived.Test.YtebejpaghajhkaaRl1
import Derived.Test.YtebejpaghajhkaaRg11
namespace Go.Proofs.Ytebejpaghajhkaa
open Go.RowKit
set_option linter.unusedVariables false
set_option linter.unusedSimpArgs false

set_option maxRecDepth 100000 in
set_option maxHeartbeats 1600000 in
theorem law_ExactRegisterSound (A : Option Addr) (c : Nat) (ns : List NV) (w : World) (hq : ArgNt w A ns) :
    Calls Try.prog 8 #[.slice A ns.length c] w fun e w' => e = .returned (.bool true) ∧ Below w.heap.size w w' := by
  have HSZ := Lib.hid (szNoteS_any A c ns 1048576 w hq.2.2 (fun k hk => (hq.2.1 k hk).2) (by omega) hq.1)
  by_cases hbig : (ns.length : Int) + sumN ns ns.length ≤ 1048576
  · rw [szN_t hbig] at HSZ
    have hs := sz_of hq (by omega)
    have t0 := dec_f (show ¬ (1048576 : Int) - ns.length - sumN ns ns.length < 0 by omega)
    have HTO := Lib.hid (fun W (k : Below w.heap.size w W) => toNoteS_any A c ns W (by omega) (hq.1.below k))
    have him := fun A' c' W h => implSound_any A' c' ns W hs h
    have hsp := fun A' c' W h => specSound_any A' c' ns W hs h
    have HEQ := Lib.hid (fun b c b' c' W h1 h2 h3 h4 => eqNoteS_same b 0 c b' 0 c' ns W (by omega) h1 h2 h3 h4)
    generalize sndB ns = V at *
    have HIM := Lib.hid him
    have HSP := Lib.hid hsp
    have q1 : (V != V) = false := by simp
    clear hq hs him hsp
    go_enter Try.func8, Try.ntmps8
    go_wp2_with fail
    refine HSZ.out.mono ?_
    rintro e w1 ⟨rfl, hb1⟩
    have B1 := Lib.hid hb1
    clear hb1
    go_wp2_with fail
    refine (HTO.out _ B1.out).mono ?_
    rintro e w2 ⟨g2, d2, rfl, ho2, hb2⟩
    have B2 := Lib.hid (below_to B1.out hb2 B1.out.size)
    have O2 := Lib.hid ho2
    clear hb2 ho2 B1
    go_wp2_with fail
    refine (HSP.out _ _ _ O2.out.rd).mono ?_
    rintro e w3 ⟨rfl, hb3⟩
    have B3 := Lib.hid (below_to B2.out hb3 B2.out.size)
    clear hb3 B2 O2
    go_wp2_with fail
    refine (HTO.out _ B3.out).mono ?_
    rintro e w4 ⟨g4, d4, rfl, ho4, hb4⟩
    have B4 := Lib.hid (below_to B3.out hb4 B3.out.size)
    have O4 := Lib.hid ho4
    clear hb4 ho4 B3
    go_wp2_with fail
    refine (HIM.out _ _ _ O4.out.rd).mono ?_
    rintro e w5 ⟨rfl, hb5⟩
    have B5 := Lib.hid (below_to B4.out hb5 B4.out.size)
    have O5 := Lib.hid (O4.out.step hb5)
    clear hb5 B4 O4
    go_wp2_with fail
    refine (HTO.out _ B5.out).mono ?_
    rintro e w6 ⟨g6, d6, rfl, ho6, hb6⟩
    have B6 := Lib.hid (below_to B5.out hb6 B5.out.size)
    have O6 := Lib.hid (O5.out.step hb6)
    have P6 := Lib.hid ho6
    clear hb6 ho6 B5 O5
    go_wp2_with fail
    refine (HEQ.out _ _ _ _ _ O6.out.lt P6.out.lt O6.out.at P6.out.at).mono ?_
    rintro e w7 ⟨rfl, hb7⟩
    have B7 := Lib.hid (below_to B6.out hb7 B6.out.size)
    clear hb7
    go_wp2_with fail
    go_ret
    exact ⟨rfl, B7.out⟩
  · rw [szN_f hbig] at HSZ
    clear hq hbig
    go_enter Try.func8, Try.ntmps8
    go_wp2_with fail
    refine HSZ.out.mono ?_
    rintro e w1 ⟨rfl, hb1⟩
    have B1 := Lib.hid hb1
    clear hb1
    go_wp2_with fail
    go_ret
    exact ⟨rfl, B1.out⟩

theorem eqBlockR_same (n : Int) (i o : Bool) (w : World) : Calls Try.prog 48 #[.agg #[.int .i64 n, .bool i, .bool o], .agg #[.int .i64 n, .bool i, .bool o]] w fun e w' => e = .returned (.bool true) ∧ Below w.heap.size w w' := by
  go_enter Try.func48, Try.ntmps48
  go_wp2
  go_ret
  exact ⟨rfl, below_new' (below_new w _) _⟩
theorem OwnN.cap2 {w : World} {base g c : Nat} {ns : List NV} (h : OwnN w base g c ns) : ns.length ≤ c ∧ c ≤ 9223372036854775807 := by
  obtain ⟨_, cur, _, _, h1, h2, _⟩ := OwnV.parts h
  unfold maxLen at h2
  omega
set_option maxRecDepth 100000 in
set_option maxHeartbeats 1600000 in
theorem law_ExactRegisterBlock (A : Option Addr) (c : Nat) (ns : List NV) (m : Int) (w : World) (hq : ArgNt w A ns) (hm : -9223372036854775808 ≤ m ∧ m ≤ 9223372036854775807) :
    Calls Try.prog 14 #[.slice A ns.length c, .int .i64 m] w fun e w' => e = .returned (.bool true) ∧ Below w.heap.size w w' := by
  have HSZ := Lib.hid (szNoteS_any A c ns 1048576 w hq.2.2 (fun k hk => (hq.2.1 k hk).2) (by omega) hq.1)
  by_cases hbig : (ns.length : Int) + sumN ns ns.length ≤ 1048576
  · rw [szN_t hbig] at HSZ
    have hs := sz_of hq (by omega)
    have t0 := dec_f (show ¬ (1048576 : Int) - ns.length - sumN ns ns.length < 0 by omega)
    have HTO := Lib.hid (fun W (k : Below w.heap.size w W) => toNoteS_any A c ns W (by omega) (hq.1.below k))
    have him := fun A' c' W h => implRBlock_any A' c' ns m W hs h
    have hsp := fun W base g d (h : OwnN W base g d ns) => specRBlock_any g 0 d ns m W hs h.cap2.1 h.cap2.2 h.lt h.at
    have HEQ := Lib.hid (fun b c b' c' W h1 h2 h3 h4 => eqNoteS_same b 0 c b' 0 c' ns W (by omega) h1 h2 h3 h4)
    unfold RunE at him hsp
    obtain ⟨x, hx⟩ := runE_form (blkJ ns m)
    rw [hx] at him hsp
    generalize decide (blkJ ns m < 5) = V at *
    have HIM := Lib.hid him
    have HSP := Lib.hid hsp
    have HEB := Lib.hid (fun W => eqBlockR_same x.1 x.2.1 x.2.2 W)
    have q1 : (V != V) = false := by simp
    clear hq hs him hsp hx
    go_enter Try.func14, Try.ntmps14
    go_wp2_with fail
    refine HSZ.out.mono ?_
    rintro e w1 ⟨rfl, hb1⟩
    have B1 := Lib.hid hb1
    clear hb1
    go_wp2_with fail
    refine (HTO.out _ B1.out).mono ?_
    rintro e w2 ⟨g2, d2, rfl, ho2, hb2⟩
    have B2 := Lib.hid (below_to B1.out hb2 B1.out.size)
    have O2 := Lib.hid ho2
    clear hb2 ho2 B1
    go_wp2_with fail
    refine (HSP.out _ _ _ _ O2.out).mono ?_
    rintro e w3 ⟨rfl, hb3⟩
    have S3 : Hid (Below w.heap.size w (w3.alloc (.cells #[.int .i64 x.1, .bool x.2.1, .bool x.2.2] 59)) ∧ Blk (w3.alloc (.cells #[.int .i64 x.1, .bool x.2.1, .bool x.2.2] 59)) w3.heap.size 59 #[.int .i64 x.1, .bool x.2.1, .bool x.2.2]) := Lib.hid ⟨below_new' (below_to B2.out hb3 B2.out.size) _, Blk.new _ _ _⟩
    clear hb3 B2 O2
    go_upto_region 6 with fail
    generalize w3.alloc (.cells #[.int .i64 x.1, .bool x.2.1, .bool x.2.2] 59) = W3 at *
    generalize w3.heap.size = P3 at *
    go_wp2_with fail
    refine (HTO.out _ S3.out.1).mono ?_
    rintro e w4 ⟨g4, d4, rfl, ho4, hb4⟩
    have B4 := Lib.hid (below_to S3.out.1 hb4 S3.out.1.size)
    have K4 := Lib.hid (S3.out.2.below hb4 S3.out.2.lt)
    have O4 := Lib.hid ho4
    clear hb4 ho4 S3
    go_wp2_with fail
    refine (HIM.out _ _ _ O4.out.rd).mono ?_
    rintro e w5 ⟨rfl, hb5⟩
    have B5 := Lib.hid (below_new' (below_to B4.out hb5 B4.out.size) (.cells #[.int .i64 x.1, .bool x.2.1, .bool x.2.2] 59))
    have K5 := Lib.hid ((K4.out.below hb5 K4.out.lt).alloc (.cells #[.int .i64 x.1, .bool x.2.1, .bool x.2.2] 59))
    have O5 : Hid (OwnN (w5.alloc (.cells #[.int .i64 x.1, .bool x.2.1, .bool x.2.2] 59)) _ g4 d4 ns) := Lib.hid (OwnV.alloc (O4.out.step hb5) _)
    have J5 := Lib.hid (Blk.new w5 59 #[.int .i64 x.1, .bool x.2.1, .bool x.2.2])
    clear hb5 B4 O4 K4
    go_upto_region 8 with fail
    generalize w5.alloc (.cells #[.int .i64 x.1, .bool x.2.1, .bool x.2.2] 59) = W5 at *
    obtain ⟨c0, c1, c2, _, _, _⟩ := blkCells K5.out
    obtain ⟨d0, d1, d2, _, _, _⟩ := blkCells J5.out
    go_wp2_with fail
    refine (HEB.out _).mono ?_
    rintro e w6 ⟨rfl, hb6⟩
    have B6 := Lib.hid (below_to B5.out hb6 B5.out.size)
    have O6 := Lib.hid (O5.out.step hb6)
    clear hb6 B5 O5 c0 c1 c2 d0 d1 d2
    go_wp2_with fail
    refine (HTO.out _ B6.out).mono ?_
    rintro e w7 ⟨g7, d7, rfl, ho7, hb7⟩
    have B7 := Lib.hid (below_to B6.out hb7 B6.out.size)
    have O7 := Lib.hid (O6.out.step hb7)
    have P7 := Lib.hid ho7
    clear hb7 ho7 B6 O6
    go_wp2_with fail
    refine (HEQ.out _ _ _ _ _ O7.out.lt P7.out.lt O7.out.at P7.out.at).mono ?_
    rintro e w8 ⟨rfl, hb8⟩
    have B8 := Lib.hid (below_to B7.out hb8 B7.out.size)
    clear hb8
    go_wp2_with fail
    go_ret
    exact ⟨rfl, B8.out⟩
  · rw [szN_f hbig] at HSZ
    clear hq hbig
    go_enter Try.func14, Try.ntmps14
    go_wp2_with fail
    refine HSZ.out.mono ?_
    rintro e w1 ⟨rfl, hb1⟩
    have B1 := Lib.hid hb1
    clear hb1
    go_wp2_with fail
    go_ret
    exact ⟨rfl, B1.out⟩
end Go.Proofs.Ytebejpaghajhkaa
