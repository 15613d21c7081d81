/-
  The law FnTrackBlocks. No condition.
-/
import Derived.Test.YtbieicbncchgkaaTl1
namespace Go.Proofs.Ytbieicbncchgkaa
open Go.RowKit
set_option linter.unusedVariables false

theorem blk_facts : ∀ n, n < 9 → ∀ s, s < 256 → s < 2 ^ n → blk (revT s n) n = blk s n ∧ 2 * blk s n ≤ n + 1 ∧ (decide (blk s n = 0) = decide (cnt s n = 0)) ∧ revT (revT s n) n = s := by decide +kernel

theorem eq0_bool {B C : Nat} (h : B = 0 ↔ C = 0) : (((B : Int) == 0) == ((C : Int) == 0)) = true := by
  have e : ((B : Int) == 0) = ((C : Int) == 0) := by
    rw [Bool.eq_iff_iff, beq_iff_eq, beq_iff_eq]
    omega
  rw [e]; simp
set_option maxHeartbeats 1600000 in
theorem law_TrackBlocks (A : Option Addr) (c : Nat) (ys : List Int) (w : World) (hq : ArgBytes w A c ys) :
    Calls Try.prog 3 #[.slice A ys.length c] w fun e w' => e = .returned (.bool true) ∧ Below w.heap.size w w' := by
  obtain ⟨hr, hlc, hc⟩ := hq
  by_cases hbig : 1048576 < ys.length
  · have t0 := dec_t (show (1048576 : Int) < (ys.length : Int) by omega)
    go_enter Try.func3, Try.ntmps3
    go_wp2_with fail
    go_ret
    exact ⟨rfl, Below.refl _ _⟩
  have t0 := dec_f (show ¬ (1048576 : Int) < (ys.length : Int) by omega)
  have HD := Lib.hid (draw_blocks A c ys.length w hlc hc hr)
  clear hr
  go_enter Try.func3, Try.ntmps3
  go_wp2_with fail
  refine HD.out.mono ?_
  rintro e w1 ⟨S, rfl, hS, hb1⟩
  have B1 := Lib.hid hb1
  clear hb1 HD
  by_cases hv : trB S = true
  · obtain ⟨s, n, h1, h2, hs, rfl⟩ := trB_T hv
    have hp8 := pow8 h2
    obtain ⟨f1, f2, f3, f4⟩ := blk_facts n (by omega) s (by omega) hs
    have hib := fun w => impl_blocksV (T s n) w (by omega)
    have hsb := fun w => spec_blocksV (T s n) w (by omega)
    rw [blkV_T s n h1 h2 hs] at hib hsb
    have hib2 := fun w => impl_blocksV (T (revT s n) n) w (by rw [T_size]; omega)
    rw [blkV_T _ n h1 h2 (revT_lt s n), f1] at hib2
    have ht1 := fun w => impl_turn s n w h1 h2 hs
    have ht2 := fun w => impl_turn (revT s n) n w h1 h2 (revT_lt s n)
    rw [f4] at ht2
    have hco := fun w => countOf_any (T s n) w (by omega)
    rw [T_size, cntB_T s n n (Nat.le_refl _)] at hco
    have hz := T_size s n
    have hble := blk_le s n
    have hcle := cnt_le s n
    generalize T (revT s n) n = S2 at *
    generalize T s n = S at *
    generalize blk s n = B at *
    generalize cnt s n = C at *
    have t1 := dec_f (show ¬ (B : Int) < 0 by omega)
    have t2 := dec_t (show (2 : Int) * (B : Int) - 1 ≤ (S.size : Int) by omega)
    have t3 : (B = 0) ↔ (C = 0) := by rw [decide_eq_decide] at f3; exact f3
    have HIB := Lib.hid hib
    have HSB := Lib.hid hsb
    have HIB2 := Lib.hid hib2
    have HT1 := Lib.hid ht1
    have HT2 := Lib.hid ht2
    have HCO := Lib.hid hco
    have T3 := Lib.hid t3
    clear hib hsb hib2 ht1 ht2 hco f1 f2 f3 f4 hv hs hp8 t3 hz
    go_wp2_with fail
    refine (HIB.out _).mono ?_
    rintro e w2 ⟨rfl, hb2⟩
    have B2 := Lib.hid (below_to B1.out hb2 B1.out.size)
    clear hb2
    go_wp2_with fail
    refine (HSB.out _).mono ?_
    rintro e w' ⟨rfl, rfl⟩
    go_wp2_with fail
    refine (HT1.out _).mono ?_
    rintro e w3 ⟨rfl, hb3⟩
    have B3 := Lib.hid (below_to B2.out hb3 B2.out.size)
    clear hb3
    go_wp2_with fail
    refine (HT2.out _).mono ?_
    rintro e w4 ⟨rfl, hb4⟩
    have B4 := Lib.hid (below_to B3.out hb4 B3.out.size)
    clear hb4
    go_wp2_with fail
    refine (HIB2.out _).mono ?_
    rintro e w5 ⟨rfl, hb5⟩
    have B5 := Lib.hid (below_to B4.out hb5 B4.out.size)
    clear hb5
    go_wp2_with fail
    refine (HCO.out _).mono ?_
    rintro e w' ⟨rfl, rfl⟩
    go_wp2_with fail
    go_ret
    exact ⟨ret_bool (eq0_bool T3.out), B5.out⟩
  · have hv' : trB S = false := by simpa using hv
    have hbv : blkV S = -1 := by unfold blkV; rw [if_neg hv]
    have hib := fun w => impl_blocksV S w (by omega)
    have hsb := fun w => spec_blocksV S w (by omega)
    rw [hbv] at hib hsb
    have HIB := Lib.hid hib
    have HSB := Lib.hid hsb
    clear hib hsb hbv hv hv'
    go_wp2_with fail
    refine (HIB.out _).mono ?_
    rintro e w2 ⟨rfl, hb2⟩
    have B2 := Lib.hid (below_to B1.out hb2 B1.out.size)
    clear hb2
    go_wp2_with fail
    refine (HSB.out _).mono ?_
    rintro e w' ⟨rfl, rfl⟩
    go_wp2_with fail
    go_ret
    exact ⟨rfl, B2.out⟩

end Go.Proofs.Ytbieicbncchgkaa
