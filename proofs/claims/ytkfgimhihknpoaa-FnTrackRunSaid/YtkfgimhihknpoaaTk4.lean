/-
  l7Step and TrackStep of the program and of the reference. No condition but strings that have a length.
-/
import Derived.Test.YtkfgimhihknpoaaTk3
namespace Go.Proofs.Ytkfgimhihknpoaa
open Go.RowKit
set_option linter.unusedVariables false

set_option maxHeartbeats 1600000 in
theorem l7Step_yes (s n i : Nat) (w : World) (h2 : n ≤ 8) (hi : i < n) (hcan : canB s n i = true) :
    Calls Try.prog 36 #[.string (T s n), .int .i64 i] w fun e w' => e = .returned (.tuple #[.string (T (s ^^^ 2 ^ i) n), .bool true]) ∧ Qt w w' := by
  have hg := T_get s n
  have hz := T_size s n
  have hmid := T_mid s n i hi
  generalize T s n = S at *
  have z1 : S.size ≤ n := by omega
  have z2 : n ≤ S.size := by omega
  have i0 : i < S.size := by omega
  have i0' : (i : Int) < (S.size : Int) := by omega
  have i0'' : (i : Int) + 1 ≤ (S.size : Int) := by omega
  have hgi := hg i i0
  by_cases hb : s.testBit i = true
  · rw [ch_t hb] at hgi
    have hm : S.extract 0 i ++ ⟨#[48]⟩ ++ S.extract (i + 1) S.size = T (s ^^^ 2 ^ i) n := by rw [hz]; exact hmid 48 (by rw [hb]; rfl)
    have HM := Lib.hid hm
    unfold canB at hcan
    rw [if_pos hb] at hcan
    by_cases hl : i + 1 = n
    · have t0 := beq_t (show (i : Int) = (S.size : Int) - 1 by omega)
      clear hmid hm hz hl hcan hg
      go_enter Try.func36, Try.ntmps36
      go_wp2_with fail
      go_quiet (fail)
      go_wp2_with fail
      go_ret2
      exact ⟨ret_strb HM.out, _, rfl⟩
    · have hp : s.testBit (i + 1) = true := by simpa [hl] using hcan
      have t0 := beq_f (show (i : Int) ≠ (S.size : Int) - 1 by omega)
      have i1 : i + 1 < S.size := by omega
      have i1' : (i : Int) + 1 < (S.size : Int) := by omega
      have hgp := hg (i + 1) i1
      rw [ch_t hp] at hgp
      clear hmid hm hz hl hcan hg
      go_enter Try.func36, Try.ntmps36
      go_wp2_with fail
      go_quiet (fail)
      go_wp2_with fail
      go_ret2
      exact ⟨ret_strb HM.out, _, rfl⟩
  · have hb' : s.testBit i = false := by simpa using hb
    rw [ch_f hb'] at hgi
    have hm : S.extract 0 i ++ ⟨#[49]⟩ ++ S.extract (i + 1) S.size = T (s ^^^ 2 ^ i) n := by rw [hz]; exact hmid 49 (by rw [hb']; rfl)
    have HM := Lib.hid hm
    unfold canB at hcan
    rw [if_neg hb] at hcan
    by_cases hl : i = 0
    · have t0 := beq_t (show (i : Int) = 0 by omega)
      have HL := Lib.hid hl
      clear hmid hm hz hl hcan hg hb
      go_enter Try.func36, Try.ntmps36
      go_wp2_with fail
      go_quiet (fail)
      go_wp2_with fail
      go_ret2
      exact ⟨ret_strb HM.out, _, rfl⟩
    · have hp : s.testBit (i - 1) = true := by simpa [hl] using hcan
      have t0 := beq_f (show (i : Int) ≠ 0 by omega)
      have i1 : i - 1 < S.size := by omega
      have hgp := hg (i - 1) i1
      rw [ch_t hp] at hgp
      clear hmid hm hz hcan hg hb
      go_enter Try.func36, Try.ntmps36
      go_wp2_with fail
      go_quiet (fail)
      go_wp2_with fail
      go_ret2
      exact ⟨ret_strb HM.out, _, rfl⟩

set_option maxHeartbeats 1600000 in
theorem l7Step_no (s n i : Nat) (w : World) (h2 : n ≤ 8) (hi : i < n) (hcan : canB s n i = false) :
    Calls Try.prog 36 #[.string (T s n), .int .i64 i] w fun e w' => e = .returned (.tuple #[.string ⟨#[]⟩, .bool false]) ∧ Qt w w' := by
  have hg := T_get s n
  have hz := T_size s n
  generalize T s n = S at *
  have z1 : S.size ≤ n := by omega
  have z2 : n ≤ S.size := by omega
  have i0 : i < S.size := by omega
  have hgi := hg i i0
  by_cases hb : s.testBit i = true
  · rw [ch_t hb] at hgi
    unfold canB at hcan
    rw [if_pos hb] at hcan
    have hl : ¬ i + 1 = n := by intro h; simp [h] at hcan
    have hp : s.testBit (i + 1) = false := by simpa [hl] using hcan
    have t0 := beq_f (show (i : Int) ≠ (S.size : Int) - 1 by omega)
    have i1 : i + 1 < S.size := by omega
    have hgp := hg (i + 1) i1
    rw [ch_f hp] at hgp
    clear hz hcan hg
    go_enter Try.func36, Try.ntmps36
    go_wp2_with fail
    go_ret2
    exact ⟨rfl, 0, rfl⟩
  · have hb' : s.testBit i = false := by simpa using hb
    rw [ch_f hb'] at hgi
    unfold canB at hcan
    rw [if_neg hb] at hcan
    have hl : ¬ i = 0 := by intro h; simp [h] at hcan
    have hp : s.testBit (i - 1) = false := by simpa [hl] using hcan
    have t0 := beq_f (show (i : Int) ≠ 0 by omega)
    have i1 : i - 1 < S.size := by omega
    have hgp := hg (i - 1) i1
    rw [ch_f hp] at hgp
    clear hz hcan hg hb
    go_enter Try.func36, Try.ntmps36
    go_wp2_with fail
    go_ret2
    exact ⟨rfl, 0, rfl⟩

/-- What TrackStep hands back. -/
def stepOk (S : ByteArray) (i : Int) : Bool := trB S && (inB 0 ((S.size : Int) - 1) i && canB (tset S) S.size i.toNat)
def stepV (S : ByteArray) (i : Int) : ByteArray := if stepOk S i = true then T (tset S ^^^ 2 ^ i.toNat) S.size else ⟨#[]⟩
theorem stepOk_T (s n i : Nat) (h1 : 1 ≤ n) (h2 : n ≤ 8) (hs : s < 2 ^ n) (hi : i < n) : stepOk (T s n) (i : Int) = canB s n i := by
  unfold stepOk
  rw [trB_of s n h1 h2, T_size, tset_T s n h1 h2 hs, inB_true (by omega)]
  simp
theorem stepV_T (s n i : Nat) (h1 : 1 ≤ n) (h2 : n ≤ 8) (hs : s < 2 ^ n) (hi : i < n) (hc : canB s n i = true) : stepV (T s n) (i : Int) = T (s ^^^ 2 ^ i) n := by
  unfold stepV
  rw [stepOk_T s n i h1 h2 hs hi, if_pos hc, tset_T s n h1 h2 hs, T_size]
  simp
theorem stepV_no {S : ByteArray} {i : Int} (h : stepOk S i = false) : stepV S i = ⟨#[]⟩ := by simp [stepV, h]

set_option maxHeartbeats 800000 in
theorem spec_step (S : ByteArray) (i : Int) (w : World) (hS : S.size ≤ 9223372036854775807) :
    Calls Try.prog 21 #[.string S, .int .i64 i] w fun e w' => e = .returned (.tuple #[.string (stepV S i), .bool (stepOk S i)]) ∧ Qt w w' := by
  by_cases hv : trB S = true
  · by_cases hi : inB 0 ((S.size : Int) - 1) i = true
    · obtain ⟨s, n, h1, h2, hs, rfl⟩ := trB_T hv
      have hii := inB_iff.1 hi
      rw [T_size] at hii
      obtain ⟨I, rfl⟩ := Int.eq_ofNat_of_zero_le hii.1
      have hIn : I < n := by omega
      rw [stepOk_T s n I h1 h2 hs hIn]
      by_cases hc : canB s n I = true
      · rw [stepV_T s n I h1 h2 hs hIn hc, hc]
        have hl := fun w => l7Step_yes s n I w h2 hIn hc
        have htv := fun w => spec_tvT s n w h1 h2
        have hz := T_size s n
        generalize T s n = S at *
        have z1 : 1 ≤ S.size := by omega
        have z2 : S.size ≤ 8 := by omega
        have HL := Lib.hid hl
        have HTV := Lib.hid htv
        clear hl htv hz hc hii hv
        go_enter Try.func21, Try.ntmps21
        go_wp2_with (first | (go_at_call 35; refine (HTV.out _).mono ?_; rintro e w' ⟨rfl, rfl⟩) | (go_at_call 46; refine (l6In_any _ _ _ _).mono ?_; rintro e w' ⟨rfl, rfl⟩) | (go_at_call 36; refine (HL.out _).mono ?_; rintro e w1 ⟨rfl, hq⟩; have Q1 := Lib.hid hq; clear hq))
        go_ret2
        exact ⟨rfl, Q1.out⟩
      · have hc' : canB s n I = false := by simpa using hc
        rw [stepV_no (by rw [stepOk_T s n I h1 h2 hs hIn]; exact hc'), hc']
        have hl := fun w => l7Step_no s n I w h2 hIn hc'
        have htv := fun w => spec_tvT s n w h1 h2
        have hz := T_size s n
        generalize T s n = S at *
        have z1 : 1 ≤ S.size := by omega
        have z2 : S.size ≤ 8 := by omega
        have HL := Lib.hid hl
        have HTV := Lib.hid htv
        clear hl htv hz hc hc' hii hv
        go_enter Try.func21, Try.ntmps21
        go_wp2_with (first | (go_at_call 35; refine (HTV.out _).mono ?_; rintro e w' ⟨rfl, rfl⟩) | (go_at_call 46; refine (l6In_any _ _ _ _).mono ?_; rintro e w' ⟨rfl, rfl⟩) | (go_at_call 36; refine (HL.out _).mono ?_; rintro e w1 ⟨rfl, hq⟩; have Q1 := Lib.hid hq; clear hq))
        go_ret2
        exact ⟨rfl, Q1.out⟩
    · have hi' : inB 0 ((S.size : Int) - 1) i = false := by simpa using hi
      have hf : stepOk S i = false := by unfold stepOk; rw [hi']; simp
      rw [stepV_no hf, hf]
      have hl := trB_len hv
      have l1 := hl.1
      have l2 := hl.2
      clear hi hf hl
      go_enter Try.func21, Try.ntmps21
      go_wp2_with (first | (go_at_call 35; refine (spec_tv S _ hS).mono ?_; rintro e w' ⟨rfl, rfl⟩) | (go_at_call 46; refine (l6In_any _ _ _ _).mono ?_; rintro e w' ⟨rfl, rfl⟩))
      go_ret2
      exact ⟨rfl, 0, rfl⟩
  · have hv' : trB S = false := by simpa using hv
    have hf : stepOk S i = false := by unfold stepOk; rw [hv']; simp
    rw [stepV_no hf, hf]
    clear hv hf
    go_enter Try.func21, Try.ntmps21
    go_wp2_with (go_at_call 35; refine (spec_tv S _ hS).mono ?_; rintro e w' ⟨rfl, rfl⟩)
    go_ret2
    exact ⟨rfl, 0, rfl⟩

set_option maxHeartbeats 800000 in
theorem impl_step (S : ByteArray) (i : Int) (w : World) (hS : S.size ≤ 9223372036854775807) :
    Calls Try.prog 18 #[.string S, .int .i64 i] w fun e w' => e = .returned (.tuple #[.string (stepV S i), .bool (stepOk S i)]) ∧ Below w.heap.size w w' := by
  by_cases hv : trB S = true
  · obtain ⟨s, n, h1, h2, hs, rfl⟩ := trB_T hv
    have hto := fun w => trackOf_yes s n w h1 h2 hs
    have HTO := Lib.hid hto
    clear hto
    have hp8 := pow8 h2
    have hs16 : s < 65536 := by omega
    clear hp8
    by_cases hi0 : 0 ≤ i
    · have t0 := dec_f (show ¬ i < 0 by omega)
      obtain ⟨I, rfl⟩ := Int.eq_ofNat_of_zero_le hi0
      by_cases hIn : I < n
      · have t1 := dec_f (show ¬ n ≤ I by omega)
        rw [stepOk_T s n I h1 h2 hs hIn]
        have hcan := fun w => can_any s n I w hs16 h2 hIn
        by_cases hc : canB s n I = true
        · rw [stepV_T s n I h1 h2 hs hIn hc, hc]
          rw [hc] at hcan
          have hchg := fun w => chg_any s n I w hs16 (by omega)
          have hf16 : s ^^^ 2 ^ I < 65536 := by have := flip_lt hs hIn; have := pow8 h2; omega
          have htx := fun w => text_any (s ^^^ 2 ^ I) n w hf16 h2
          generalize s ^^^ 2 ^ I = s2 at *
          generalize T s n = S at *
          generalize T s2 n = S2 at *
          have HC := Lib.hid hcan
          have HG := Lib.hid hchg
          have HX := Lib.hid htx
          clear hcan hchg htx hc hf16 hv
          go_enter Try.func18, Try.ntmps18
          go_wp2_with (first | (go_at_call 38; refine (HTO.out _).mono ?_; rintro e w1 ⟨rfl, hb1⟩; have B1 := Lib.hid (below_new' hb1 (.cells #[.int .u16 s, .int .i64 n] 54)); have K1 := Lib.hid (Blk.new w1 54 #[.int .u16 s, .int .i64 n]); clear hb1) | (go_at_call 39; refine (HC.out _).mono ?_; rintro e w2 ⟨rfl, hb2⟩; have B2 := Lib.hid (below_to B1.out hb2 B1.out.size); have c0 := (K1.out.below hb2 K1.out.lt).cell 0; have c1 := (K1.out.below hb2 K1.out.lt).cell 1; clear hb2) | (go_at_call 40; refine (HG.out _).mono ?_; rintro e w3 ⟨rfl, hb3⟩; have B3 := Lib.hid (below_to B2.out hb3 B2.out.size); clear hb3) | (go_at_call 44; refine (HX.out _).mono ?_; rintro e w4 ⟨rfl, hb4⟩; have B4 := Lib.hid (below_to B3.out hb4 B3.out.size); clear hb4))
          go_ret2
          exact ⟨rfl, B4.out⟩
        · have hc' : canB s n I = false := by simpa using hc
          rw [stepV_no (by rw [stepOk_T s n I h1 h2 hs hIn]; exact hc'), hc']
          rw [hc'] at hcan
          generalize T s n = S at *
          have HC := Lib.hid hcan
          clear hcan hc hc' hv
          go_enter Try.func18, Try.ntmps18
          go_wp2_with (first | (go_at_call 38; refine (HTO.out _).mono ?_; rintro e w1 ⟨rfl, hb1⟩; have B1 := Lib.hid (below_new' hb1 (.cells #[.int .u16 s, .int .i64 n] 54)); have K1 := Lib.hid (Blk.new w1 54 #[.int .u16 s, .int .i64 n]); clear hb1) | (go_at_call 39; refine (HC.out _).mono ?_; rintro e w2 ⟨rfl, hb2⟩; have B2 := Lib.hid (below_to B1.out hb2 B1.out.size); clear hb2))
          go_ret2
          exact ⟨rfl, B2.out⟩
      · have t1 := dec_t (show n ≤ I by omega)
        have hf : stepOk (T s n) (I : Int) = false := by unfold stepOk; rw [T_size, inB_false (by omega)]; simp
        rw [stepV_no hf, hf]
        generalize T s n = S at *
        clear hf hv
        go_enter Try.func18, Try.ntmps18
        go_wp2_with (go_at_call 38; refine (HTO.out _).mono ?_; rintro e w1 ⟨rfl, hb1⟩; have B1 := Lib.hid (below_new' hb1 (.cells #[.int .u16 s, .int .i64 n] 54)); clear hb1)
        go_ret2
        exact ⟨rfl, B1.out⟩
    · have t0 := dec_t (show i < 0 by omega)
      have hf : stepOk (T s n) i = false := by unfold stepOk; rw [T_size, inB_false (by omega)]; simp
      rw [stepV_no hf, hf]
      generalize T s n = S at *
      clear hf hv
      go_enter Try.func18, Try.ntmps18
      go_wp2_with (go_at_call 38; refine (HTO.out _).mono ?_; rintro e w1 ⟨rfl, hb1⟩; have B1 := Lib.hid (below_new' hb1 (.cells #[.int .u16 s, .int .i64 n] 54)); clear hb1)
      go_ret2
      exact ⟨rfl, B1.out⟩
  · have hv' : trB S = false := by simpa using hv
    have hf : stepOk S i = false := by unfold stepOk; rw [hv']; simp
    rw [stepV_no hf, hf]
    clear hv hf
    go_enter Try.func18, Try.ntmps18
    go_wp2_with (go_at_call 38; refine (trackOf_no S _ hS hv').mono ?_; rintro e w1 ⟨rfl, hb1⟩; have B1 := Lib.hid hb1; clear hb1)
    go_ret2
    exact ⟨rfl, below_new' B1.out _⟩


end Go.Proofs.Ytkfgimhihknpoaa
