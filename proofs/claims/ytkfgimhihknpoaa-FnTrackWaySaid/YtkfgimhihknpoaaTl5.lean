/-
  The law FnTrackStep. No condition.
-/
import Derived.Test.YtkfgimhihknpoaaTl4
namespace Go.Proofs.Ytkfgimhihknpoaa
open Go.RowKit
set_option linter.unusedVariables false

def blkdB (s n i : Nat) : Bool := !(canB s n i) || (decide (blk (s ^^^ 2 ^ i) n ≤ blk s n + 1) && decide (blk s n ≤ blk (s ^^^ 2 ^ i) n + 1))
theorem blkd_all : ∀ n, n < 9 → ∀ s, s < 256 → ∀ i, i < 8 → blkdB s n i = true := by decide +kernel
theorem blkd {n s i : Nat} (h2 : n ≤ 8) (hs : s < 2 ^ n) (hi : i < n) (hc : canB s n i = true) : blk (s ^^^ 2 ^ i) n ≤ blk s n + 1 ∧ blk s n ≤ blk (s ^^^ 2 ^ i) n + 1 := by
  have h := blkd_all n (by omega) s (by have := pow8 h2; omega) i (by omega)
  unfold blkdB at h
  rw [hc] at h
  simpa using h
theorem stepOk_parts {S : ByteArray} {i : Int} (h : stepOk S i = true) : ∃ s n k : Nat, 1 ≤ n ∧ n ≤ 8 ∧ s < 2 ^ n ∧ S = T s n ∧ i = (k : Int) ∧ k < n ∧ canB s n k = true := by
  unfold stepOk at h
  rw [Bool.and_eq_true, Bool.and_eq_true] at h
  obtain ⟨h1, h2, h3⟩ := h
  obtain ⟨s, n, a, b, c, rfl⟩ := trB_T h1
  rw [inB_iff, T_size] at h2
  obtain ⟨k, rfl⟩ := Int.eq_ofNat_of_zero_le h2.1
  refine ⟨s, n, k, a, b, c, rfl, rfl, by omega, ?_⟩
  have h4 : stepOk (T s n) (k : Int) = canB s n k := stepOk_T s n k a b c (by omega)
  unfold stepOk at h4
  rw [h1, h3, T_size] at h4
  rw [← h4, inB_true ⟨h2.1, h2.2⟩]
  rfl

set_option maxHeartbeats 3200000 in
theorem law_TrackStep (A : Option Addr) (c : Nat) (ys : List Int) (w : World) (hq : ArgBytes w A c ys) :
    Calls Try.prog 5 #[.slice A ys.length c] w fun e w' => e = .returned (.bool true) ∧ Below w.heap.size w w' := by
  obtain ⟨hr, hlc, hc⟩ := hq
  by_cases hbig : 1048576 < ys.length
  · have t0 := dec_t (show (1048576 : Int) < (ys.length : Int) by omega)
    go_enter Try.func5, Try.ntmps5
    go_wp2_with fail
    go_ret
    exact ⟨rfl, Below.refl _ _⟩
  have t0 := dec_f (show ¬ (1048576 : Int) < (ys.length : Int) by omega)
  have HD := Lib.hid (draw_step A c ys.length w hlc hc hr)
  clear hr
  go_enter Try.func5, Try.ntmps5
  go_wp2_with fail
  refine HD.out.mono ?_
  rintro e w1 ⟨S, i, rfl, hS, hi1, hi2, hb1⟩
  have B1 := Lib.hid hb1
  clear hb1 HD
  have his := fun w => impl_step S i w (by omega)
  have hss := fun w => spec_step S i w (by omega)
  by_cases hok : stepOk S i = true
  · rw [hok] at his hss
    obtain ⟨s, n, k, h1, h2, hs, rfl, rfl, hk, hcan⟩ := stepOk_parts hok
    rw [stepV_T s n k h1 h2 hs hk hcan] at his hss
    have hb := blkd h2 hs hk hcan
    have hib1 := fun w => impl_blocksV (T (s ^^^ 2 ^ k) n) w (by rw [T_size]; omega)
    have hib2 := fun w => impl_blocksV (T s n) w (by rw [T_size]; omega)
    rw [blkV_T _ n h1 h2 (flip_lt hs hk)] at hib1
    rw [blkV_T _ n h1 h2 hs] at hib2
    have hnx := fun w => impl_next (T s n) w (by rw [T_size]; omega)
    have hmem : decide ((k : Int) ∈ nx (T s n) (T s n).size) = true := dec_t ((mem_nx _ _ _).2 ⟨by rw [T_size]; exact hk, hok⟩)
    have hgetU := T_get (s ^^^ 2 ^ k) n
    have hgetS := T_get s n
    have hz := T_size s n
    have hzU := T_size (s ^^^ 2 ^ k) n
    have hbl1 := blk_le s n
    have hbl2 := blk_le (s ^^^ 2 ^ k) n
    have hnl := nx_length (T s n) (T s n).size
    generalize nx (T s n) (T s n).size = L at *
    generalize T (s ^^^ 2 ^ k) n = U at *
    generalize T s n = S at *
    generalize blk (s ^^^ 2 ^ k) n = D1 at *
    generalize blk s n = D2 at *
    have HIS := Lib.hid his
    have HSS := Lib.hid hss
    have HB1 := Lib.hid hib1
    have HB2 := Lib.hid hib2
    have HNX := Lib.hid hnx
    have HMEM := Lib.hid hmem
    have HGU := Lib.hid hgetU
    have HGS := Lib.hid hgetS
    have HZ := Lib.hid hz
    have HZU := Lib.hid hzU
    have hsz1 : S.size ≤ U.size := by omega
    have hsz2 : U.size ≤ S.size := by omega
    have hkS : k < S.size := by omega
    have hbd1 := hb.1
    have hbd2 := hb.2
    clear his hss hib1 hib2 hnx hmem hgetU hgetS hz hzU hok hb hs
    go_wp2_with fail
    refine (HIS.out _).mono ?_
    rintro e w2 ⟨rfl, hb2⟩
    have B2 := Lib.hid (below_to B1.out hb2 B1.out.size)
    clear hb2
    go_wp2_with fail
    refine (HSS.out _).mono ?_
    rintro e w3 ⟨rfl, hq3⟩
    have B3 := Lib.hid (below_to B2.out (hq3.below w2.heap.size) B2.out.size)
    clear hq3
    go_wp2_with fail
    refine (HB1.out _).mono ?_
    rintro e w4 ⟨rfl, hb4⟩
    have B4 := Lib.hid (below_to B3.out hb4 B3.out.size)
    clear hb4
    go_wp2_with fail
    refine (HB2.out _).mono ?_
    rintro e w5 ⟨rfl, hb5⟩
    have B5 := Lib.hid (below_to B4.out hb5 B4.out.size)
    clear hb5
    go_wp2_with fail
    go_loopw [10] (fun q wr => ∃ j : Nat, j ≤ S.size ∧ q = .int .i64 j ∧ Below w.heap.size w wr) (fun q _ => S.size - (intOf q).toNat)
    case atStart => exact ⟨0, by omega, rfl, B5.out⟩
    case round =>
      clear B1 B2 B3 B4 B5
      obtain ⟨j, hj, rfl, hbel⟩ := hrel
      have B6 := Lib.hid hbel
      clear hbel
      by_cases hlt : j < S.size
      · have gU := HGU.out j (by omega)
        have gS := HGS.out j (by omega)
        by_cases hjk : j = k
        · subst hjk
          rw [flip_eq] at gU
          have t1 := beq_t (show (j : Int) = j from rfl)
          by_cases hb : s.testBit j = true
          · rw [hb] at gU gS
            go_wp2_with fail
            go_quiet (fail)
            go_wp2_with fail
            go_roundw
            case rel => exact ⟨j + 1, by omega, by go_num, below_drewN B6.out _⟩
            case measure => simp [intOf]; omega
          · rw [show s.testBit j = false by simpa using hb] at gU gS
            go_wp2_with fail
            go_quiet (fail)
            go_wp2_with fail
            go_roundw
            case rel => exact ⟨j + 1, by omega, by go_num, below_drewN B6.out _⟩
            case measure => simp [intOf]; omega
        · rw [flip_ne (fun h => hjk h.symm)] at gU
          have t1 := beq_f (show (j : Int) ≠ k by omega)
          have t1' : (j == k) = false := by simpa using hjk
          by_cases hb : s.testBit j = true
          · rw [hb] at gU gS
            go_wp2_with fail
            go_quiet (fail)
            go_wp2_with fail
            go_roundw
            case rel => exact ⟨j + 1, by omega, by go_num, below_drewN B6.out _⟩
            case measure => simp [intOf]; omega
          · rw [show s.testBit j = false by simpa using hb] at gU gS
            go_wp2_with fail
            go_quiet (fail)
            go_wp2_with fail
            go_roundw
            case rel => exact ⟨j + 1, by omega, by go_num, below_drewN B6.out _⟩
            case measure => simp [intOf]; omega
      · go_wp2_with fail
        refine (HNX.out _).mono ?_
        rintro e w7 ⟨g, d, rfl, ho7, hb7⟩
        have O7 := Lib.hid ho7
        have B7 := Lib.hid (below_to B6.out hb7 B6.out.size)
        clear ho7 hb7
        go_wp2_with fail
        refine (hasInt_any _ 0 _ L k _ (by omega) O7.out.at).mono ?_
        rintro e w' ⟨rfl, rfl⟩
        rw [HMEM.out]
        have t2 := dec_t (show (-1 : Int) ≤ (D1 : Int) - (D2 : Int) by omega)
        have t3 := dec_t (show (D1 : Int) - (D2 : Int) ≤ 1 by omega)
        have t4 := beq_t (show (U.size : Int) = (S.size : Int) by omega)
        have t4' : (U.size == S.size) = true := by simp; omega
        go_wp2_with fail
        go_ret
        exact ⟨rfl, B7.out⟩
  · have hok' : stepOk S i = false := by simpa using hok
    rw [hok', stepV_no hok'] at his hss
    have HIS := Lib.hid his
    have HSS := Lib.hid hss
    clear hok hok' his hss
    go_wp2_with fail
    refine (HIS.out _).mono ?_
    rintro e w2 ⟨rfl, hb2⟩
    have B2 := Lib.hid (below_to B1.out hb2 B1.out.size)
    clear hb2
    go_wp2_with fail
    refine (HSS.out _).mono ?_
    rintro e w3 ⟨rfl, hq3⟩
    have B3 := Lib.hid (below_to B2.out (hq3.below w2.heap.size) B2.out.size)
    clear hq3
    go_wp2_with fail
    go_ret
    exact ⟨rfl, B3.out⟩

end Go.Proofs.Ytkfgimhihknpoaa
