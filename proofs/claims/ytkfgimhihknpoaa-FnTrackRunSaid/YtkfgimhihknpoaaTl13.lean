/-
  The law FnTrackRun. No condition.
-/
import Derived.Test.YtkfgimhihknpoaaTl12
import Derived.Deep.RegionWith
namespace Go.Proofs.Ytkfgimhihknpoaa
open Go.RowKit
set_option linter.unusedVariables false

set_option maxHeartbeats 3200000 in
theorem law_TrackRun (A : Option Addr) (c : Nat) (ys : List Int) (w : World) (hq : ArgBytes w A c ys) :
    Calls Try.prog 8 #[.slice A ys.length c] w fun e w' => e = .returned (.bool true) ∧ Below w.heap.size w w' := by
  obtain ⟨hr, hlc, hc⟩ := hq
  by_cases hbig : 1048576 < ys.length
  · have t0 := dec_t (show (1048576 : Int) < (ys.length : Int) by omega)
    go_enter Try.func8, Try.ntmps8
    go_wp2_with fail
    go_ret
    exact ⟨rfl, Below.refl _ _⟩
  have t0 := dec_f (show ¬ (1048576 : Int) < (ys.length : Int) by omega)
  have HD := Lib.hid (draw_trun A c ys.length w hlc hc hr)
  clear hr hbig
  go_enter Try.func8, Try.ntmps8
  go_wp2_with fail
  refine HD.out.mono ?_
  rintro e w1 ⟨n, L, rfl, hn9, hL10, hb1⟩
  have B1 := Lib.hid hb1
  clear hb1 HD
  go_wp2_with fail
  refine (impl_trun n L _).mono ?_
  rintro e w2 ⟨g, d, rfl, hown, hb2⟩
  have O2 := Lib.hid hown
  have B2 := Lib.hid (below_to B1.out hb2 B1.out.size)
  clear hown hb2 B1
  go_wp2_with fail
  refine (spec_trun n L _).mono ?_
  rintro e w3 ⟨g', d', rfl, hown', hb3⟩
  have O3 := Lib.hid (O2.out.below hb3 O2.out.lt)
  have P3 := Lib.hid hown'
  have B3 := Lib.hid (below_to B2.out hb3 B2.out.size)
  clear hown' hb3 B2 O2
  have hbb : bne (trOk (n : Int) (L : Int)) (trOk (n : Int) (L : Int)) = false := by cases trOk (n : Int) (L : Int) <;> rfl
  have hbt : (trOk (n : Int) (L : Int) == trOk (n : Int) (L : Int)) = true := by cases trOk (n : Int) (L : Int) <;> rfl
  by_cases hok : trOk (n : Int) (L : Int) = true
  · have hv : trV (n : Int) (L : Int) = trl n L (2 * n) := by simp [trV, hok]
    rw [hv] at O3 P3
    rw [hok] at hbb hbt ⊢
    rw [hv]
    have hh := hok
    unfold trOk at hh
    rw [Bool.and_eq_true, inB_iff, inB_iff] at hh
    have h1 : 1 ≤ n := by omega
    have h8 : n ≤ 8 := by omega
    have hL : 1 ≤ L := by omega
    have hwk := run_wk h1 h8 hL
    have hlen : (trl n L (2 * n)).length = 2 * n + 1 := trl_length _ _ _
    have hpv : passV (trl n L (2 * n)) = 1 := by
      unfold passV
      rw [if_pos (of_wk hwk), hlen, run_psK h1 h8 hL]
      rfl
    have hwb : walkB (trl n L (2 * n)) = true := of_wk hwk
    have hget : ∀ k, k < 2 * n + 1 → rnS n L k < 2 ^ n ∧ (trl n L (2 * n)).getD k ByteArray.empty = T (rnS n L k) n := hwk.2.2.2.2.1
    have hsz : ∀ s ∈ trl n L (2 * n), s.size ≤ 9223372036854775807 := by
      intro s hs
      obtain ⟨k, hk, rfl⟩ := List.mem_iff_getElem.1 hs
      have h := (hget k (by omega)).2
      rw [List.getD_eq_getElem?_getD, List.getElem?_eq_getElem hk, Option.getD_some] at h
      rw [h, T_size]
      omega
    generalize trl n L (2 * n) = ss at *
    have hcnt : ∀ k, k < 2 * n + 1 → ∀ w, Calls Try.prog 17 #[.string (T (rnS n L k) n), .int .u8 49] w fun e w' => e = .returned (.int .i64 (cnt (rnS n L k) n)) ∧ w = w' := fun k hk w => by
      have h := countOf_any (T (rnS n L k) n) w (by rw [T_size]; omega)
      rw [T_size, cntB_T _ _ _ (Nat.le_refl _)] at h
      exact h
    have hblk : ∀ k, k < 2 * n + 1 → ∀ w, Calls Try.prog 22 #[.string (T (rnS n L k) n)] w fun e w' => e = .returned (.int .i64 (blk (rnS n L k) n)) ∧ Below w.heap.size w w' := fun k hk w => by
      have h := impl_blocksV (T (rnS n L k) n) w (by rw [T_size]; omega)
      rw [blkV_T _ _ h1 h8 (hget k hk).1] at h
      exact h
    have hat := fun k (hk : k ≤ 2 * n) => run_at (L := L) h1 h8 hL hk
    have hends := run_ends (n := n) h1 hL
    have HCN := Lib.hid hcnt
    have HBK := Lib.hid hblk
    have HAT := Lib.hid hat
    have HEN := Lib.hid hends
    have HSZ := Lib.hid hsz
    have HG := Lib.hid (fun k hk => (hget k hk).2)
    have HWB := Lib.hid hwb
    have HPV := Lib.hid hpv
    have hld : ss.length ≤ d := O3.out.cap
    have hdd : d ≤ 9223372036854775807 := by obtain ⟨_, cur, _, _, _, h, _⟩ := OwnV.parts O3.out; exact h
    have hl0 : (0 : Int) < (ss.length : Int) := by omega
    have hl1 : 2 * (n : Int) < (ss.length : Int) := by omega
    have hls : ss.length ≤ 17 := by omega
    have t5 := beq_t (show (ss.length : Int) = 2 * (n : Int) + 1 by omega)
    have HLEN := Lib.hid hlen
    clear hcnt hblk hat hends hsz hget hwb hpv hwk hok hv hh hlen
    go_wp2_with fail
    refine (sameTexts_same _ 0 _ _ 0 _ ss _ (by omega) O3.out.at P3.out.at).mono ?_
    rintro e w4 ⟨rfl, hq4⟩
    have L3 := O3.out.lt
    have A4 := Lib.hid (AtStrs.below O3.out.at (hq4.below w3.heap.size) L3)
    have L4 : Hid (g < w4.heap.size) := Lib.hid (Nat.lt_of_lt_of_le L3 (hq4.below w3.heap.size).size)
    have B4 := Lib.hid (below_to B3.out (hq4.below w3.heap.size) B3.out.size)
    clear hq4 O3 P3 B3 L3
    go_wp2_with fail
    go_loopw [9] (fun q wr => ∃ (i : Nat), i ≤ ss.length ∧ q = .int .i64 i ∧ AtStrs wr g 0 ss ∧ g < wr.heap.size ∧ Below w.heap.size w wr) (fun q _ => ss.length - (intOf q).toNat)
    case atStart => exact ⟨0, by omega, rfl, A4.out, L4.out, B4.out⟩
    case round =>
      clear A4 L4 B4
      obtain ⟨i, hi, rfl, ha, hl, hbel⟩ := hrel
      have A5 := Lib.hid ha
      have L5 := Lib.hid hl
      have B5 := Lib.hid hbel
      clear ha hl hbel
      by_cases hlt : i < ss.length
      · have c5 := A5.out i hlt
        have hiL := HLEN.out
        have hcn := HCN.out i (by omega)
        have hbk := HBK.out i (by omega)
        obtain ⟨ht1, ht2, ht3⟩ := HAT.out i (by omega)
        rw [Nat.zero_add, HG.out i (by omega)] at c5
        generalize T (rnS n L i) n = S at *
        generalize cnt (rnS n L i) n = K at *
        generalize blk (rnS n L i) n = M at *
        have HCI := Lib.hid hcn
        have HBI := Lib.hid hbk
        have i1 : (i : Int) < (ss.length : Int) := by omega
        have t6 := dec_f (show ¬ (1 : Int) < (M : Int) by omega)
        have t7 := dec_f (show ¬ (L : Int) + 1 < (K : Int) by omega)
        clear hcn hbk hlt hiL
        go_wp2_with fail
        refine (HCI.out _).mono ?_
        rintro e w6 ⟨rfl, rfl⟩
        go_wp2_with fail
        refine (HBI.out _).mono ?_
        rintro e w7 ⟨rfl, hb7⟩
        have A7 := Lib.hid (A5.out.below hb7 L5.out)
        have L7 := Lib.hid (Nat.lt_of_lt_of_le L5.out hb7.size)
        have B7 := Lib.hid (below_to B5.out hb7 B5.out.size)
        clear hb7 A5 L5 B5 c5
        have hlt := Int.ofNat_lt.1 i1
        by_cases h0 : 0 < i
        · have t8 := dec_t (show (0 : Int) < (i : Int) by omega)
          by_cases h9 : i < 2 * n
          · have t9 := dec_t (show (i : Int) < 2 * (n : Int) by omega)
            have t10 := beq_f (show (K : Int) ≠ 0 by omega)
            clear ht1 ht2 ht3
            go_wp2_with fail
            go_roundw
            case rel => exact ⟨i + 1, by omega, by go_num, A7.out, L7.out, B7.out⟩
            case measure => simp [intOf]; omega
          · have t9 := dec_f (show ¬ (i : Int) < 2 * (n : Int) by omega)
            clear ht1 ht2 ht3
            go_wp2_with fail
            go_roundw
            case rel => exact ⟨i + 1, by omega, by go_num, A7.out, L7.out, B7.out⟩
            case measure => simp [intOf]; omega
        · have t8 := dec_f (show ¬ (0 : Int) < (i : Int) by omega)
          clear ht1 ht2 ht3
          go_wp2_with fail
          go_roundw
          case rel => exact ⟨i + 1, by omega, by go_num, A7.out, L7.out, B7.out⟩
          case measure => simp [intOf]; omega
      · obtain rfl : i = ss.length := by omega
        have hiL := HLEN.out
        have hs0 := HG.out 0 (by omega)
        have hs1 := HG.out (2 * n) (by omega)
        have hc0 := HCN.out 0 (by omega)
        have hc1 := HCN.out (2 * n) (by omega)
        rw [HEN.out.1] at hc0
        rw [HEN.out.2] at hc1
        generalize T (rnS n L 0) n = S0 at *
        generalize T (rnS n L (2 * n)) n = S1 at *
        have HC0 := Lib.hid hc0
        have HC1 := Lib.hid hc1
        have HS0 := Lib.hid hs0
        have HS1 := Lib.hid hs1
        have q0 : 0 < ss.length := by omega
        have q1 : 2 * n < ss.length := by omega
        have i3 : (2 * (n : Int)).toNat = 2 * n := by omega
        have i4 : (0 : Int) ≤ 2 * (n : Int) := by omega
        clear hlt hi hiL hc0 hc1 hs0 hs1
        go_wp2_with fail
        refine (impl_walk g 0 d ss _ (by omega) hld hdd HSZ.out L5.out A5.out).mono ?_
        rintro e w6 ⟨rfl, hb6⟩
        rw [HWB.out]
        have A6 := Lib.hid (A5.out.below hb6 L5.out)
        have L6 := Lib.hid (Nat.lt_of_lt_of_le L5.out hb6.size)
        have B6 := Lib.hid (below_to B5.out hb6 B5.out.size)
        clear hb6 A5 L5 B5
        have c0 := A6.out 0 q0
        have c1 := A6.out (2 * n) q1
        rw [Nat.zero_add, HS0.out] at c0
        rw [Nat.zero_add, HS1.out] at c1
        go_wp2_with fail
        refine (HC0.out _).mono ?_
        rintro e w7 ⟨rfl, rfl⟩
        go_wp2_with fail
        refine (HC1.out _).mono ?_
        rintro e w8 ⟨rfl, rfl⟩
        go_wp2_with fail
        refine (impl_passed g 0 d ss _ (by omega) hld hdd HSZ.out L6.out A6.out).mono ?_
        rintro e w9 ⟨rfl, hb9⟩
        rw [HPV.out]
        have B9 := Lib.hid (below_to B6.out hb9 B6.out.size)
        go_wp2_with fail
        go_ret
        exact ⟨rfl, B9.out⟩
  · have hof : trOk (n : Int) (L : Int) = false := by simpa using hok
    have hv : trV (n : Int) (L : Int) = [] := by simp [trV, hof]
    rw [hv] at O3 P3
    rw [hof] at hbb hbt ⊢
    rw [hv]
    go_wp2_with fail
    refine (sameTexts_same _ 0 _ _ 0 _ [] _ (by simp) O3.out.at P3.out.at).mono ?_
    rintro e w4 ⟨rfl, hq4⟩
    have B4 := Lib.hid (below_to B3.out (hq4.below w3.heap.size) B3.out.size)
    have O4 : Hid (AtStrs w4 g 0 []) := Lib.hid (fun k hk => absurd hk (by simp))
    have P4 : Hid (AtStrs w4 g' 0 []) := Lib.hid (fun k hk => absurd hk (by simp))
    clear hq4 B3 O3 P3
    go_wp2_with fail
    refine (sameTexts_same _ 0 _ _ 0 _ [] _ (by simp) O4.out P4.out).mono ?_
    rintro e w5 ⟨rfl, hq5⟩
    have B5 := Lib.hid (below_to B4.out (hq5.below w4.heap.size) B4.out.size)
    go_wp2_with fail
    go_ret
    exact ⟨rfl, B5.out⟩
end Go.Proofs.Ytkfgimhihknpoaa
