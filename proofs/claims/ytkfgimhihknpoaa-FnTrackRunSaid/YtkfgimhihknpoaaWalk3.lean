/-
  TrackWalk of the program. No condition but lengths that fit.
-/
import Derived.Test.YtkfgimhihknpoaaWalk2
namespace Go.Proofs.Ytkfgimhihknpoaa
open Go.RowKit
set_option linter.unusedVariables false

theorem tset_lt {S : ByteArray} (h : trB S = true) : tset S < 65536 := by
  obtain ⟨s, n, h1, h2, hs, rfl⟩ := trB_T h
  rw [tset_T s n h1 h2 hs]
  have := pow8 h2
  omega
theorem trackOf_S (S : ByteArray) (w : World) (h : trB S = true) :
    Calls Try.prog 38 #[.string S] w fun e w' => e = .returned (.tuple #[.agg #[.int .u16 (tset S), .int .i64 S.size], .bool true]) ∧ Below w.heap.size w w' := by
  obtain ⟨s, n, h1, h2, hs, rfl⟩ := trB_T h
  rw [tset_T s n h1 h2 hs, T_size]
  exact trackOf_yes s n w h1 h2 hs
theorem near_S (S S' : ByteArray) (w : World) (h : trB S = true) :
    Calls Try.prog 49 #[.agg #[.int .u16 (tset S), .int .i64 S.size], .agg #[.int .u16 (tset S'), .int .i64 S'.size]] w fun e w' => e = .returned (.bool (isB S S')) ∧ Below w.heap.size w w' :=
  near_any _ _ _ _ w (trB_len h).2 (tset_lt h)

set_option maxHeartbeats 3200000 in
theorem impl_walk (b off c : Nat) (ss : List Bs) (w : World) (hn : ss.length ≤ 1099511627776) (hcc : ss.length ≤ c) (hc2 : c ≤ 9223372036854775807) (hsz : ∀ s ∈ ss, s.size ≤ 9223372036854775807) (hb : b < w.heap.size) (ha : AtStrs w b off ss) :
    Calls Try.prog 26 #[.slice (some ⟨b, off, none⟩) ss.length c] w fun e w' => e = .returned (.bool (walkB ss)) ∧ Below w.heap.size w w' := by
  have HA := Lib.hid ha
  have HZ := Lib.hid hsz
  clear ha hsz
  by_cases h0 : ss.length = 0
  · have t0 := beq_t (show (ss.length : Int) = 0 by omega)
    have HR := Lib.hid (show walkB ss = false by unfold walkB; rw [dec_f (show ¬ 0 < ss.length by omega)]; rfl)
    go_enter Try.func26, Try.ntmps26
    go_wp2_with fail
    go_ret
    exact ⟨ret_bool HR.out.symm, Below.refl _ _⟩
  · have t0 := beq_f (show (ss.length : Int) ≠ 0 by omega)
    have t0' : (ss.length == 0) = false := by simpa using h0
    have hp : 0 < ss.length := by omega
    have i0 : (0 : Int) < (ss.length : Int) := by omega
    have i1 : (1 : Int) ≤ (ss.length : Int) := by omega
    have hc0 := HA.out 0 hp
    have hz0 := HZ.out (ss.getD 0 ByteArray.empty) (by simp [List.getD, hp])
    obtain ⟨y0, hy0⟩ : ∃ y, ss.getD 0 ByteArray.empty = y := ⟨_, rfl⟩
    rw [hy0] at hc0 hz0
    rw [Nat.add_zero] at hc0
    by_cases ht : trB y0 = true
    · have hto := fun w => trackOf_S y0 w ht
      have HTO := Lib.hid hto
      have HW1 := Lib.hid (show wkK ss 1 = true from wkK_succ (k := 0) rfl (wkAt_0 (by rw [hy0]; exact ht)))
      have HY0 := Lib.hid hy0
      clear hto hy0 ht h0
      by_cases hc1 : c = 1
      · have hl1 : ss.length = 1 := by omega
        have HR := Lib.hid (show walkB ss = true by unfold walkB; rw [hl1, HW1.out]; rfl)
        have j2 := dec_f (show ¬ (0 : Int) < ((ss.length - 1 : Nat) : Int) by omega)
        have j4 := dec_f (show ¬ 0 < ss.length - 1 by omega)
        subst hc1
        clear hl1
        go_enter Try.func26, Try.ntmps26
        go_wp2_with (go_at_call 38; refine (HTO.out _).mono ?_; rintro e w1 ⟨rfl, hb1⟩; have B1 := Lib.hid (below_new' hb1 (.cells #[.int .u16 (tset y0), .int .i64 y0.size] 54)); have K1 := Lib.hid (Blk.new w1 54 #[.int .u16 (tset y0), .int .i64 y0.size]); have L1 := Lib.hid hb1.size; clear hb1)
        go_loopw [24] (fun q wr => q = .int .i64 0 ∧ Below w.heap.size w wr) (fun q _ => 0)
        case atStart => exact ⟨rfl, B1.out⟩
        case round =>
          obtain ⟨rfl, hbel⟩ := hrel
          have HB := Lib.hid hbel
          clear hbel
          go_wp2_with fail
          go_ret
          exact ⟨ret_bool HR.out.symm, HB.out⟩
      go_enter Try.func26, Try.ntmps26
      go_wp2_with (go_at_call 38; refine (HTO.out _).mono ?_; rintro e w1 ⟨rfl, hb1⟩; have B1 := Lib.hid (below_new' hb1 (.cells #[.int .u16 (tset y0), .int .i64 y0.size] 54)); have K1 := Lib.hid (Blk.new w1 54 #[.int .u16 (tset y0), .int .i64 y0.size]); have L1 := Lib.hid hb1.size; clear hb1)
      go_loopw [24] (fun q wr => ∃ k : Nat, k + 1 ≤ ss.length ∧ q = .int .i64 k ∧ wkK ss (k + 1) = true ∧ Below w.heap.size w wr ∧ Blk wr w1.heap.size 54 #[.int .u16 (tset (ss.getD k ByteArray.empty)), .int .i64 (ss.getD k ByteArray.empty).size]) (fun q _ => ss.length - (intOf q).toNat)
      case atStart => exact ⟨0, by omega, rfl, HW1.out, B1.out, by rw [HY0.out]; exact K1.out⟩
      case round =>
        obtain ⟨k, hk, rfl, hwk, hbel, hblk⟩ := hrel
        have HWK := Lib.hid hwk
        have HB := Lib.hid hbel
        have hty := wkK_tr hwk
        obtain ⟨y, hy⟩ : ∃ y, ss.getD k ByteArray.empty = y := ⟨_, rfl⟩
        rw [hy] at hblk hty
        have HK := Lib.hid hblk
        have HY := Lib.hid hy
        have a0 := hblk.cell 0
        have a1 := hblk.cell 1
        clear hwk hbel hblk HW1 B1 K1 HY0 hc0 hy
        by_cases hlt : k + 1 < ss.length
        · have hcx := (HB.out.cell (p := ⟨b, off + (k + 1), none⟩) hb).trans (HA.out (k + 1) hlt)
          rw [show off + (k + 1) = off + 1 + k by omega] at hcx
          have hzx := HZ.out (ss.getD (k + 1) ByteArray.empty) (by simp [List.getD, hlt])
          obtain ⟨x, hx⟩ : ∃ x, ss.getD (k + 1) ByteArray.empty = x := ⟨_, rfl⟩
          rw [hx] at hcx hzx
          have HX := Lib.hid hx
          have j1 : (k : Int) < ((ss.length - 1 : Nat) : Int) := by omega
          have j2 := dec_t (show (k : Int) < ((ss.length - 1 : Nat) : Int) by omega)
          have j3 : k < ss.length - 1 := by omega
          have j4 := dec_t (show k < ss.length - 1 by omega)
          by_cases htx : trB x = true
          · have hto := fun w => trackOf_S x w htx
            have HTX := Lib.hid hto
            have hat := wkAt_is (ss := ss) (k := k + 1) (by rw [hx]; exact htx) (by omega)
            rw [show k + 1 - 1 = k by omega, HY.out, hx] at hat
            have hnr := fun w => near_S y x w hty
            by_cases hi : isB y x = true
            · rw [hi] at hnr
              have HNR := Lib.hid hnr
              have HR := Lib.hid (wkK_succ HWK.out (hat.trans hi))
              clear hnr hi hat hto hx htx hty
              go_wp2_with fail
              refine (HTX.out _).mono ?_
              rintro e w2 ⟨rfl, hb2⟩
              have K2 := Lib.hid ((HK.out.below hb2 HK.out.lt).alloc (.cells #[.int .u16 (tset x), .int .i64 x.size] 54))
              have B2 := Lib.hid (below_new' (below_to HB.out hb2 HB.out.size) (.cells #[.int .u16 (tset x), .int .i64 x.size] 54))
              have M2 := Lib.hid (Blk.new w2 54 #[.int .u16 (tset x), .int .i64 x.size])
              have N2 := Lib.hid (Nat.ne_of_lt (Nat.lt_of_lt_of_le HK.out.lt hb2.size))
              have c0 := K2.out.cell 0
              have c1 := K2.out.cell 1
              clear hb2
              go_wp2_with fail
              refine (HNR.out _).mono ?_
              rintro e w3 ⟨rfl, hb3⟩
              have B3 := Lib.hid (below_to B2.out hb3 B2.out.size)
              have K3 := Lib.hid (K2.out.below hb3 K2.out.lt)
              have M3 := Lib.hid (M2.out.below hb3 M2.out.lt)
              clear hb3 c0 c1
              have c0 := K3.out.cell 0
              have c1 := K3.out.cell 1
              have d0 := M3.out.cell 0
              have d1 := M3.out.cell 1
              have f0 := K3.out.frozen 0
              have f1 := K3.out.frozen 1
              have ks := ((K3.out.set_ 0 (.int .u16 (tset x))).set_ 1 (.int .i64 x.size))
              have KS := Lib.hid ks
              have bs := (B3.out.setCell (p := ⟨w1.heap.size, 0, none⟩) (by have := L1.out; exact this) (.int .u16 (tset x))).setCell (p := ⟨w1.heap.size, 1, none⟩) (by have := L1.out; exact this) (.int .i64 x.size)
              have BS := Lib.hid bs
              have e1 := (K3.out.set_ 0 (.int .u16 (tset x))).cell 1
              have e2 := (K3.out.set_ 0 (.int .u16 (tset x))).frozen 1
              clear ks bs
              go_wp2_with fail
              go_roundw
              case rel => exact ⟨k + 1, by omega, by go_num, HR.out, BS.out, by rw [HX.out]; exact KS.out⟩
              case measure => simp [intOf]; omega
            · have hi' : isB y x = false := by simpa using hi
              rw [hi'] at hnr
              have HNR := Lib.hid hnr
              have HR := Lib.hid (walkB_no hlt (hat.trans hi'))
              clear hnr hi hi' hat hto hx htx hty
              go_wp2_with fail
              refine (HTX.out _).mono ?_
              rintro e w2 ⟨rfl, hb2⟩
              have K2 := Lib.hid ((HK.out.below hb2 HK.out.lt).alloc (.cells #[.int .u16 (tset x), .int .i64 x.size] 54))
              have B2 := Lib.hid (below_new' (below_to HB.out hb2 HB.out.size) (.cells #[.int .u16 (tset x), .int .i64 x.size] 54))
              have c0 := K2.out.cell 0
              have c1 := K2.out.cell 1
              clear hb2
              go_wp2_with fail
              refine (HNR.out _).mono ?_
              rintro e w3 ⟨rfl, hb3⟩
              have B3 := Lib.hid (below_to B2.out hb3 B2.out.size)
              clear hb3
              go_wp2_with fail
              go_ret
              exact ⟨ret_bool HR.out.symm, B3.out⟩
          · have htx' : trB x = false := by simpa using htx
            have hto := fun w => trackOf_no x w hzx htx'
            have HTX := Lib.hid hto
            have HR := Lib.hid (walkB_no hlt (wkAt_f (by rw [hx]; exact htx')))
            clear hto hx htx htx' hty
            go_wp2_with fail
            refine (HTX.out _).mono ?_
            rintro e w2 ⟨rfl, hb2⟩
            have B2 := Lib.hid (below_new' (below_to HB.out hb2 HB.out.size) (.cells #[.int .u16 0, .int .i64 0] 54))
            clear hb2
            go_wp2_with fail
            go_ret
            exact ⟨ret_bool HR.out.symm, B2.out⟩
        · have hkn : k + 1 = ss.length := by omega
          have hr : walkB ss = true := by
            have := HWK.out
            rw [hkn] at this
            unfold walkB; rw [this, dec_t hp]; rfl
          have HR := Lib.hid hr
          have j2 := dec_f (show ¬ (k : Int) < ((ss.length - 1 : Nat) : Int) by omega)
          have j4 := dec_f (show ¬ k < ss.length - 1 by omega)
          clear hr hkn
          go_wp2_with fail
          go_ret
          exact ⟨ret_bool HR.out.symm, HB.out⟩
    · have ht' : trB y0 = false := by simpa using ht
      have HR := Lib.hid (walkB_no hp (wkAt_f (by rw [hy0]; exact ht')))
      clear ht h0 hy0
      go_enter Try.func26, Try.ntmps26
      go_wp2_with (go_at_call 38; refine (trackOf_no y0 _ hz0 ht').mono ?_; rintro e w1 ⟨rfl, hb1⟩; have B1 := Lib.hid (below_new' hb1 (.cells #[.int .u16 0, .int .i64 0] 54)); clear hb1)
      go_ret
      exact ⟨ret_bool HR.out.symm, B1.out⟩

end Go.Proofs.Ytkfgimhihknpoaa
