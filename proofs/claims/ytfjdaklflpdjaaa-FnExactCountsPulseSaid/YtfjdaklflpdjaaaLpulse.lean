/-
  The laws FnExactCountsPulse and FnExactCountsRun, walked call by call. No condition.
-/
import Derived.Test.YtfjdaklflpdjaaaPulse2
import Derived.Test.YtfjdaklflpdjaaaClear
import Derived.Test.YtfjdaklflpdjaaaTrain
namespace Go.Proofs.Ytfjdaklflpdjaaa
open Go.RowKit
set_option linter.unusedVariables false

theorem runGo_length (ps : List Int) : ∀ zs : List Int, (runGo zs ps).1.length ≤ zs.length := by
  induction ps with
  | nil => intro zs; simp [runGo]
  | cons p ps ih =>
    intro zs
    simp only [runGo]
    split
    · have := ih (plL zs p)
      rw [plL_length] at this
      exact this
    · simp
theorem runV_length (zs ps : List Int) : (runV zs ps).1.length ≤ 8 := by
  unfold runV
  split
  · rename_i h
    have := runGo_length ps zs
    have := cv_len h
    omega
  · simp

theorem spec_pulse1 (b off c : Nat) (zs : List Int) (p : Int) (w : World) (hn : zs.length ≤ 1048576) (hp : -9223372036854775808 ≤ p ∧ p ≤ 9223372036854775807) (hc : AtInts w b off zs) (hb : b < w.heap.size) :
    Calls Try.prog 29 #[.slice (some ⟨b, off, none⟩) zs.length c, .int .i64 p] w (NewIntsB w (runV zs [p]).1 (runV zs [p]).2) := by
  rw [runV_one]; exact spec_pulse b off c zs p w hn hp hc hb

set_option maxHeartbeats 1600000 in
theorem law_ExactCountsPulse (A : Option Addr) (c : Nat) (zs : List Int) (p : Int) (w : World) (hqzs : ArgInts w A zs) (hip : -9223372036854775808 ≤ p ∧ p ≤ 9223372036854775807) :
    Calls Try.prog 8 #[.slice A zs.length c, .int .i64 p] w fun e w' => e = .returned (.bool true) ∧ Below w.heap.size w w' := by
  obtain ⟨hrzs, hzzs, hnzs⟩ := hqzs
  have Rzs := Lib.hid hrzs
  have Zzs := Lib.hid hzzs
  clear hrzs hzzs
  have Ip := Lib.hid hip
  by_cases hbigzs : 1048576 < zs.length
  · have tbzs := dec_t (show (1048576 : Int) < (zs.length : Int) by omega)
    go_enter Try.func8, Try.ntmps8
    go_wp2_with fail
    go_ret
    exact ⟨rfl, Below.refl _ _⟩
  have tbzs := dec_f (show ¬ (1048576 : Int) < (zs.length : Int) by omega)
  have szzs : zs.length ≤ 1048576 := by omega
  have hlen : ((runV zs [p]).1).length ≤ 2000000 := (by have := runV_length zs [p]; omega)
  go_enter Try.func8, Try.ntmps8
  have BB0 : Hid (Below w.heap.size w w) := Below.refl _ _
  go_wp2_with fail
  refine (toIntS_any A c zs _ (by omega) (Rzs.out.below BB0.out)).mono ?_
  rintro e w1 ⟨gs0, cs0, rfl, how1, hbw1⟩
  have Gs0 : w.heap.size ≤ gs0 := Nat.le_trans BB0.out.size how1.le
  have BBw1 : Hid (Below w.heap.size w w1) := below_to BB0.out hbw1 BB0.out.size
  clear BB0
  have Os0_w1 : Hid (Own w1 w.heap.size gs0 cs0 (zs)) := OwnV.mono how1 Gs0
  clear how1 hbw1
  go_wp2_with fail
  refine (spec_pulse1 _ _ _ zs p _ (by omega) Ip.out Os0_w1.out.at Os0_w1.out.lt).mono ?_
  rintro e w2 ⟨gW, cW, rfl, how2, hbw2⟩
  have Ls0_W : gs0 < gW := Nat.lt_of_lt_of_le Os0_w1.out.lt how2.le
  have GW : w.heap.size ≤ gW := Nat.le_trans BBw1.out.size how2.le
  have Os0_w2 : Hid (Own w2 w.heap.size gs0 cs0 (zs)) := Os0_w1.out.below hbw2 Os0_w1.out.lt
  clear Os0_w1
  have BBw2 : Hid (Below w.heap.size w w2) := below_to BBw1.out hbw2 BBw1.out.size
  clear BBw1
  have OW_w2 : Hid (Own w2 w.heap.size gW cW ((runV zs [p]).1)) := OwnV.mono how2 GW
  clear how2 hbw2
  go_wp2_with fail
  refine (toIntS_any A c zs _ (by omega) (Rzs.out.below BBw2.out)).mono ?_
  rintro e w3 ⟨gx0, cx0, rfl, how3, hbw3⟩
  have Ls0_x0 : gs0 < gx0 := Nat.lt_of_lt_of_le Os0_w2.out.lt how3.le
  have LW_x0 : gW < gx0 := Nat.lt_of_lt_of_le OW_w2.out.lt how3.le
  have Gx0 : w.heap.size ≤ gx0 := Nat.le_trans BBw2.out.size how3.le
  have Os0_w3 : Hid (Own w3 w.heap.size gs0 cs0 (zs)) := Os0_w2.out.below hbw3 Os0_w2.out.lt
  clear Os0_w2
  have OW_w3 : Hid (Own w3 w.heap.size gW cW ((runV zs [p]).1)) := OW_w2.out.below hbw3 OW_w2.out.lt
  clear OW_w2
  have BBw3 : Hid (Below w.heap.size w w3) := below_to BBw2.out hbw3 BBw2.out.size
  clear BBw2
  have Ox0_w3 : Hid (Own w3 w.heap.size gx0 cx0 (zs)) := OwnV.mono how3 Gx0
  clear how3 hbw3
  go_wp2_with fail
  refine (impl_pulse _ _ _ zs p _ (by omega) Ip.out Ox0_w3.out.at Ox0_w3.out.lt).mono ?_
  rintro e w4 ⟨gH, cH, rfl, how4, hbw4⟩
  have Ls0_H : gs0 < gH := Nat.lt_of_lt_of_le Os0_w3.out.lt how4.le
  have LW_H : gW < gH := Nat.lt_of_lt_of_le OW_w3.out.lt how4.le
  have Lx0_H : gx0 < gH := Nat.lt_of_lt_of_le Ox0_w3.out.lt how4.le
  have GH : w.heap.size ≤ gH := Nat.le_trans BBw3.out.size how4.le
  have Os0_w4 : Hid (Own w4 w.heap.size gs0 cs0 (zs)) := Os0_w3.out.below hbw4 Os0_w3.out.lt
  clear Os0_w3
  have OW_w4 : Hid (Own w4 w.heap.size gW cW ((runV zs [p]).1)) := OW_w3.out.below hbw4 OW_w3.out.lt
  clear OW_w3
  have Ox0_w4 : Hid (Own w4 w.heap.size gx0 cx0 (zs)) := Ox0_w3.out.below hbw4 Ox0_w3.out.lt
  clear Ox0_w3
  have BBw4 : Hid (Below w.heap.size w w4) := below_to BBw3.out hbw4 BBw3.out.size
  clear BBw3
  have OH_w4 : Hid (Own w4 w.heap.size gH cH ((runV zs [p]).1)) := OwnV.mono how4 GH
  clear how4 hbw4
  go_wp2_with fail
  refine (eqIntS_same _ _ _ _ _ _ ((runV zs [p]).1) _ (by omega) OH_w4.out.at OW_w4.out.at).mono ?_
  rintro e w5 ⟨rfl, hqw5⟩
  have Os0_w5 : Hid (Own w5 w.heap.size gs0 cs0 (zs)) := Os0_w4.out.below (hqw5.below _) Os0_w4.out.lt
  clear Os0_w4
  have OW_w5 : Hid (Own w5 w.heap.size gW cW ((runV zs [p]).1)) := OW_w4.out.below (hqw5.below _) OW_w4.out.lt
  clear OW_w4
  have Ox0_w5 : Hid (Own w5 w.heap.size gx0 cx0 (zs)) := Ox0_w4.out.below (hqw5.below _) Ox0_w4.out.lt
  clear Ox0_w4
  have OH_w5 : Hid (Own w5 w.heap.size gH cH ((runV zs [p]).1)) := OH_w4.out.below (hqw5.below _) OH_w4.out.lt
  clear OH_w4
  have BBw5 : Hid (Below w.heap.size w w5) := below_to BBw4.out (hqw5.below _) BBw4.out.size
  clear BBw4
  clear hqw5
  go_wp2_with fail
  refine (toIntS_any A c zs _ (by omega) (Rzs.out.below BBw5.out)).mono ?_
  rintro e w6 ⟨gy0, cy0, rfl, how6, hbw6⟩
  have Ls0_y0 : gs0 < gy0 := Nat.lt_of_lt_of_le Os0_w5.out.lt how6.le
  have LW_y0 : gW < gy0 := Nat.lt_of_lt_of_le OW_w5.out.lt how6.le
  have Lx0_y0 : gx0 < gy0 := Nat.lt_of_lt_of_le Ox0_w5.out.lt how6.le
  have LH_y0 : gH < gy0 := Nat.lt_of_lt_of_le OH_w5.out.lt how6.le
  have Gy0 : w.heap.size ≤ gy0 := Nat.le_trans BBw5.out.size how6.le
  have Os0_w6 : Hid (Own w6 w.heap.size gs0 cs0 (zs)) := Os0_w5.out.below hbw6 Os0_w5.out.lt
  clear Os0_w5
  have OW_w6 : Hid (Own w6 w.heap.size gW cW ((runV zs [p]).1)) := OW_w5.out.below hbw6 OW_w5.out.lt
  clear OW_w5
  have Ox0_w6 : Hid (Own w6 w.heap.size gx0 cx0 (zs)) := Ox0_w5.out.below hbw6 Ox0_w5.out.lt
  clear Ox0_w5
  have OH_w6 : Hid (Own w6 w.heap.size gH cH ((runV zs [p]).1)) := OH_w5.out.below hbw6 OH_w5.out.lt
  clear OH_w5
  have BBw6 : Hid (Below w.heap.size w w6) := below_to BBw5.out hbw6 BBw5.out.size
  clear BBw5
  have Oy0_w6 : Hid (Own w6 w.heap.size gy0 cy0 (zs)) := OwnV.mono how6 Gy0
  clear how6 hbw6
  go_wp2_with fail
  refine (eqIntS_same _ _ _ _ _ _ (zs) _ (by omega) Ox0_w6.out.at Oy0_w6.out.at).mono ?_
  rintro e w7 ⟨rfl, hqw7⟩
  have Os0_w7 : Hid (Own w7 w.heap.size gs0 cs0 (zs)) := Os0_w6.out.below (hqw7.below _) Os0_w6.out.lt
  clear Os0_w6
  have OW_w7 : Hid (Own w7 w.heap.size gW cW ((runV zs [p]).1)) := OW_w6.out.below (hqw7.below _) OW_w6.out.lt
  clear OW_w6
  have Ox0_w7 : Hid (Own w7 w.heap.size gx0 cx0 (zs)) := Ox0_w6.out.below (hqw7.below _) Ox0_w6.out.lt
  clear Ox0_w6
  have OH_w7 : Hid (Own w7 w.heap.size gH cH ((runV zs [p]).1)) := OH_w6.out.below (hqw7.below _) OH_w6.out.lt
  clear OH_w6
  have Oy0_w7 : Hid (Own w7 w.heap.size gy0 cy0 (zs)) := Oy0_w6.out.below (hqw7.below _) Oy0_w6.out.lt
  clear Oy0_w6
  have BBw7 : Hid (Below w.heap.size w w7) := below_to BBw6.out (hqw7.below _) BBw6.out.size
  clear BBw6
  clear hqw7
  go_wp2_with fail
  refine (markIntS_any w.heap.size _ _ (zs) 1 _ (by omega) (by omega) (by omega) (by exact Ox0_w7.out)).mono ?_
  rintro e w8 ⟨rfl, hmw8, hgw8, hzw8⟩
  have Os0_w8 : Hid (Own w8 w.heap.size gs0 cs0 (zs)) := Os0_w7.out.grown hgw8 (by have := Ls0_x0; intro h; injection h; omega)
  clear Os0_w7
  have OW_w8 : Hid (Own w8 w.heap.size gW cW ((runV zs [p]).1)) := OW_w7.out.grown hgw8 (by have := LW_x0; intro h; injection h; omega)
  clear OW_w7
  have OH_w8 : Hid (Own w8 w.heap.size gH cH ((runV zs [p]).1)) := OH_w7.out.grown hgw8 (by have := Lx0_H; intro h; injection h; omega)
  clear OH_w7
  have Oy0_w8 : Hid (Own w8 w.heap.size gy0 cy0 (zs)) := Oy0_w7.out.grown hgw8 (by have := Lx0_y0; intro h; injection h; omega)
  clear Oy0_w7
  have BBw8 : Hid (Below w.heap.size w w8) := below_app BBw7.out hgw8 Gx0
  have Ox0_w8 : Hid (Own w8 w.heap.size gx0 cx0 (marks 1 (zs).length)) := hmw8
  clear Ox0_w7 hmw8 hgw8 hzw8 BBw7
  have tk := dec_f (show ¬ (1 + (zs.length : Int)) < 0 by omega)
  go_wp2_with fail
  refine (eqIntS_same _ _ _ _ _ _ ((runV zs [p]).1) _ (by omega) OH_w8.out.at OW_w8.out.at).mono ?_
  rintro e w9 ⟨rfl, hqw9⟩
  have Os0_w9 : Hid (Own w9 w.heap.size gs0 cs0 (zs)) := Os0_w8.out.below (hqw9.below _) Os0_w8.out.lt
  clear Os0_w8
  have OW_w9 : Hid (Own w9 w.heap.size gW cW ((runV zs [p]).1)) := OW_w8.out.below (hqw9.below _) OW_w8.out.lt
  clear OW_w8
  have Ox0_w9 : Hid (Own w9 w.heap.size gx0 cx0 (marks 1 (zs).length)) := Ox0_w8.out.below (hqw9.below _) Ox0_w8.out.lt
  clear Ox0_w8
  have OH_w9 : Hid (Own w9 w.heap.size gH cH ((runV zs [p]).1)) := OH_w8.out.below (hqw9.below _) OH_w8.out.lt
  clear OH_w8
  have Oy0_w9 : Hid (Own w9 w.heap.size gy0 cy0 (zs)) := Oy0_w8.out.below (hqw9.below _) Oy0_w8.out.lt
  clear Oy0_w8
  have BBw9 : Hid (Below w.heap.size w w9) := below_to BBw8.out (hqw9.below _) BBw8.out.size
  clear BBw8
  clear hqw9
  go_wp2_with fail
  refine (markIntS_any w.heap.size _ _ ((runV zs [p]).1) 1 _ (by omega) (by omega) (by omega) (by exact OH_w9.out)).mono ?_
  rintro e w10 ⟨rfl, hmw10, hgw10, hzw10⟩
  have Os0_w10 : Hid (Own w10 w.heap.size gs0 cs0 (zs)) := Os0_w9.out.grown hgw10 (by have := Ls0_H; intro h; injection h; omega)
  clear Os0_w9
  have OW_w10 : Hid (Own w10 w.heap.size gW cW ((runV zs [p]).1)) := OW_w9.out.grown hgw10 (by have := LW_H; intro h; injection h; omega)
  clear OW_w9
  have Ox0_w10 : Hid (Own w10 w.heap.size gx0 cx0 (marks 1 (zs).length)) := Ox0_w9.out.grown hgw10 (by have := Lx0_H; intro h; injection h; omega)
  clear Ox0_w9
  have Oy0_w10 : Hid (Own w10 w.heap.size gy0 cy0 (zs)) := Oy0_w9.out.grown hgw10 (by have := LH_y0; intro h; injection h; omega)
  clear Oy0_w9
  have BBw10 : Hid (Below w.heap.size w w10) := below_app BBw9.out hgw10 GH
  have OH_w10 : Hid (Own w10 w.heap.size gH cH (marks 1 ((runV zs [p]).1).length)) := hmw10
  clear OH_w9 hmw10 hgw10 hzw10 BBw9
  have tq := dec_f (show ¬ (1 + (((runV zs [p]).1).length : Int)) < 0 by omega)
  go_wp2_with fail
  refine (heldIntS_any _ _ _ ((runV zs [p]).1).length 1 _ (by omega) (by omega) (by omega) OH_w10.out.at).mono ?_
  rintro e w' ⟨rfl, rfl⟩
  go_wp2_with fail
  refine (toIntS_any A c zs _ (by omega) (Rzs.out.below BBw10.out)).mono ?_
  rintro e w11 ⟨gz0, cz0, rfl, how11, hbw11⟩
  have Ls0_z0 : gs0 < gz0 := Nat.lt_of_lt_of_le Os0_w10.out.lt how11.le
  have LW_z0 : gW < gz0 := Nat.lt_of_lt_of_le OW_w10.out.lt how11.le
  have Lx0_z0 : gx0 < gz0 := Nat.lt_of_lt_of_le Ox0_w10.out.lt how11.le
  have LH_z0 : gH < gz0 := Nat.lt_of_lt_of_le OH_w10.out.lt how11.le
  have Ly0_z0 : gy0 < gz0 := Nat.lt_of_lt_of_le Oy0_w10.out.lt how11.le
  have Gz0 : w.heap.size ≤ gz0 := Nat.le_trans BBw10.out.size how11.le
  have Os0_w11 : Hid (Own w11 w.heap.size gs0 cs0 (zs)) := Os0_w10.out.below hbw11 Os0_w10.out.lt
  clear Os0_w10
  have OW_w11 : Hid (Own w11 w.heap.size gW cW ((runV zs [p]).1)) := OW_w10.out.below hbw11 OW_w10.out.lt
  clear OW_w10
  have Ox0_w11 : Hid (Own w11 w.heap.size gx0 cx0 (marks 1 (zs).length)) := Ox0_w10.out.below hbw11 Ox0_w10.out.lt
  clear Ox0_w10
  have OH_w11 : Hid (Own w11 w.heap.size gH cH (marks 1 ((runV zs [p]).1).length)) := OH_w10.out.below hbw11 OH_w10.out.lt
  clear OH_w10
  have Oy0_w11 : Hid (Own w11 w.heap.size gy0 cy0 (zs)) := Oy0_w10.out.below hbw11 Oy0_w10.out.lt
  clear Oy0_w10
  have BBw11 : Hid (Below w.heap.size w w11) := below_to BBw10.out hbw11 BBw10.out.size
  clear BBw10
  have Oz0_w11 : Hid (Own w11 w.heap.size gz0 cz0 (zs)) := OwnV.mono how11 Gz0
  clear how11 hbw11
  go_wp2_with fail
  refine (impl_pulse _ _ _ zs p _ (by omega) Ip.out Oz0_w11.out.at Oz0_w11.out.lt).mono ?_
  rintro e w12 ⟨gK, cK, rfl, how12, hbw12⟩
  have Ls0_K : gs0 < gK := Nat.lt_of_lt_of_le Os0_w11.out.lt how12.le
  have LW_K : gW < gK := Nat.lt_of_lt_of_le OW_w11.out.lt how12.le
  have Lx0_K : gx0 < gK := Nat.lt_of_lt_of_le Ox0_w11.out.lt how12.le
  have LH_K : gH < gK := Nat.lt_of_lt_of_le OH_w11.out.lt how12.le
  have Ly0_K : gy0 < gK := Nat.lt_of_lt_of_le Oy0_w11.out.lt how12.le
  have Lz0_K : gz0 < gK := Nat.lt_of_lt_of_le Oz0_w11.out.lt how12.le
  have GK : w.heap.size ≤ gK := Nat.le_trans BBw11.out.size how12.le
  have Os0_w12 : Hid (Own w12 w.heap.size gs0 cs0 (zs)) := Os0_w11.out.below hbw12 Os0_w11.out.lt
  clear Os0_w11
  have OW_w12 : Hid (Own w12 w.heap.size gW cW ((runV zs [p]).1)) := OW_w11.out.below hbw12 OW_w11.out.lt
  clear OW_w11
  have Ox0_w12 : Hid (Own w12 w.heap.size gx0 cx0 (marks 1 (zs).length)) := Ox0_w11.out.below hbw12 Ox0_w11.out.lt
  clear Ox0_w11
  have OH_w12 : Hid (Own w12 w.heap.size gH cH (marks 1 ((runV zs [p]).1).length)) := OH_w11.out.below hbw12 OH_w11.out.lt
  clear OH_w11
  have Oy0_w12 : Hid (Own w12 w.heap.size gy0 cy0 (zs)) := Oy0_w11.out.below hbw12 Oy0_w11.out.lt
  clear Oy0_w11
  have Oz0_w12 : Hid (Own w12 w.heap.size gz0 cz0 (zs)) := Oz0_w11.out.below hbw12 Oz0_w11.out.lt
  clear Oz0_w11
  have BBw12 : Hid (Below w.heap.size w w12) := below_to BBw11.out hbw12 BBw11.out.size
  clear BBw11
  have OK_w12 : Hid (Own w12 w.heap.size gK cK ((runV zs [p]).1)) := OwnV.mono how12 GK
  clear how12 hbw12
  go_wp2_with fail
  refine (eqIntS_same _ _ _ _ _ _ ((runV zs [p]).1) _ (by omega) OK_w12.out.at OW_w12.out.at).mono ?_
  rintro e w13 ⟨rfl, hqw13⟩
  have Os0_w13 : Hid (Own w13 w.heap.size gs0 cs0 (zs)) := Os0_w12.out.below (hqw13.below _) Os0_w12.out.lt
  clear Os0_w12
  have OW_w13 : Hid (Own w13 w.heap.size gW cW ((runV zs [p]).1)) := OW_w12.out.below (hqw13.below _) OW_w12.out.lt
  clear OW_w12
  have Ox0_w13 : Hid (Own w13 w.heap.size gx0 cx0 (marks 1 (zs).length)) := Ox0_w12.out.below (hqw13.below _) Ox0_w12.out.lt
  clear Ox0_w12
  have OH_w13 : Hid (Own w13 w.heap.size gH cH (marks 1 ((runV zs [p]).1).length)) := OH_w12.out.below (hqw13.below _) OH_w12.out.lt
  clear OH_w12
  have Oy0_w13 : Hid (Own w13 w.heap.size gy0 cy0 (zs)) := Oy0_w12.out.below (hqw13.below _) Oy0_w12.out.lt
  clear Oy0_w12
  have Oz0_w13 : Hid (Own w13 w.heap.size gz0 cz0 (zs)) := Oz0_w12.out.below (hqw13.below _) Oz0_w12.out.lt
  clear Oz0_w12
  have OK_w13 : Hid (Own w13 w.heap.size gK cK ((runV zs [p]).1)) := OK_w12.out.below (hqw13.below _) OK_w12.out.lt
  clear OK_w12
  have BBw13 : Hid (Below w.heap.size w w13) := below_to BBw12.out (hqw13.below _) BBw12.out.size
  clear BBw12
  clear hqw13
  go_wp2_with fail
  refine (heldIntS_any _ _ _ ((runV zs [p]).1).length 1 _ (by omega) (by omega) (by omega) OH_w13.out.at).mono ?_
  rintro e w' ⟨rfl, rfl⟩
  go_wp2_with fail
  go_ret
  exact ⟨rfl, BBw13.out⟩

set_option maxHeartbeats 1600000 in
theorem law_ExactCountsRun (A : Option Addr) (c : Nat) (zs : List Int) (A2 : Option Addr) (c2 : Nat) (ps : List Int) (w : World) (hqzs : ArgInts w A zs) (hqps : ArgInts w A2 ps) :
    Calls Try.prog 9 #[.slice A zs.length c, .slice A2 ps.length c2] w fun e w' => e = .returned (.bool true) ∧ Below w.heap.size w w' := by
  obtain ⟨hrzs, hzzs, hnzs⟩ := hqzs
  have Rzs := Lib.hid hrzs
  have Zzs := Lib.hid hzzs
  clear hrzs hzzs
  obtain ⟨hrps, hzps, hnps⟩ := hqps
  have Rps := Lib.hid hrps
  have Zps := Lib.hid hzps
  clear hrps hzps
  by_cases hbigzs : 1048576 < zs.length
  · have tbzs := dec_t (show (1048576 : Int) < (zs.length : Int) by omega)
    go_enter Try.func9, Try.ntmps9
    go_wp2_with fail
    go_ret
    exact ⟨rfl, Below.refl _ _⟩
  have tbzs := dec_f (show ¬ (1048576 : Int) < (zs.length : Int) by omega)
  have szzs : zs.length ≤ 1048576 := by omega
  by_cases hbigps : 1048576 < ps.length
  · have tbps := dec_t (show (1048576 : Int) < (ps.length : Int) by omega)
    go_enter Try.func9, Try.ntmps9
    go_wp2_with fail
    go_ret
    exact ⟨rfl, Below.refl _ _⟩
  have tbps := dec_f (show ¬ (1048576 : Int) < (ps.length : Int) by omega)
  have szps : ps.length ≤ 1048576 := by omega
  have hlen : ((runV zs ps).1).length ≤ 2000000 := (by have := runV_length zs ps; omega)
  go_enter Try.func9, Try.ntmps9
  have BB0 : Hid (Below w.heap.size w w) := Below.refl _ _
  go_wp2_with fail
  refine (toIntS_any A c zs _ (by omega) (Rzs.out.below BB0.out)).mono ?_
  rintro e w1 ⟨gs0, cs0, rfl, how1, hbw1⟩
  have Gs0 : w.heap.size ≤ gs0 := Nat.le_trans BB0.out.size how1.le
  have BBw1 : Hid (Below w.heap.size w w1) := below_to BB0.out hbw1 BB0.out.size
  clear BB0
  have Os0_w1 : Hid (Own w1 w.heap.size gs0 cs0 (zs)) := OwnV.mono how1 Gs0
  clear how1 hbw1
  go_wp2_with fail
  refine (toIntS_any A2 c2 ps _ (by omega) (Rps.out.below BBw1.out)).mono ?_
  rintro e w2 ⟨gs1, cs1, rfl, how2, hbw2⟩
  have Ls0_s1 : gs0 < gs1 := Nat.lt_of_lt_of_le Os0_w1.out.lt how2.le
  have Gs1 : w.heap.size ≤ gs1 := Nat.le_trans BBw1.out.size how2.le
  have Os0_w2 : Hid (Own w2 w.heap.size gs0 cs0 (zs)) := Os0_w1.out.below hbw2 Os0_w1.out.lt
  clear Os0_w1
  have BBw2 : Hid (Below w.heap.size w w2) := below_to BBw1.out hbw2 BBw1.out.size
  clear BBw1
  have Os1_w2 : Hid (Own w2 w.heap.size gs1 cs1 (ps)) := OwnV.mono how2 Gs1
  clear how2 hbw2
  go_wp2_with fail
  refine (spec_run _ _ _ _ _ _ zs ps _ (by omega) (by omega) Zps.out Os0_w2.out.at Os0_w2.out.lt Os1_w2.out.at Os1_w2.out.lt).mono ?_
  rintro e w3 ⟨gW, cW, rfl, how3, hbw3⟩
  have Ls0_W : gs0 < gW := Nat.lt_of_lt_of_le Os0_w2.out.lt how3.le
  have Ls1_W : gs1 < gW := Nat.lt_of_lt_of_le Os1_w2.out.lt how3.le
  have GW : w.heap.size ≤ gW := Nat.le_trans BBw2.out.size how3.le
  have Os0_w3 : Hid (Own w3 w.heap.size gs0 cs0 (zs)) := Os0_w2.out.below hbw3 Os0_w2.out.lt
  clear Os0_w2
  have Os1_w3 : Hid (Own w3 w.heap.size gs1 cs1 (ps)) := Os1_w2.out.below hbw3 Os1_w2.out.lt
  clear Os1_w2
  have BBw3 : Hid (Below w.heap.size w w3) := below_to BBw2.out hbw3 BBw2.out.size
  clear BBw2
  have OW_w3 : Hid (Own w3 w.heap.size gW cW ((runV zs ps).1)) := OwnV.mono how3 GW
  clear how3 hbw3
  go_wp2_with fail
  refine (toIntS_any A c zs _ (by omega) (Rzs.out.below BBw3.out)).mono ?_
  rintro e w4 ⟨gx0, cx0, rfl, how4, hbw4⟩
  have Ls0_x0 : gs0 < gx0 := Nat.lt_of_lt_of_le Os0_w3.out.lt how4.le
  have Ls1_x0 : gs1 < gx0 := Nat.lt_of_lt_of_le Os1_w3.out.lt how4.le
  have LW_x0 : gW < gx0 := Nat.lt_of_lt_of_le OW_w3.out.lt how4.le
  have Gx0 : w.heap.size ≤ gx0 := Nat.le_trans BBw3.out.size how4.le
  have Os0_w4 : Hid (Own w4 w.heap.size gs0 cs0 (zs)) := Os0_w3.out.below hbw4 Os0_w3.out.lt
  clear Os0_w3
  have Os1_w4 : Hid (Own w4 w.heap.size gs1 cs1 (ps)) := Os1_w3.out.below hbw4 Os1_w3.out.lt
  clear Os1_w3
  have OW_w4 : Hid (Own w4 w.heap.size gW cW ((runV zs ps).1)) := OW_w3.out.below hbw4 OW_w3.out.lt
  clear OW_w3
  have BBw4 : Hid (Below w.heap.size w w4) := below_to BBw3.out hbw4 BBw3.out.size
  clear BBw3
  have Ox0_w4 : Hid (Own w4 w.heap.size gx0 cx0 (zs)) := OwnV.mono how4 Gx0
  clear how4 hbw4
  go_wp2_with fail
  refine (toIntS_any A2 c2 ps _ (by omega) (Rps.out.below BBw4.out)).mono ?_
  rintro e w5 ⟨gx1, cx1, rfl, how5, hbw5⟩
  have Ls0_x1 : gs0 < gx1 := Nat.lt_of_lt_of_le Os0_w4.out.lt how5.le
  have Ls1_x1 : gs1 < gx1 := Nat.lt_of_lt_of_le Os1_w4.out.lt how5.le
  have LW_x1 : gW < gx1 := Nat.lt_of_lt_of_le OW_w4.out.lt how5.le
  have Lx0_x1 : gx0 < gx1 := Nat.lt_of_lt_of_le Ox0_w4.out.lt how5.le
  have Gx1 : w.heap.size ≤ gx1 := Nat.le_trans BBw4.out.size how5.le
  have Os0_w5 : Hid (Own w5 w.heap.size gs0 cs0 (zs)) := Os0_w4.out.below hbw5 Os0_w4.out.lt
  clear Os0_w4
  have Os1_w5 : Hid (Own w5 w.heap.size gs1 cs1 (ps)) := Os1_w4.out.below hbw5 Os1_w4.out.lt
  clear Os1_w4
  have OW_w5 : Hid (Own w5 w.heap.size gW cW ((runV zs ps).1)) := OW_w4.out.below hbw5 OW_w4.out.lt
  clear OW_w4
  have Ox0_w5 : Hid (Own w5 w.heap.size gx0 cx0 (zs)) := Ox0_w4.out.below hbw5 Ox0_w4.out.lt
  clear Ox0_w4
  have BBw5 : Hid (Below w.heap.size w w5) := below_to BBw4.out hbw5 BBw4.out.size
  clear BBw4
  have Ox1_w5 : Hid (Own w5 w.heap.size gx1 cx1 (ps)) := OwnV.mono how5 Gx1
  clear how5 hbw5
  go_wp2_with fail
  refine (impl_run _ _ _ _ _ _ zs ps _ (by omega) (by omega) Zps.out Ox0_w5.out.at Ox0_w5.out.lt Ox1_w5.out.at Ox1_w5.out.lt).mono ?_
  rintro e w6 ⟨gH, cH, rfl, how6, hbw6⟩
  have Ls0_H : gs0 < gH := Nat.lt_of_lt_of_le Os0_w5.out.lt how6.le
  have Ls1_H : gs1 < gH := Nat.lt_of_lt_of_le Os1_w5.out.lt how6.le
  have LW_H : gW < gH := Nat.lt_of_lt_of_le OW_w5.out.lt how6.le
  have Lx0_H : gx0 < gH := Nat.lt_of_lt_of_le Ox0_w5.out.lt how6.le
  have Lx1_H : gx1 < gH := Nat.lt_of_lt_of_le Ox1_w5.out.lt how6.le
  have GH : w.heap.size ≤ gH := Nat.le_trans BBw5.out.size how6.le
  have Os0_w6 : Hid (Own w6 w.heap.size gs0 cs0 (zs)) := Os0_w5.out.below hbw6 Os0_w5.out.lt
  clear Os0_w5
  have Os1_w6 : Hid (Own w6 w.heap.size gs1 cs1 (ps)) := Os1_w5.out.below hbw6 Os1_w5.out.lt
  clear Os1_w5
  have OW_w6 : Hid (Own w6 w.heap.size gW cW ((runV zs ps).1)) := OW_w5.out.below hbw6 OW_w5.out.lt
  clear OW_w5
  have Ox0_w6 : Hid (Own w6 w.heap.size gx0 cx0 (zs)) := Ox0_w5.out.below hbw6 Ox0_w5.out.lt
  clear Ox0_w5
  have Ox1_w6 : Hid (Own w6 w.heap.size gx1 cx1 (ps)) := Ox1_w5.out.below hbw6 Ox1_w5.out.lt
  clear Ox1_w5
  have BBw6 : Hid (Below w.heap.size w w6) := below_to BBw5.out hbw6 BBw5.out.size
  clear BBw5
  have OH_w6 : Hid (Own w6 w.heap.size gH cH ((runV zs ps).1)) := OwnV.mono how6 GH
  clear how6 hbw6
  go_wp2_with fail
  refine (eqIntS_same _ _ _ _ _ _ ((runV zs ps).1) _ (by omega) OH_w6.out.at OW_w6.out.at).mono ?_
  rintro e w7 ⟨rfl, hqw7⟩
  have Os0_w7 : Hid (Own w7 w.heap.size gs0 cs0 (zs)) := Os0_w6.out.below (hqw7.below _) Os0_w6.out.lt
  clear Os0_w6
  have Os1_w7 : Hid (Own w7 w.heap.size gs1 cs1 (ps)) := Os1_w6.out.below (hqw7.below _) Os1_w6.out.lt
  clear Os1_w6
  have OW_w7 : Hid (Own w7 w.heap.size gW cW ((runV zs ps).1)) := OW_w6.out.below (hqw7.below _) OW_w6.out.lt
  clear OW_w6
  have Ox0_w7 : Hid (Own w7 w.heap.size gx0 cx0 (zs)) := Ox0_w6.out.below (hqw7.below _) Ox0_w6.out.lt
  clear Ox0_w6
  have Ox1_w7 : Hid (Own w7 w.heap.size gx1 cx1 (ps)) := Ox1_w6.out.below (hqw7.below _) Ox1_w6.out.lt
  clear Ox1_w6
  have OH_w7 : Hid (Own w7 w.heap.size gH cH ((runV zs ps).1)) := OH_w6.out.below (hqw7.below _) OH_w6.out.lt
  clear OH_w6
  have BBw7 : Hid (Below w.heap.size w w7) := below_to BBw6.out (hqw7.below _) BBw6.out.size
  clear BBw6
  clear hqw7
  go_wp2_with fail
  refine (toIntS_any A c zs _ (by omega) (Rzs.out.below BBw7.out)).mono ?_
  rintro e w8 ⟨gy0, cy0, rfl, how8, hbw8⟩
  have Ls0_y0 : gs0 < gy0 := Nat.lt_of_lt_of_le Os0_w7.out.lt how8.le
  have Ls1_y0 : gs1 < gy0 := Nat.lt_of_lt_of_le Os1_w7.out.lt how8.le
  have LW_y0 : gW < gy0 := Nat.lt_of_lt_of_le OW_w7.out.lt how8.le
  have Lx0_y0 : gx0 < gy0 := Nat.lt_of_lt_of_le Ox0_w7.out.lt how8.le
  have Lx1_y0 : gx1 < gy0 := Nat.lt_of_lt_of_le Ox1_w7.out.lt how8.le
  have LH_y0 : gH < gy0 := Nat.lt_of_lt_of_le OH_w7.out.lt how8.le
  have Gy0 : w.heap.size ≤ gy0 := Nat.le_trans BBw7.out.size how8.le
  have Os0_w8 : Hid (Own w8 w.heap.size gs0 cs0 (zs)) := Os0_w7.out.below hbw8 Os0_w7.out.lt
  clear Os0_w7
  have Os1_w8 : Hid (Own w8 w.heap.size gs1 cs1 (ps)) := Os1_w7.out.below hbw8 Os1_w7.out.lt
  clear Os1_w7
  have OW_w8 : Hid (Own w8 w.heap.size gW cW ((runV zs ps).1)) := OW_w7.out.below hbw8 OW_w7.out.lt
  clear OW_w7
  have Ox0_w8 : Hid (Own w8 w.heap.size gx0 cx0 (zs)) := Ox0_w7.out.below hbw8 Ox0_w7.out.lt
  clear Ox0_w7
  have Ox1_w8 : Hid (Own w8 w.heap.size gx1 cx1 (ps)) := Ox1_w7.out.below hbw8 Ox1_w7.out.lt
  clear Ox1_w7
  have OH_w8 : Hid (Own w8 w.heap.size gH cH ((runV zs ps).1)) := OH_w7.out.below hbw8 OH_w7.out.lt
  clear OH_w7
  have BBw8 : Hid (Below w.heap.size w w8) := below_to BBw7.out hbw8 BBw7.out.size
  clear BBw7
  have Oy0_w8 : Hid (Own w8 w.heap.size gy0 cy0 (zs)) := OwnV.mono how8 Gy0
  clear how8 hbw8
  go_wp2_with fail
  refine (eqIntS_same _ _ _ _ _ _ (zs) _ (by omega) Ox0_w8.out.at Oy0_w8.out.at).mono ?_
  rintro e w9 ⟨rfl, hqw9⟩
  have Os0_w9 : Hid (Own w9 w.heap.size gs0 cs0 (zs)) := Os0_w8.out.below (hqw9.below _) Os0_w8.out.lt
  clear Os0_w8
  have Os1_w9 : Hid (Own w9 w.heap.size gs1 cs1 (ps)) := Os1_w8.out.below (hqw9.below _) Os1_w8.out.lt
  clear Os1_w8
  have OW_w9 : Hid (Own w9 w.heap.size gW cW ((runV zs ps).1)) := OW_w8.out.below (hqw9.below _) OW_w8.out.lt
  clear OW_w8
  have Ox0_w9 : Hid (Own w9 w.heap.size gx0 cx0 (zs)) := Ox0_w8.out.below (hqw9.below _) Ox0_w8.out.lt
  clear Ox0_w8
  have Ox1_w9 : Hid (Own w9 w.heap.size gx1 cx1 (ps)) := Ox1_w8.out.below (hqw9.below _) Ox1_w8.out.lt
  clear Ox1_w8
  have OH_w9 : Hid (Own w9 w.heap.size gH cH ((runV zs ps).1)) := OH_w8.out.below (hqw9.below _) OH_w8.out.lt
  clear OH_w8
  have Oy0_w9 : Hid (Own w9 w.heap.size gy0 cy0 (zs)) := Oy0_w8.out.below (hqw9.below _) Oy0_w8.out.lt
  clear Oy0_w8
  have BBw9 : Hid (Below w.heap.size w w9) := below_to BBw8.out (hqw9.below _) BBw8.out.size
  clear BBw8
  clear hqw9
  go_wp2_with fail
  refine (toIntS_any A2 c2 ps _ (by omega) (Rps.out.below BBw9.out)).mono ?_
  rintro e w10 ⟨gy1, cy1, rfl, how10, hbw10⟩
  have Ls0_y1 : gs0 < gy1 := Nat.lt_of_lt_of_le Os0_w9.out.lt how10.le
  have Ls1_y1 : gs1 < gy1 := Nat.lt_of_lt_of_le Os1_w9.out.lt how10.le
  have LW_y1 : gW < gy1 := Nat.lt_of_lt_of_le OW_w9.out.lt how10.le
  have Lx0_y1 : gx0 < gy1 := Nat.lt_of_lt_of_le Ox0_w9.out.lt how10.le
  have Lx1_y1 : gx1 < gy1 := Nat.lt_of_lt_of_le Ox1_w9.out.lt how10.le
  have LH_y1 : gH < gy1 := Nat.lt_of_lt_of_le OH_w9.out.lt how10.le
  have Ly0_y1 : gy0 < gy1 := Nat.lt_of_lt_of_le Oy0_w9.out.lt how10.le
  have Gy1 : w.heap.size ≤ gy1 := Nat.le_trans BBw9.out.size how10.le
  have Os0_w10 : Hid (Own w10 w.heap.size gs0 cs0 (zs)) := Os0_w9.out.below hbw10 Os0_w9.out.lt
  clear Os0_w9
  have Os1_w10 : Hid (Own w10 w.heap.size gs1 cs1 (ps)) := Os1_w9.out.below hbw10 Os1_w9.out.lt
  clear Os1_w9
  have OW_w10 : Hid (Own w10 w.heap.size gW cW ((runV zs ps).1)) := OW_w9.out.below hbw10 OW_w9.out.lt
  clear OW_w9
  have Ox0_w10 : Hid (Own w10 w.heap.size gx0 cx0 (zs)) := Ox0_w9.out.below hbw10 Ox0_w9.out.lt
  clear Ox0_w9
  have Ox1_w10 : Hid (Own w10 w.heap.size gx1 cx1 (ps)) := Ox1_w9.out.below hbw10 Ox1_w9.out.lt
  clear Ox1_w9
  have OH_w10 : Hid (Own w10 w.heap.size gH cH ((runV zs ps).1)) := OH_w9.out.below hbw10 OH_w9.out.lt
  clear OH_w9
  have Oy0_w10 : Hid (Own w10 w.heap.size gy0 cy0 (zs)) := Oy0_w9.out.below hbw10 Oy0_w9.out.lt
  clear Oy0_w9
  have BBw10 : Hid (Below w.heap.size w w10) := below_to BBw9.out hbw10 BBw9.out.size
  clear BBw9
  have Oy1_w10 : Hid (Own w10 w.heap.size gy1 cy1 (ps)) := OwnV.mono how10 Gy1
  clear how10 hbw10
  go_wp2_with fail
  refine (eqIntS_same _ _ _ _ _ _ (ps) _ (by omega) Ox1_w10.out.at Oy1_w10.out.at).mono ?_
  rintro e w11 ⟨rfl, hqw11⟩
  have Os0_w11 : Hid (Own w11 w.heap.size gs0 cs0 (zs)) := Os0_w10.out.below (hqw11.below _) Os0_w10.out.lt
  clear Os0_w10
  have Os1_w11 : Hid (Own w11 w.heap.size gs1 cs1 (ps)) := Os1_w10.out.below (hqw11.below _) Os1_w10.out.lt
  clear Os1_w10
  have OW_w11 : Hid (Own w11 w.heap.size gW cW ((runV zs ps).1)) := OW_w10.out.below (hqw11.below _) OW_w10.out.lt
  clear OW_w10
  have Ox0_w11 : Hid (Own w11 w.heap.size gx0 cx0 (zs)) := Ox0_w10.out.below (hqw11.below _) Ox0_w10.out.lt
  clear Ox0_w10
  have Ox1_w11 : Hid (Own w11 w.heap.size gx1 cx1 (ps)) := Ox1_w10.out.below (hqw11.below _) Ox1_w10.out.lt
  clear Ox1_w10
  have OH_w11 : Hid (Own w11 w.heap.size gH cH ((runV zs ps).1)) := OH_w10.out.below (hqw11.below _) OH_w10.out.lt
  clear OH_w10
  have Oy0_w11 : Hid (Own w11 w.heap.size gy0 cy0 (zs)) := Oy0_w10.out.below (hqw11.below _) Oy0_w10.out.lt
  clear Oy0_w10
  have Oy1_w11 : Hid (Own w11 w.heap.size gy1 cy1 (ps)) := Oy1_w10.out.below (hqw11.below _) Oy1_w10.out.lt
  clear Oy1_w10
  have BBw11 : Hid (Below w.heap.size w w11) := below_to BBw10.out (hqw11.below _) BBw10.out.size
  clear BBw10
  clear hqw11
  go_wp2_with fail
  refine (markIntS_any w.heap.size _ _ (zs) 1 _ (by omega) (by omega) (by omega) (by exact Ox0_w11.out)).mono ?_
  rintro e w12 ⟨rfl, hmw12, hgw12, hzw12⟩
  have Os0_w12 : Hid (Own w12 w.heap.size gs0 cs0 (zs)) := Os0_w11.out.grown hgw12 (by have := Ls0_x0; intro h; injection h; omega)
  clear Os0_w11
  have Os1_w12 : Hid (Own w12 w.heap.size gs1 cs1 (ps)) := Os1_w11.out.grown hgw12 (by have := Ls1_x0; intro h; injection h; omega)
  clear Os1_w11
  have OW_w12 : Hid (Own w12 w.heap.size gW cW ((runV zs ps).1)) := OW_w11.out.grown hgw12 (by have := LW_x0; intro h; injection h; omega)
  clear OW_w11
  have Ox1_w12 : Hid (Own w12 w.heap.size gx1 cx1 (ps)) := Ox1_w11.out.grown hgw12 (by have := Lx0_x1; intro h; injection h; omega)
  clear Ox1_w11
  have OH_w12 : Hid (Own w12 w.heap.size gH cH ((runV zs ps).1)) := OH_w11.out.grown hgw12 (by have := Lx0_H; intro h; injection h; omega)
  clear OH_w11
  have Oy0_w12 : Hid (Own w12 w.heap.size gy0 cy0 (zs)) := Oy0_w11.out.grown hgw12 (by have := Lx0_y0; intro h; injection h; omega)
  clear Oy0_w11
  have Oy1_w12 : Hid (Own w12 w.heap.size gy1 cy1 (ps)) := Oy1_w11.out.grown hgw12 (by have := Lx0_y1; intro h; injection h; omega)
  clear Oy1_w11
  have BBw12 : Hid (Below w.heap.size w w12) := below_app BBw11.out hgw12 Gx0
  have Ox0_w12 : Hid (Own w12 w.heap.size gx0 cx0 (marks 1 (zs).length)) := hmw12
  clear Ox0_w11 hmw12 hgw12 hzw12 BBw11
  go_wp2_with fail
  refine (markIntS_any w.heap.size _ _ (ps) (1 + (zs.length : Int)) _ (by omega) (by omega) (by omega) (by exact Ox1_w12.out)).mono ?_
  rintro e w13 ⟨rfl, hmw13, hgw13, hzw13⟩
  have Os0_w13 : Hid (Own w13 w.heap.size gs0 cs0 (zs)) := Os0_w12.out.grown hgw13 (by have := Ls0_x1; intro h; injection h; omega)
  clear Os0_w12
  have Os1_w13 : Hid (Own w13 w.heap.size gs1 cs1 (ps)) := Os1_w12.out.grown hgw13 (by have := Ls1_x1; intro h; injection h; omega)
  clear Os1_w12
  have OW_w13 : Hid (Own w13 w.heap.size gW cW ((runV zs ps).1)) := OW_w12.out.grown hgw13 (by have := LW_x1; intro h; injection h; omega)
  clear OW_w12
  have Ox0_w13 : Hid (Own w13 w.heap.size gx0 cx0 (marks 1 (zs).length)) := Ox0_w12.out.grown hgw13 (by have := Lx0_x1; intro h; injection h; omega)
  clear Ox0_w12
  have OH_w13 : Hid (Own w13 w.heap.size gH cH ((runV zs ps).1)) := OH_w12.out.grown hgw13 (by have := Lx1_H; intro h; injection h; omega)
  clear OH_w12
  have Oy0_w13 : Hid (Own w13 w.heap.size gy0 cy0 (zs)) := Oy0_w12.out.grown hgw13 (by have := Lx1_y0; intro h; injection h; omega)
  clear Oy0_w12
  have Oy1_w13 : Hid (Own w13 w.heap.size gy1 cy1 (ps)) := Oy1_w12.out.grown hgw13 (by have := Lx1_y1; intro h; injection h; omega)
  clear Oy1_w12
  have BBw13 : Hid (Below w.heap.size w w13) := below_app BBw12.out hgw13 Gx1
  have Ox1_w13 : Hid (Own w13 w.heap.size gx1 cx1 (marks (1 + (zs.length : Int)) (ps).length)) := hmw13
  clear Ox1_w12 hmw13 hgw13 hzw13 BBw12
  have tk := dec_f (show ¬ ((1 + (zs.length : Int)) + (ps.length : Int)) < 0 by omega)
  go_wp2_with fail
  refine (eqIntS_same _ _ _ _ _ _ ((runV zs ps).1) _ (by omega) OH_w13.out.at OW_w13.out.at).mono ?_
  rintro e w14 ⟨rfl, hqw14⟩
  have Os0_w14 : Hid (Own w14 w.heap.size gs0 cs0 (zs)) := Os0_w13.out.below (hqw14.below _) Os0_w13.out.lt
  clear Os0_w13
  have Os1_w14 : Hid (Own w14 w.heap.size gs1 cs1 (ps)) := Os1_w13.out.below (hqw14.below _) Os1_w13.out.lt
  clear Os1_w13
  have OW_w14 : Hid (Own w14 w.heap.size gW cW ((runV zs ps).1)) := OW_w13.out.below (hqw14.below _) OW_w13.out.lt
  clear OW_w13
  have Ox0_w14 : Hid (Own w14 w.heap.size gx0 cx0 (marks 1 (zs).length)) := Ox0_w13.out.below (hqw14.below _) Ox0_w13.out.lt
  clear Ox0_w13
  have Ox1_w14 : Hid (Own w14 w.heap.size gx1 cx1 (marks (1 + (zs.length : Int)) (ps).length)) := Ox1_w13.out.below (hqw14.below _) Ox1_w13.out.lt
  clear Ox1_w13
  have OH_w14 : Hid (Own w14 w.heap.size gH cH ((runV zs ps).1)) := OH_w13.out.below (hqw14.below _) OH_w13.out.lt
  clear OH_w13
  have Oy0_w14 : Hid (Own w14 w.heap.size gy0 cy0 (zs)) := Oy0_w13.out.below (hqw14.below _) Oy0_w13.out.lt
  clear Oy0_w13
  have Oy1_w14 : Hid (Own w14 w.heap.size gy1 cy1 (ps)) := Oy1_w13.out.below (hqw14.below _) Oy1_w13.out.lt
  clear Oy1_w13
  have BBw14 : Hid (Below w.heap.size w w14) := below_to BBw13.out (hqw14.below _) BBw13.out.size
  clear BBw13
  clear hqw14
  go_wp2_with fail
  refine (markIntS_any w.heap.size _ _ ((runV zs ps).1) 1 _ (by omega) (by omega) (by omega) (by exact OH_w14.out)).mono ?_
  rintro e w15 ⟨rfl, hmw15, hgw15, hzw15⟩
  have Os0_w15 : Hid (Own w15 w.heap.size gs0 cs0 (zs)) := Os0_w14.out.grown hgw15 (by have := Ls0_H; intro h; injection h; omega)
  clear Os0_w14
  have Os1_w15 : Hid (Own w15 w.heap.size gs1 cs1 (ps)) := Os1_w14.out.grown hgw15 (by have := Ls1_H; intro h; injection h; omega)
  clear Os1_w14
  have OW_w15 : Hid (Own w15 w.heap.size gW cW ((runV zs ps).1)) := OW_w14.out.grown hgw15 (by have := LW_H; intro h; injection h; omega)
  clear OW_w14
  have Ox0_w15 : Hid (Own w15 w.heap.size gx0 cx0 (marks 1 (zs).length)) := Ox0_w14.out.grown hgw15 (by have := Lx0_H; intro h; injection h; omega)
  clear Ox0_w14
  have Ox1_w15 : Hid (Own w15 w.heap.size gx1 cx1 (marks (1 + (zs.length : Int)) (ps).length)) := Ox1_w14.out.grown hgw15 (by have := Lx1_H; intro h; injection h; omega)
  clear Ox1_w14
  have Oy0_w15 : Hid (Own w15 w.heap.size gy0 cy0 (zs)) := Oy0_w14.out.grown hgw15 (by have := LH_y0; intro h; injection h; omega)
  clear Oy0_w14
  have Oy1_w15 : Hid (Own w15 w.heap.size gy1 cy1 (ps)) := Oy1_w14.out.grown hgw15 (by have := LH_y1; intro h; injection h; omega)
  clear Oy1_w14
  have BBw15 : Hid (Below w.heap.size w w15) := below_app BBw14.out hgw15 GH
  have OH_w15 : Hid (Own w15 w.heap.size gH cH (marks 1 ((runV zs ps).1).length)) := hmw15
  clear OH_w14 hmw15 hgw15 hzw15 BBw14
  have tq := dec_f (show ¬ (1 + (((runV zs ps).1).length : Int)) < 0 by omega)
  go_wp2_with fail
  refine (heldIntS_any _ _ _ ((runV zs ps).1).length 1 _ (by omega) (by omega) (by omega) OH_w15.out.at).mono ?_
  rintro e w' ⟨rfl, rfl⟩
  go_wp2_with fail
  refine (toIntS_any A c zs _ (by omega) (Rzs.out.below BBw15.out)).mono ?_
  rintro e w16 ⟨gz0, cz0, rfl, how16, hbw16⟩
  have Ls0_z0 : gs0 < gz0 := Nat.lt_of_lt_of_le Os0_w15.out.lt how16.le
  have Ls1_z0 : gs1 < gz0 := Nat.lt_of_lt_of_le Os1_w15.out.lt how16.le
  have LW_z0 : gW < gz0 := Nat.lt_of_lt_of_le OW_w15.out.lt how16.le
  have Lx0_z0 : gx0 < gz0 := Nat.lt_of_lt_of_le Ox0_w15.out.lt how16.le
  have Lx1_z0 : gx1 < gz0 := Nat.lt_of_lt_of_le Ox1_w15.out.lt how16.le
  have LH_z0 : gH < gz0 := Nat.lt_of_lt_of_le OH_w15.out.lt how16.le
  have Ly0_z0 : gy0 < gz0 := Nat.lt_of_lt_of_le Oy0_w15.out.lt how16.le
  have Ly1_z0 : gy1 < gz0 := Nat.lt_of_lt_of_le Oy1_w15.out.lt how16.le
  have Gz0 : w.heap.size ≤ gz0 := Nat.le_trans BBw15.out.size how16.le
  have Os0_w16 : Hid (Own w16 w.heap.size gs0 cs0 (zs)) := Os0_w15.out.below hbw16 Os0_w15.out.lt
  clear Os0_w15
  have Os1_w16 : Hid (Own w16 w.heap.size gs1 cs1 (ps)) := Os1_w15.out.below hbw16 Os1_w15.out.lt
  clear Os1_w15
  have OW_w16 : Hid (Own w16 w.heap.size gW cW ((runV zs ps).1)) := OW_w15.out.below hbw16 OW_w15.out.lt
  clear OW_w15
  have Ox0_w16 : Hid (Own w16 w.heap.size gx0 cx0 (marks 1 (zs).length)) := Ox0_w15.out.below hbw16 Ox0_w15.out.lt
  clear Ox0_w15
  have Ox1_w16 : Hid (Own w16 w.heap.size gx1 cx1 (marks (1 + (zs.length : Int)) (ps).length)) := Ox1_w15.out.below hbw16 Ox1_w15.out.lt
  clear Ox1_w15
  have OH_w16 : Hid (Own w16 w.heap.size gH cH (marks 1 ((runV zs ps).1).length)) := OH_w15.out.below hbw16 OH_w15.out.lt
  clear OH_w15
  have Oy0_w16 : Hid (Own w16 w.heap.size gy0 cy0 (zs)) := Oy0_w15.out.below hbw16 Oy0_w15.out.lt
  clear Oy0_w15
  have Oy1_w16 : Hid (Own w16 w.heap.size gy1 cy1 (ps)) := Oy1_w15.out.below hbw16 Oy1_w15.out.lt
  clear Oy1_w15
  have BBw16 : Hid (Below w.heap.size w w16) := below_to BBw15.out hbw16 BBw15.out.size
  clear BBw15
  have Oz0_w16 : Hid (Own w16 w.heap.size gz0 cz0 (zs)) := OwnV.mono how16 Gz0
  clear how16 hbw16
  go_wp2_with fail
  refine (toIntS_any A2 c2 ps _ (by omega) (Rps.out.below BBw16.out)).mono ?_
  rintro e w17 ⟨gz1, cz1, rfl, how17, hbw17⟩
  have Ls0_z1 : gs0 < gz1 := Nat.lt_of_lt_of_le Os0_w16.out.lt how17.le
  have Ls1_z1 : gs1 < gz1 := Nat.lt_of_lt_of_le Os1_w16.out.lt how17.le
  have LW_z1 : gW < gz1 := Nat.lt_of_lt_of_le OW_w16.out.lt how17.le
  have Lx0_z1 : gx0 < gz1 := Nat.lt_of_lt_of_le Ox0_w16.out.lt how17.le
  have Lx1_z1 : gx1 < gz1 := Nat.lt_of_lt_of_le Ox1_w16.out.lt how17.le
  have LH_z1 : gH < gz1 := Nat.lt_of_lt_of_le OH_w16.out.lt how17.le
  have Ly0_z1 : gy0 < gz1 := Nat.lt_of_lt_of_le Oy0_w16.out.lt how17.le
  have Ly1_z1 : gy1 < gz1 := Nat.lt_of_lt_of_le Oy1_w16.out.lt how17.le
  have Lz0_z1 : gz0 < gz1 := Nat.lt_of_lt_of_le Oz0_w16.out.lt how17.le
  have Gz1 : w.heap.size ≤ gz1 := Nat.le_trans BBw16.out.size how17.le
  have Os0_w17 : Hid (Own w17 w.heap.size gs0 cs0 (zs)) := Os0_w16.out.below hbw17 Os0_w16.out.lt
  clear Os0_w16
  have Os1_w17 : Hid (Own w17 w.heap.size gs1 cs1 (ps)) := Os1_w16.out.below hbw17 Os1_w16.out.lt
  clear Os1_w16
  have OW_w17 : Hid (Own w17 w.heap.size gW cW ((runV zs ps).1)) := OW_w16.out.below hbw17 OW_w16.out.lt
  clear OW_w16
  have Ox0_w17 : Hid (Own w17 w.heap.size gx0 cx0 (marks 1 (zs).length)) := Ox0_w16.out.below hbw17 Ox0_w16.out.lt
  clear Ox0_w16
  have Ox1_w17 : Hid (Own w17 w.heap.size gx1 cx1 (marks (1 + (zs.length : Int)) (ps).length)) := Ox1_w16.out.below hbw17 Ox1_w16.out.lt
  clear Ox1_w16
  have OH_w17 : Hid (Own w17 w.heap.size gH cH (marks 1 ((runV zs ps).1).length)) := OH_w16.out.below hbw17 OH_w16.out.lt
  clear OH_w16
  have Oy0_w17 : Hid (Own w17 w.heap.size gy0 cy0 (zs)) := Oy0_w16.out.below hbw17 Oy0_w16.out.lt
  clear Oy0_w16
  have Oy1_w17 : Hid (Own w17 w.heap.size gy1 cy1 (ps)) := Oy1_w16.out.below hbw17 Oy1_w16.out.lt
  clear Oy1_w16
  have Oz0_w17 : Hid (Own w17 w.heap.size gz0 cz0 (zs)) := Oz0_w16.out.below hbw17 Oz0_w16.out.lt
  clear Oz0_w16
  have BBw17 : Hid (Below w.heap.size w w17) := below_to BBw16.out hbw17 BBw16.out.size
  clear BBw16
  have Oz1_w17 : Hid (Own w17 w.heap.size gz1 cz1 (ps)) := OwnV.mono how17 Gz1
  clear how17 hbw17
  go_wp2_with fail
  refine (impl_run _ _ _ _ _ _ zs ps _ (by omega) (by omega) Zps.out Oz0_w17.out.at Oz0_w17.out.lt Oz1_w17.out.at Oz1_w17.out.lt).mono ?_
  rintro e w18 ⟨gK, cK, rfl, how18, hbw18⟩
  have Ls0_K : gs0 < gK := Nat.lt_of_lt_of_le Os0_w17.out.lt how18.le
  have Ls1_K : gs1 < gK := Nat.lt_of_lt_of_le Os1_w17.out.lt how18.le
  have LW_K : gW < gK := Nat.lt_of_lt_of_le OW_w17.out.lt how18.le
  have Lx0_K : gx0 < gK := Nat.lt_of_lt_of_le Ox0_w17.out.lt how18.le
  have Lx1_K : gx1 < gK := Nat.lt_of_lt_of_le Ox1_w17.out.lt how18.le
  have LH_K : gH < gK := Nat.lt_of_lt_of_le OH_w17.out.lt how18.le
  have Ly0_K : gy0 < gK := Nat.lt_of_lt_of_le Oy0_w17.out.lt how18.le
  have Ly1_K : gy1 < gK := Nat.lt_of_lt_of_le Oy1_w17.out.lt how18.le
  have Lz0_K : gz0 < gK := Nat.lt_of_lt_of_le Oz0_w17.out.lt how18.le
  have Lz1_K : gz1 < gK := Nat.lt_of_lt_of_le Oz1_w17.out.lt how18.le
  have GK : w.heap.size ≤ gK := Nat.le_trans BBw17.out.size how18.le
  have Os0_w18 : Hid (Own w18 w.heap.size gs0 cs0 (zs)) := Os0_w17.out.below hbw18 Os0_w17.out.lt
  clear Os0_w17
  have Os1_w18 : Hid (Own w18 w.heap.size gs1 cs1 (ps)) := Os1_w17.out.below hbw18 Os1_w17.out.lt
  clear Os1_w17
  have OW_w18 : Hid (Own w18 w.heap.size gW cW ((runV zs ps).1)) := OW_w17.out.below hbw18 OW_w17.out.lt
  clear OW_w17
  have Ox0_w18 : Hid (Own w18 w.heap.size gx0 cx0 (marks 1 (zs).length)) := Ox0_w17.out.below hbw18 Ox0_w17.out.lt
  clear Ox0_w17
  have Ox1_w18 : Hid (Own w18 w.heap.size gx1 cx1 (marks (1 + (zs.length : Int)) (ps).length)) := Ox1_w17.out.below hbw18 Ox1_w17.out.lt
  clear Ox1_w17
  have OH_w18 : Hid (Own w18 w.heap.size gH cH (marks 1 ((runV zs ps).1).length)) := OH_w17.out.below hbw18 OH_w17.out.lt
  clear OH_w17
  have Oy0_w18 : Hid (Own w18 w.heap.size gy0 cy0 (zs)) := Oy0_w17.out.below hbw18 Oy0_w17.out.lt
  clear Oy0_w17
  have Oy1_w18 : Hid (Own w18 w.heap.size gy1 cy1 (ps)) := Oy1_w17.out.below hbw18 Oy1_w17.out.lt
  clear Oy1_w17
  have Oz0_w18 : Hid (Own w18 w.heap.size gz0 cz0 (zs)) := Oz0_w17.out.below hbw18 Oz0_w17.out.lt
  clear Oz0_w17
  have Oz1_w18 : Hid (Own w18 w.heap.size gz1 cz1 (ps)) := Oz1_w17.out.below hbw18 Oz1_w17.out.lt
  clear Oz1_w17
  have BBw18 : Hid (Below w.heap.size w w18) := below_to BBw17.out hbw18 BBw17.out.size
  clear BBw17
  have OK_w18 : Hid (Own w18 w.heap.size gK cK ((runV zs ps).1)) := OwnV.mono how18 GK
  clear how18 hbw18
  go_wp2_with fail
  refine (eqIntS_same _ _ _ _ _ _ ((runV zs ps).1) _ (by omega) OK_w18.out.at OW_w18.out.at).mono ?_
  rintro e w19 ⟨rfl, hqw19⟩
  have Os0_w19 : Hid (Own w19 w.heap.size gs0 cs0 (zs)) := Os0_w18.out.below (hqw19.below _) Os0_w18.out.lt
  clear Os0_w18
  have Os1_w19 : Hid (Own w19 w.heap.size gs1 cs1 (ps)) := Os1_w18.out.below (hqw19.below _) Os1_w18.out.lt
  clear Os1_w18
  have OW_w19 : Hid (Own w19 w.heap.size gW cW ((runV zs ps).1)) := OW_w18.out.below (hqw19.below _) OW_w18.out.lt
  clear OW_w18
  have Ox0_w19 : Hid (Own w19 w.heap.size gx0 cx0 (marks 1 (zs).length)) := Ox0_w18.out.below (hqw19.below _) Ox0_w18.out.lt
  clear Ox0_w18
  have Ox1_w19 : Hid (Own w19 w.heap.size gx1 cx1 (marks (1 + (zs.length : Int)) (ps).length)) := Ox1_w18.out.below (hqw19.below _) Ox1_w18.out.lt
  clear Ox1_w18
  have OH_w19 : Hid (Own w19 w.heap.size gH cH (marks 1 ((runV zs ps).1).length)) := OH_w18.out.below (hqw19.below _) OH_w18.out.lt
  clear OH_w18
  have Oy0_w19 : Hid (Own w19 w.heap.size gy0 cy0 (zs)) := Oy0_w18.out.below (hqw19.below _) Oy0_w18.out.lt
  clear Oy0_w18
  have Oy1_w19 : Hid (Own w19 w.heap.size gy1 cy1 (ps)) := Oy1_w18.out.below (hqw19.below _) Oy1_w18.out.lt
  clear Oy1_w18
  have Oz0_w19 : Hid (Own w19 w.heap.size gz0 cz0 (zs)) := Oz0_w18.out.below (hqw19.below _) Oz0_w18.out.lt
  clear Oz0_w18
  have Oz1_w19 : Hid (Own w19 w.heap.size gz1 cz1 (ps)) := Oz1_w18.out.below (hqw19.below _) Oz1_w18.out.lt
  clear Oz1_w18
  have OK_w19 : Hid (Own w19 w.heap.size gK cK ((runV zs ps).1)) := OK_w18.out.below (hqw19.below _) OK_w18.out.lt
  clear OK_w18
  have BBw19 : Hid (Below w.heap.size w w19) := below_to BBw18.out (hqw19.below _) BBw18.out.size
  clear BBw18
  clear hqw19
  go_wp2_with fail
  refine (heldIntS_any _ _ _ ((runV zs ps).1).length 1 _ (by omega) (by omega) (by omega) OH_w19.out.at).mono ?_
  rintro e w' ⟨rfl, rfl⟩
  go_wp2_with fail
  go_ret
  exact ⟨rfl, BBw19.out⟩

end Go.Proofs.Ytfjdaklflpdjaaa
