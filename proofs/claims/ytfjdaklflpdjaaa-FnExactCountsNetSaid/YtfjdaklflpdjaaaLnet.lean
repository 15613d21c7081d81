/-
  The law FnExactCountsNet, walked call by call. No condition.
-/
import Derived.Test.YtfjdaklflpdjaaaPulse2
import Derived.Test.YtfjdaklflpdjaaaClear
import Derived.Test.YtfjdaklflpdjaaaTrain
namespace Go.Proofs.Ytfjdaklflpdjaaa
open Go.RowKit
set_option linter.unusedVariables false

theorem netV_length (n : Int) (ps : List Int) : (netV n ps).length ≤ 9 := by
  unfold netV
  split
  · rename_i h
    rw [netL_length]
    unfold netOk at h
    rw [Bool.and_eq_true] at h
    have := inB_iff.1 h.1
    omega
  · simp

set_option maxHeartbeats 1600000 in
theorem law_ExactCountsNet (n : Int) (A : Option Addr) (c : Nat) (zs : List Int) (w : World) (hin : -9223372036854775808 ≤ n ∧ n ≤ 9223372036854775807) (hqzs : ArgInts w A zs) :
    Calls Try.prog 5 #[.int .i64 n, .slice A zs.length c] w fun e w' => e = .returned (.bool true) ∧ Below w.heap.size w w' := by
  have In := Lib.hid hin
  obtain ⟨hrzs, hzzs, hnzs⟩ := hqzs
  have Rzs := Lib.hid hrzs
  have Zzs := Lib.hid hzzs
  clear hrzs hzzs
  by_cases hbigzs : 1048576 < zs.length
  · have tbzs := dec_t (show (1048576 : Int) < (zs.length : Int) by omega)
    go_enter Try.func5, Try.ntmps5
    go_wp2_with fail
    go_ret
    exact ⟨rfl, Below.refl _ _⟩
  have tbzs := dec_f (show ¬ (1048576 : Int) < (zs.length : Int) by omega)
  have szzs : zs.length ≤ 1048576 := by omega
  have hlen : (netV n zs).length ≤ 2000000 := (by have := netV_length n zs; omega)
  go_enter Try.func5, Try.ntmps5
  have BB0 : Hid (Below w.heap.size w w) := Below.refl _ _
  go_wp2_with fail
  refine (toIntS_any A c zs _ (by omega) (Rzs.out.below BB0.out)).mono ?_
  rintro e w1 ⟨gs0, cs0, rfl, how1, hbw1⟩
  have Gs0 : w.heap.size ≤ gs0 := Nat.le_trans BB0.out.size how1.le
  have BBw1 : Hid (Below w.heap.size w w1) := below_to BB0.out hbw1 BB0.out.size
  clear BB0
  have Os0_w1 : Hid (Own w1 w.heap.size gs0 cs0 (zs)) := OwnV.mono how1 Gs0
  clear how1 hbw1
  go_wp2_with fail
  refine (spec_net n _ _ _ zs _ (by omega) Zzs.out Os0_w1.out.at Os0_w1.out.lt).mono ?_
  rintro e w2 ⟨gW, cW, rfl, how2, hbw2⟩
  have Ls0_W : gs0 < gW := Nat.lt_of_lt_of_le Os0_w1.out.lt how2.le
  have GW : w.heap.size ≤ gW := Nat.le_trans BBw1.out.size how2.le
  have Os0_w2 : Hid (Own w2 w.heap.size gs0 cs0 (zs)) := Os0_w1.out.below hbw2 Os0_w1.out.lt
  clear Os0_w1
  have BBw2 : Hid (Below w.heap.size w w2) := below_to BBw1.out hbw2 BBw1.out.size
  clear BBw1
  have OW_w2 : Hid (Own w2 w.heap.size gW cW (netV n zs)) := OwnV.mono how2 GW
  clear how2 hbw2
  go_wp2_with fail
  refine (toIntS_any A c zs _ (by omega) (Rzs.out.below BBw2.out)).mono ?_
  rintro e w3 ⟨gx0, cx0, rfl, how3, hbw3⟩
  have Ls0_x0 : gs0 < gx0 := Nat.lt_of_lt_of_le Os0_w2.out.lt how3.le
  have LW_x0 : gW < gx0 := Nat.lt_of_lt_of_le OW_w2.out.lt how3.le
  have Gx0 : w.heap.size ≤ gx0 := Nat.le_trans BBw2.out.size how3.le
  have Os0_w3 : Hid (Own w3 w.heap.size gs0 cs0 (zs)) := Os0_w2.out.below hbw3 Os0_w2.out.lt
  clear Os0_w2
  have OW_w3 : Hid (Own w3 w.heap.size gW cW (netV n zs)) := OW_w2.out.below hbw3 OW_w2.out.lt
  clear OW_w2
  have BBw3 : Hid (Below w.heap.size w w3) := below_to BBw2.out hbw3 BBw2.out.size
  clear BBw2
  have Ox0_w3 : Hid (Own w3 w.heap.size gx0 cx0 (zs)) := OwnV.mono how3 Gx0
  clear how3 hbw3
  go_wp2_with fail
  refine (impl_net n _ _ _ zs _ (by omega) Zzs.out Ox0_w3.out.at Ox0_w3.out.lt).mono ?_
  rintro e w4 ⟨gH, cH, rfl, how4, hbw4⟩
  have Ls0_H : gs0 < gH := Nat.lt_of_lt_of_le Os0_w3.out.lt how4.le
  have LW_H : gW < gH := Nat.lt_of_lt_of_le OW_w3.out.lt how4.le
  have Lx0_H : gx0 < gH := Nat.lt_of_lt_of_le Ox0_w3.out.lt how4.le
  have GH : w.heap.size ≤ gH := Nat.le_trans BBw3.out.size how4.le
  have Os0_w4 : Hid (Own w4 w.heap.size gs0 cs0 (zs)) := Os0_w3.out.below hbw4 Os0_w3.out.lt
  clear Os0_w3
  have OW_w4 : Hid (Own w4 w.heap.size gW cW (netV n zs)) := OW_w3.out.below hbw4 OW_w3.out.lt
  clear OW_w3
  have Ox0_w4 : Hid (Own w4 w.heap.size gx0 cx0 (zs)) := Ox0_w3.out.below hbw4 Ox0_w3.out.lt
  clear Ox0_w3
  have BBw4 : Hid (Below w.heap.size w w4) := below_to BBw3.out hbw4 BBw3.out.size
  clear BBw3
  have OH_w4 : Hid (Own w4 w.heap.size gH cH (netV n zs)) := OwnV.mono how4 GH
  clear how4 hbw4
  go_wp2_with fail
  refine (eqIntS_same _ _ _ _ _ _ (netV n zs) _ (by omega) OH_w4.out.at OW_w4.out.at).mono ?_
  rintro e w5 ⟨rfl, hqw5⟩
  have Os0_w5 : Hid (Own w5 w.heap.size gs0 cs0 (zs)) := Os0_w4.out.below (hqw5.below _) Os0_w4.out.lt
  clear Os0_w4
  have OW_w5 : Hid (Own w5 w.heap.size gW cW (netV n zs)) := OW_w4.out.below (hqw5.below _) OW_w4.out.lt
  clear OW_w4
  have Ox0_w5 : Hid (Own w5 w.heap.size gx0 cx0 (zs)) := Ox0_w4.out.below (hqw5.below _) Ox0_w4.out.lt
  clear Ox0_w4
  have OH_w5 : Hid (Own w5 w.heap.size gH cH (netV n zs)) := OH_w4.out.below (hqw5.below _) OH_w4.out.lt
  clear OH_w4
  have BBw5 : Hid (Below w.heap.size w w5) := below_to BBw4.out (hqw5.below _) BBw4.out.size
  clear BBw4
  clear hqw5
  go_wp2_with fail
  refine (toIntS_any A c zs _ (by omega) (Rzs.out.below BBw5.out)).mono ?_
  rintro e w6 ⟨gy0, cy0, rfl, how6, hbw6⟩
  have Ls0_y0 : gs0 < gy0 := Nat.lt_of_lt_of_le Os0_w5.out.lt how6.le
  have LW_y0 : gW < gy0 := Nat.lt_of_lt_of_le OW_w5.out.lt how6.le
  have Lx0_y0 : gx0 < gy0 := Nat.lt_of_lt_of_le Ox0_w5.out.lt how6.le
  have LH_y0 : gH < gy0 := Nat.lt_of_lt_of_le OH_w5.out.lt how6.le
  have Gy0 : w.heap.size ≤ gy0 := Nat.le_trans BBw5.out.size how6.le
  have Os0_w6 : Hid (Own w6 w.heap.size gs0 cs0 (zs)) := Os0_w5.out.below hbw6 Os0_w5.out.lt
  clear Os0_w5
  have OW_w6 : Hid (Own w6 w.heap.size gW cW (netV n zs)) := OW_w5.out.below hbw6 OW_w5.out.lt
  clear OW_w5
  have Ox0_w6 : Hid (Own w6 w.heap.size gx0 cx0 (zs)) := Ox0_w5.out.below hbw6 Ox0_w5.out.lt
  clear Ox0_w5
  have OH_w6 : Hid (Own w6 w.heap.size gH cH (netV n zs)) := OH_w5.out.below hbw6 OH_w5.out.lt
  clear OH_w5
  have BBw6 : Hid (Below w.heap.size w w6) := below_to BBw5.out hbw6 BBw5.out.size
  clear BBw5
  have Oy0_w6 : Hid (Own w6 w.heap.size gy0 cy0 (zs)) := OwnV.mono how6 Gy0
  clear how6 hbw6
  go_wp2_with fail
  refine (eqIntS_same _ _ _ _ _ _ (zs) _ (by omega) Ox0_w6.out.at Oy0_w6.out.at).mono ?_
  rintro e w7 ⟨rfl, hqw7⟩
  have Os0_w7 : Hid (Own w7 w.heap.size gs0 cs0 (zs)) := Os0_w6.out.below (hqw7.below _) Os0_w6.out.lt
  clear Os0_w6
  have OW_w7 : Hid (Own w7 w.heap.size gW cW (netV n zs)) := OW_w6.out.below (hqw7.below _) OW_w6.out.lt
  clear OW_w6
  have Ox0_w7 : Hid (Own w7 w.heap.size gx0 cx0 (zs)) := Ox0_w6.out.below (hqw7.below _) Ox0_w6.out.lt
  clear Ox0_w6
  have OH_w7 : Hid (Own w7 w.heap.size gH cH (netV n zs)) := OH_w6.out.below (hqw7.below _) OH_w6.out.lt
  clear OH_w6
  have Oy0_w7 : Hid (Own w7 w.heap.size gy0 cy0 (zs)) := Oy0_w6.out.below (hqw7.below _) Oy0_w6.out.lt
  clear Oy0_w6
  have BBw7 : Hid (Below w.heap.size w w7) := below_to BBw6.out (hqw7.below _) BBw6.out.size
  clear BBw6
  clear hqw7
  go_wp2_with fail
  refine (markIntS_any w.heap.size _ _ (zs) 1 _ (by omega) (by omega) (by omega) (by exact Ox0_w7.out)).mono ?_
  rintro e w8 ⟨rfl, hmw8, hgw8, hzw8⟩
  have Os0_w8 : Hid (Own w8 w.heap.size gs0 cs0 (zs)) := Os0_w7.out.grown hgw8 (by have := Ls0_x0; intro h; injection h; omega)
  clear Os0_w7
  have OW_w8 : Hid (Own w8 w.heap.size gW cW (netV n zs)) := OW_w7.out.grown hgw8 (by have := LW_x0; intro h; injection h; omega)
  clear OW_w7
  have OH_w8 : Hid (Own w8 w.heap.size gH cH (netV n zs)) := OH_w7.out.grown hgw8 (by have := Lx0_H; intro h; injection h; omega)
  clear OH_w7
  have Oy0_w8 : Hid (Own w8 w.heap.size gy0 cy0 (zs)) := Oy0_w7.out.grown hgw8 (by have := Lx0_y0; intro h; injection h; omega)
  clear Oy0_w7
  have BBw8 : Hid (Below w.heap.size w w8) := below_app BBw7.out hgw8 Gx0
  have Ox0_w8 : Hid (Own w8 w.heap.size gx0 cx0 (marks 1 (zs).length)) := hmw8
  clear Ox0_w7 hmw8 hgw8 hzw8 BBw7
  have tk := dec_f (show ¬ (1 + (zs.length : Int)) < 0 by omega)
  go_wp2_with fail
  refine (eqIntS_same _ _ _ _ _ _ (netV n zs) _ (by omega) OH_w8.out.at OW_w8.out.at).mono ?_
  rintro e w9 ⟨rfl, hqw9⟩
  have Os0_w9 : Hid (Own w9 w.heap.size gs0 cs0 (zs)) := Os0_w8.out.below (hqw9.below _) Os0_w8.out.lt
  clear Os0_w8
  have OW_w9 : Hid (Own w9 w.heap.size gW cW (netV n zs)) := OW_w8.out.below (hqw9.below _) OW_w8.out.lt
  clear OW_w8
  have Ox0_w9 : Hid (Own w9 w.heap.size gx0 cx0 (marks 1 (zs).length)) := Ox0_w8.out.below (hqw9.below _) Ox0_w8.out.lt
  clear Ox0_w8
  have OH_w9 : Hid (Own w9 w.heap.size gH cH (netV n zs)) := OH_w8.out.below (hqw9.below _) OH_w8.out.lt
  clear OH_w8
  have Oy0_w9 : Hid (Own w9 w.heap.size gy0 cy0 (zs)) := Oy0_w8.out.below (hqw9.below _) Oy0_w8.out.lt
  clear Oy0_w8
  have BBw9 : Hid (Below w.heap.size w w9) := below_to BBw8.out (hqw9.below _) BBw8.out.size
  clear BBw8
  clear hqw9
  go_wp2_with fail
  refine (markIntS_any w.heap.size _ _ (netV n zs) 1 _ (by omega) (by omega) (by omega) (by exact OH_w9.out)).mono ?_
  rintro e w10 ⟨rfl, hmw10, hgw10, hzw10⟩
  have Os0_w10 : Hid (Own w10 w.heap.size gs0 cs0 (zs)) := Os0_w9.out.grown hgw10 (by have := Ls0_H; intro h; injection h; omega)
  clear Os0_w9
  have OW_w10 : Hid (Own w10 w.heap.size gW cW (netV n zs)) := OW_w9.out.grown hgw10 (by have := LW_H; intro h; injection h; omega)
  clear OW_w9
  have Ox0_w10 : Hid (Own w10 w.heap.size gx0 cx0 (marks 1 (zs).length)) := Ox0_w9.out.grown hgw10 (by have := Lx0_H; intro h; injection h; omega)
  clear Ox0_w9
  have Oy0_w10 : Hid (Own w10 w.heap.size gy0 cy0 (zs)) := Oy0_w9.out.grown hgw10 (by have := LH_y0; intro h; injection h; omega)
  clear Oy0_w9
  have BBw10 : Hid (Below w.heap.size w w10) := below_app BBw9.out hgw10 GH
  have OH_w10 : Hid (Own w10 w.heap.size gH cH (marks 1 (netV n zs).length)) := hmw10
  clear OH_w9 hmw10 hgw10 hzw10 BBw9
  have tq := dec_f (show ¬ (1 + ((netV n zs).length : Int)) < 0 by omega)
  go_wp2_with fail
  refine (heldIntS_any _ _ _ (netV n zs).length 1 _ (by omega) (by omega) (by omega) OH_w10.out.at).mono ?_
  rintro e w' ⟨rfl, rfl⟩
  go_wp2_with fail
  refine (toIntS_any A c zs _ (by omega) (Rzs.out.below BBw10.out)).mono ?_
  rintro e w11 ⟨gz0, cz0, rfl, how11, hbw11⟩
  have Ls0_z0 : gs0 < gz0 := Nat.lt_of_lt_of_le Os0_w10.out.lt how11.le
  have LW_z0 : gW < gz0 := Nat.lt_of_lt_of_le OW_w10.out.lt how11.le
  have Lx0_z0 : gx0 < gz0 := Nat.lt_of_lt_of_le Ox0_w10.out.lt how11.le
  have LH_z0 : gH < gz0 := Nat.lt_of_lt_of_le OH_w10.out.lt how11.le
  have Ly0_z0 : gy0 < gz0 := Nat.lt_of_lt_of_le Oy0_w10.out.lt how11.le
  have Gz0 : w.heap.size ≤ gz0 := Nat.le_trans BBw10.out.size how11.le
  have Os0_w11 : Hid (Own w11 w.heap.size gs0 cs0 (zs)) := Os0_w10.out.below hbw11 Os0_w10.out.lt
  clear Os0_w10
  have OW_w11 : Hid (Own w11 w.heap.size gW cW (netV n zs)) := OW_w10.out.below hbw11 OW_w10.out.lt
  clear OW_w10
  have Ox0_w11 : Hid (Own w11 w.heap.size gx0 cx0 (marks 1 (zs).length)) := Ox0_w10.out.below hbw11 Ox0_w10.out.lt
  clear Ox0_w10
  have OH_w11 : Hid (Own w11 w.heap.size gH cH (marks 1 (netV n zs).length)) := OH_w10.out.below hbw11 OH_w10.out.lt
  clear OH_w10
  have Oy0_w11 : Hid (Own w11 w.heap.size gy0 cy0 (zs)) := Oy0_w10.out.below hbw11 Oy0_w10.out.lt
  clear Oy0_w10
  have BBw11 : Hid (Below w.heap.size w w11) := below_to BBw10.out hbw11 BBw10.out.size
  clear BBw10
  have Oz0_w11 : Hid (Own w11 w.heap.size gz0 cz0 (zs)) := OwnV.mono how11 Gz0
  clear how11 hbw11
  go_wp2_with fail
  refine (impl_net n _ _ _ zs _ (by omega) Zzs.out Oz0_w11.out.at Oz0_w11.out.lt).mono ?_
  rintro e w12 ⟨gK, cK, rfl, how12, hbw12⟩
  have Ls0_K : gs0 < gK := Nat.lt_of_lt_of_le Os0_w11.out.lt how12.le
  have LW_K : gW < gK := Nat.lt_of_lt_of_le OW_w11.out.lt how12.le
  have Lx0_K : gx0 < gK := Nat.lt_of_lt_of_le Ox0_w11.out.lt how12.le
  have LH_K : gH < gK := Nat.lt_of_lt_of_le OH_w11.out.lt how12.le
  have Ly0_K : gy0 < gK := Nat.lt_of_lt_of_le Oy0_w11.out.lt how12.le
  have Lz0_K : gz0 < gK := Nat.lt_of_lt_of_le Oz0_w11.out.lt how12.le
  have GK : w.heap.size ≤ gK := Nat.le_trans BBw11.out.size how12.le
  have Os0_w12 : Hid (Own w12 w.heap.size gs0 cs0 (zs)) := Os0_w11.out.below hbw12 Os0_w11.out.lt
  clear Os0_w11
  have OW_w12 : Hid (Own w12 w.heap.size gW cW (netV n zs)) := OW_w11.out.below hbw12 OW_w11.out.lt
  clear OW_w11
  have Ox0_w12 : Hid (Own w12 w.heap.size gx0 cx0 (marks 1 (zs).length)) := Ox0_w11.out.below hbw12 Ox0_w11.out.lt
  clear Ox0_w11
  have OH_w12 : Hid (Own w12 w.heap.size gH cH (marks 1 (netV n zs).length)) := OH_w11.out.below hbw12 OH_w11.out.lt
  clear OH_w11
  have Oy0_w12 : Hid (Own w12 w.heap.size gy0 cy0 (zs)) := Oy0_w11.out.below hbw12 Oy0_w11.out.lt
  clear Oy0_w11
  have Oz0_w12 : Hid (Own w12 w.heap.size gz0 cz0 (zs)) := Oz0_w11.out.below hbw12 Oz0_w11.out.lt
  clear Oz0_w11
  have BBw12 : Hid (Below w.heap.size w w12) := below_to BBw11.out hbw12 BBw11.out.size
  clear BBw11
  have OK_w12 : Hid (Own w12 w.heap.size gK cK (netV n zs)) := OwnV.mono how12 GK
  clear how12 hbw12
  go_wp2_with fail
  refine (eqIntS_same _ _ _ _ _ _ (netV n zs) _ (by omega) OK_w12.out.at OW_w12.out.at).mono ?_
  rintro e w13 ⟨rfl, hqw13⟩
  have Os0_w13 : Hid (Own w13 w.heap.size gs0 cs0 (zs)) := Os0_w12.out.below (hqw13.below _) Os0_w12.out.lt
  clear Os0_w12
  have OW_w13 : Hid (Own w13 w.heap.size gW cW (netV n zs)) := OW_w12.out.below (hqw13.below _) OW_w12.out.lt
  clear OW_w12
  have Ox0_w13 : Hid (Own w13 w.heap.size gx0 cx0 (marks 1 (zs).length)) := Ox0_w12.out.below (hqw13.below _) Ox0_w12.out.lt
  clear Ox0_w12
  have OH_w13 : Hid (Own w13 w.heap.size gH cH (marks 1 (netV n zs).length)) := OH_w12.out.below (hqw13.below _) OH_w12.out.lt
  clear OH_w12
  have Oy0_w13 : Hid (Own w13 w.heap.size gy0 cy0 (zs)) := Oy0_w12.out.below (hqw13.below _) Oy0_w12.out.lt
  clear Oy0_w12
  have Oz0_w13 : Hid (Own w13 w.heap.size gz0 cz0 (zs)) := Oz0_w12.out.below (hqw13.below _) Oz0_w12.out.lt
  clear Oz0_w12
  have OK_w13 : Hid (Own w13 w.heap.size gK cK (netV n zs)) := OK_w12.out.below (hqw13.below _) OK_w12.out.lt
  clear OK_w12
  have BBw13 : Hid (Below w.heap.size w w13) := below_to BBw12.out (hqw13.below _) BBw12.out.size
  clear BBw12
  clear hqw13
  go_wp2_with fail
  refine (heldIntS_any _ _ _ (netV n zs).length 1 _ (by omega) (by omega) (by omega) OH_w13.out.at).mono ?_
  rintro e w' ⟨rfl, rfl⟩
  go_wp2_with fail
  go_ret
  exact ⟨rfl, BBw13.out⟩

end Go.Proofs.Ytfjdaklflpdjaaa
