/-
  The law FnExactTrackRun, walked call by call. No condition.
-/
import Derived.Test.YtohihdkeikobaaaRun2
namespace Go.Proofs.Ytohihdkeikobaaa
open Go.RowKit
set_option linter.unusedVariables false

set_option maxHeartbeats 1600000 in
theorem law_ExactTrackRun (n : Int) (k : Int) (w : World) (hin : -9223372036854775808 ≤ n ∧ n ≤ 9223372036854775807) (hik : -9223372036854775808 ≤ k ∧ k ≤ 9223372036854775807) :
    Calls Try.prog 9 #[.int .i64 n, .int .i64 k] w fun e w' => e = .returned (.bool true) ∧ Below w.heap.size w w' := by
  have In := Lib.hid hin
  have Ik := Lib.hid hik
  have hlen : (trV n k).length ≤ 17 := trV_length n k
  go_enter Try.func9, Try.ntmps9
  have BB0 : Hid (Below w.heap.size w w) := Below.refl _ _
  go_wp2_with fail
  refine (spec_trun n k _).mono ?_
  rintro e w1 ⟨gW, cW, rfl, how1, hbw1⟩
  have GW : w.heap.size ≤ gW := Nat.le_trans BB0.out.size how1.le
  have BBw1 : Hid (Below w.heap.size w w1) := below_to BB0.out hbw1 BB0.out.size
  clear BB0
  have OW_w1 : Hid (OwnS w1 w.heap.size gW cW (trV n k)) := OwnV.mono how1 GW
  clear how1 hbw1
  go_wp2_with fail
  refine (impl_trun n k _).mono ?_
  rintro e w2 ⟨gH, cH, rfl, how2, hbw2⟩
  have LW_H : gW < gH := Nat.lt_of_lt_of_le OW_w1.out.lt how2.le
  have GH : w.heap.size ≤ gH := Nat.le_trans BBw1.out.size how2.le
  have OW_w2 : Hid (OwnS w2 w.heap.size gW cW (trV n k)) := OW_w1.out.below hbw2 OW_w1.out.lt
  clear OW_w1
  have BBw2 : Hid (Below w.heap.size w w2) := below_to BBw1.out hbw2 BBw1.out.size
  clear BBw1
  have OH_w2 : Hid (OwnS w2 w.heap.size gH cH (trV n k)) := OwnV.mono how2 GH
  clear how2 hbw2
  go_wp2_with fail
  refine (eqStringS_same _ _ _ _ _ _ (trV n k) _ (by omega) OH_w2.out.at OW_w2.out.at).mono ?_
  rintro e w3 ⟨rfl, hqw3⟩
  have OW_w3 : Hid (OwnS w3 w.heap.size gW cW (trV n k)) := OW_w2.out.below (hqw3.below _) OW_w2.out.lt
  clear OW_w2
  have OH_w3 : Hid (OwnS w3 w.heap.size gH cH (trV n k)) := OH_w2.out.below (hqw3.below _) OH_w2.out.lt
  clear OH_w2
  have BBw3 : Hid (Below w.heap.size w w3) := below_to BBw2.out (hqw3.below _) BBw2.out.size
  clear BBw2
  clear hqw3
  go_wp2_with fail
  refine (markStringS_any w.heap.size _ _ (trV n k) 1 _ (by omega) (by omega) (by omega) (by exact OH_w3.out)).mono ?_
  rintro e w4 ⟨rfl, hmw4, hgw4⟩
  have OW_w4 : Hid (OwnS w4 w.heap.size gW cW (trV n k)) := OW_w3.out.grown hgw4 (by have := LW_H; intro h; injection h; omega)
  clear OW_w3
  have BBw4 : Hid (Below w.heap.size w w4) := below_app BBw3.out hgw4 GH
  have OH_w4 : Hid (OwnS w4 w.heap.size gH cH (marksS 1 (trV n k).length)) := hmw4
  clear OH_w3 hmw4 hgw4 BBw3
  have tq := dec_f (show ¬ (((1 : Nat) : Int) + ((trV n k).length : Int)) < 0 by omega)
  have tq2 := dec_f (show ¬ ((1 : Int) + ((trV n k).length : Int)) < 0 by omega)
  go_wp2_with fail
  refine (heldStringS_any w.heap.size _ _ (trV n k).length 1 _ (by omega) (by omega) (by omega) OH_w4.out).mono ?_
  rintro e w5 ⟨rfl, hbw5⟩
  have OW_w5 : Hid (OwnS w5 w.heap.size gW cW (trV n k)) := OW_w4.out.below hbw5 OW_w4.out.lt
  clear OW_w4
  have OH_w5 : Hid (OwnS w5 w.heap.size gH cH (marksS 1 (trV n k).length)) := OH_w4.out.below hbw5 OH_w4.out.lt
  clear OH_w4
  have BBw5 : Hid (Below w.heap.size w w5) := below_to BBw4.out hbw5 BBw4.out.size
  clear BBw4
  clear hbw5
  go_wp2_with fail
  refine (impl_trun n k _).mono ?_
  rintro e w6 ⟨gK, cK, rfl, how6, hbw6⟩
  have LW_K : gW < gK := Nat.lt_of_lt_of_le OW_w5.out.lt how6.le
  have LH_K : gH < gK := Nat.lt_of_lt_of_le OH_w5.out.lt how6.le
  have GK : w.heap.size ≤ gK := Nat.le_trans BBw5.out.size how6.le
  have OW_w6 : Hid (OwnS w6 w.heap.size gW cW (trV n k)) := OW_w5.out.below hbw6 OW_w5.out.lt
  clear OW_w5
  have OH_w6 : Hid (OwnS w6 w.heap.size gH cH (marksS 1 (trV n k).length)) := OH_w5.out.below hbw6 OH_w5.out.lt
  clear OH_w5
  have BBw6 : Hid (Below w.heap.size w w6) := below_to BBw5.out hbw6 BBw5.out.size
  clear BBw5
  have OK_w6 : Hid (OwnS w6 w.heap.size gK cK (trV n k)) := OwnV.mono how6 GK
  clear how6 hbw6
  go_wp2_with fail
  refine (eqStringS_same _ _ _ _ _ _ (trV n k) _ (by omega) OK_w6.out.at OW_w6.out.at).mono ?_
  rintro e w7 ⟨rfl, hqw7⟩
  have OW_w7 : Hid (OwnS w7 w.heap.size gW cW (trV n k)) := OW_w6.out.below (hqw7.below _) OW_w6.out.lt
  clear OW_w6
  have OH_w7 : Hid (OwnS w7 w.heap.size gH cH (marksS 1 (trV n k).length)) := OH_w6.out.below (hqw7.below _) OH_w6.out.lt
  clear OH_w6
  have OK_w7 : Hid (OwnS w7 w.heap.size gK cK (trV n k)) := OK_w6.out.below (hqw7.below _) OK_w6.out.lt
  clear OK_w6
  have BBw7 : Hid (Below w.heap.size w w7) := below_to BBw6.out (hqw7.below _) BBw6.out.size
  clear BBw6
  clear hqw7
  go_wp2_with fail
  refine (heldStringS_any w.heap.size _ _ (trV n k).length 1 _ (by omega) (by omega) (by omega) OH_w7.out).mono ?_
  rintro e w8 ⟨rfl, hbw8⟩
  have OW_w8 : Hid (OwnS w8 w.heap.size gW cW (trV n k)) := OW_w7.out.below hbw8 OW_w7.out.lt
  clear OW_w7
  have OH_w8 : Hid (OwnS w8 w.heap.size gH cH (marksS 1 (trV n k).length)) := OH_w7.out.below hbw8 OH_w7.out.lt
  clear OH_w7
  have OK_w8 : Hid (OwnS w8 w.heap.size gK cK (trV n k)) := OK_w7.out.below hbw8 OK_w7.out.lt
  clear OK_w7
  have BBw8 : Hid (Below w.heap.size w w8) := below_to BBw7.out hbw8 BBw7.out.size
  clear BBw7
  clear hbw8
  go_wp2_with fail
  go_ret
  exact ⟨rfl, BBw8.out⟩

end Go.Proofs.Ytohihdkeikobaaa
