/-
  The law FnExactTrackNext, walked call by call. No condition.
-/
import Derived.Test.YtohihdkeikobaaaTk5
namespace Go.Proofs.Ytohihdkeikobaaa
open Go.RowKit
set_option linter.unusedVariables false

set_option maxHeartbeats 1600000 in
theorem law_ExactTrackNext (S : ByteArray) (w : World) (hsS : S.size ≤ maxLen) :
    Calls Try.prog 7 #[.string S] w fun e w' => e = .returned (.bool true) ∧ Below w.heap.size w w' := by
  have hmS : maxLen = 9223372036854775807 := rfl
  rw [hmS] at hsS
  clear hmS
  by_cases hbigS : 1048576 < S.size
  · have tbS := dec_t (show (1048576 : Int) < (S.size : Int) by omega)
    go_enter Try.func7, Try.ntmps7
    go_wp2_with fail
    go_ret
    exact ⟨rfl, Below.refl _ _⟩
  have tbS := dec_f (show ¬ (1048576 : Int) < (S.size : Int) by omega)
  have szS : S.size ≤ 1048576 := by omega
  have hlen : (nx S S.size).length ≤ 2000000 := by have := nx_length S S.size; omega
  go_enter Try.func7, Try.ntmps7
  have BB0 : Hid (Below w.heap.size w w) := Below.refl _ _
  go_wp2_with fail
  refine (spec_next S _ (by omega)).mono ?_
  rintro e w1 ⟨gW, cW, rfl, how1, hbw1⟩
  have GW : w.heap.size ≤ gW := Nat.le_trans BB0.out.size how1.le
  have BBw1 : Hid (Below w.heap.size w w1) := below_to BB0.out hbw1 BB0.out.size
  clear BB0
  have OW_w1 : Hid (Own w1 w.heap.size gW cW (nx S S.size)) := OwnV.mono how1 GW
  clear how1 hbw1
  go_wp2_with fail
  refine (impl_next S _ (by omega)).mono ?_
  rintro e w2 ⟨gH, cH, rfl, how2, hbw2⟩
  have LW_H : gW < gH := Nat.lt_of_lt_of_le OW_w1.out.lt how2.le
  have GH : w.heap.size ≤ gH := Nat.le_trans BBw1.out.size how2.le
  have OW_w2 : Hid (Own w2 w.heap.size gW cW (nx S S.size)) := OW_w1.out.below hbw2 OW_w1.out.lt
  clear OW_w1
  have BBw2 : Hid (Below w.heap.size w w2) := below_to BBw1.out hbw2 BBw1.out.size
  clear BBw1
  have OH_w2 : Hid (Own w2 w.heap.size gH cH (nx S S.size)) := OwnV.mono how2 GH
  clear how2 hbw2
  go_wp2_with fail
  refine (eqIntS_same _ _ _ _ _ _ (nx S S.size) _ (by omega) OH_w2.out.at OW_w2.out.at).mono ?_
  rintro e w3 ⟨rfl, hqw3⟩
  have OW_w3 : Hid (Own w3 w.heap.size gW cW (nx S S.size)) := OW_w2.out.below (hqw3.below _) OW_w2.out.lt
  clear OW_w2
  have OH_w3 : Hid (Own w3 w.heap.size gH cH (nx S S.size)) := OH_w2.out.below (hqw3.below _) OH_w2.out.lt
  clear OH_w2
  have BBw3 : Hid (Below w.heap.size w w3) := below_to BBw2.out (hqw3.below _) BBw2.out.size
  clear BBw2
  clear hqw3
  go_wp2_with fail
  refine (markIntS_any w.heap.size _ _ (nx S S.size) 1 _ (by omega) (by omega) (by omega) (by exact OH_w3.out)).mono ?_
  rintro e w4 ⟨rfl, hmw4, hgw4, hzw4⟩
  have OW_w4 : Hid (Own w4 w.heap.size gW cW (nx S S.size)) := OW_w3.out.grown hgw4 (by have := LW_H; intro h; injection h; omega)
  clear OW_w3
  have BBw4 : Hid (Below w.heap.size w w4) := below_app BBw3.out hgw4 GH
  have OH_w4 : Hid (Own w4 w.heap.size gH cH (marks 1 (nx S S.size).length)) := hmw4
  clear OH_w3 hmw4 hgw4 hzw4 BBw3
  have tq := dec_f (show ¬ (1 + ((nx S S.size).length : Int)) < 0 by omega)
  go_wp2_with fail
  refine (heldIntS_any _ _ _ (nx S S.size).length 1 _ (by omega) (by omega) (by omega) OH_w4.out.at).mono ?_
  rintro e w' ⟨rfl, rfl⟩
  go_wp2_with fail
  refine (impl_next S _ (by omega)).mono ?_
  rintro e w5 ⟨gK, cK, rfl, how5, hbw5⟩
  have LW_K : gW < gK := Nat.lt_of_lt_of_le OW_w4.out.lt how5.le
  have LH_K : gH < gK := Nat.lt_of_lt_of_le OH_w4.out.lt how5.le
  have GK : w.heap.size ≤ gK := Nat.le_trans BBw4.out.size how5.le
  have OW_w5 : Hid (Own w5 w.heap.size gW cW (nx S S.size)) := OW_w4.out.below hbw5 OW_w4.out.lt
  clear OW_w4
  have OH_w5 : Hid (Own w5 w.heap.size gH cH (marks 1 (nx S S.size).length)) := OH_w4.out.below hbw5 OH_w4.out.lt
  clear OH_w4
  have BBw5 : Hid (Below w.heap.size w w5) := below_to BBw4.out hbw5 BBw4.out.size
  clear BBw4
  have OK_w5 : Hid (Own w5 w.heap.size gK cK (nx S S.size)) := OwnV.mono how5 GK
  clear how5 hbw5
  go_wp2_with fail
  refine (eqIntS_same _ _ _ _ _ _ (nx S S.size) _ (by omega) OK_w5.out.at OW_w5.out.at).mono ?_
  rintro e w6 ⟨rfl, hqw6⟩
  have OW_w6 : Hid (Own w6 w.heap.size gW cW (nx S S.size)) := OW_w5.out.below (hqw6.below _) OW_w5.out.lt
  clear OW_w5
  have OH_w6 : Hid (Own w6 w.heap.size gH cH (marks 1 (nx S S.size).length)) := OH_w5.out.below (hqw6.below _) OH_w5.out.lt
  clear OH_w5
  have OK_w6 : Hid (Own w6 w.heap.size gK cK (nx S S.size)) := OK_w5.out.below (hqw6.below _) OK_w5.out.lt
  clear OK_w5
  have BBw6 : Hid (Below w.heap.size w w6) := below_to BBw5.out (hqw6.below _) BBw5.out.size
  clear BBw5
  clear hqw6
  go_wp2_with fail
  refine (heldIntS_any _ _ _ (nx S S.size).length 1 _ (by omega) (by omega) (by omega) OH_w6.out.at).mono ?_
  rintro e w' ⟨rfl, rfl⟩
  go_wp2_with fail
  go_ret
  exact ⟨rfl, BBw6.out⟩

end Go.Proofs.Ytohihdkeikobaaa
