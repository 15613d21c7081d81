/-
  The law FnExactCodeText, walked call by call. No condition.
-/
import Derived.Test.YtgjgedmciiolmaaCode2
namespace Go.Proofs.Ytgjgedmciiolmaa
open Go.RowKit
set_option linter.unusedVariables false

set_option maxHeartbeats 400000 in
theorem law_ExactCodeText (A : Option Addr) (c : Nat) (zs : List Int) (w : World) (hq : ArgInts w A zs) :
    Calls Try.prog 3 #[.slice A zs.length c] w fun e w' => e = .returned (.bool true) ∧ Below w.heap.size w w' := by
  obtain ⟨hr, hz, hn⟩ := hq
  clear hz
  have HR := Lib.hid hr
  clear hr
  by_cases hbig : 1048576 < zs.length
  · have t0 := dec_t (show (1048576 : Int) < (zs.length : Int) by omega)
    go_enter Try.func3, Try.ntmps3
    go_wp2_with fail
    go_ret
    exact ⟨rfl, Below.refl _ _⟩
  · have t0 := dec_f (show ¬ (1048576 : Int) < (zs.length : Int) by omega)
    go_enter Try.func3, Try.ntmps3
    go_wp2_with fail
    refine (toIntS_any A c zs _ (by omega) HR.out).mono ?_
    rintro e w1 ⟨g1, c1, rfl, ho1, hb1⟩
    have HO1 := Lib.hid ho1
    have HB1 := Lib.hid hb1
    clear ho1 hb1
    obtain ⟨r, hr⟩ : ∃ r, codeT zs = r := ⟨_, rfl⟩
    go_wp2_with fail
    refine (spec_codet _ _ _ zs _ (by omega) HO1.out.lt HO1.out.at).mono ?_
    rintro e w2 ⟨rfl, hb2⟩
    have HB2 := Lib.hid (below_to HB1.out hb2 HB1.out.size)
    clear hb2
    rw [hr]
    have HV := Lib.hid hr
    clear hr
    go_wp2_with fail
    refine (toIntS_any A c zs _ (by omega) (HR.out.below HB2.out)).mono ?_
    rintro e w3 ⟨g3, c3, rfl, ho3, hb3⟩
    have HO3 := Lib.hid ho3
    have HB3 := Lib.hid (below_to HB2.out hb3 HB2.out.size)
    clear ho3 hb3
    go_wp2_with fail
    refine (impl_codet _ _ _ zs _ (by omega) HO3.out.lt HO3.out.at).mono ?_
    rintro e w4 ⟨rfl, hb4⟩
    have HO4 := Lib.hid (HO3.out.below hb4 HO3.out.lt)
    have HB4 := Lib.hid (below_to HB3.out hb4 HB3.out.size)
    clear hb4
    rw [HV.out]
    go_wp2_with fail
    refine (toIntS_any A c zs _ (by omega) (HR.out.below HB4.out)).mono ?_
    rintro e w5 ⟨g5, c5, rfl, ho5, hb5⟩
    have HO5 := Lib.hid ho5
    have HA5 := Lib.hid (HO4.out.at.below hb5 HO4.out.lt)
    have HB5 := Lib.hid (below_to HB4.out hb5 HB4.out.size)
    clear ho5 hb5
    go_wp2_with fail
    refine (eqIntS_any _ _ _ _ _ _ zs zs _ (by omega) (by omega) HA5.out HO5.out.at).mono ?_
    rintro e w6 ⟨rfl, n, rfl⟩
    go_wp2_with fail
    go_ret
    exact ⟨rfl, below_drewN HB5.out _⟩
end Go.Proofs.Ytgjgedmciiolmaa
