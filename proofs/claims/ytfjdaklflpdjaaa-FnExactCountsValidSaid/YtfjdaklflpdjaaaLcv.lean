/-
  The law FnExactCountsValid, walked call by call. No condition.
-/
import Derived.Test.YtfjdaklflpdjaaaInts
import Derived.Test.YtfjdaklflpdjaaaCv
namespace Go.Proofs.Ytfjdaklflpdjaaa
open Go.RowKit
set_option linter.unusedVariables false

set_option maxHeartbeats 400000 in
theorem law_ExactCountsValid (A : Option Addr) (c : Nat) (zs : List Int) (w : World) (hq : ArgInts w A zs) :
    Calls Try.prog 3 #[.slice A zs.length c] w fun e w' => e = .returned (.bool true) ∧ Below w.heap.size w w' := by
  obtain ⟨hr, hz, hn⟩ := hq
  clear hz
  have HR := Lib.hid hr
  clear hr
  by_cases hbig : 1048576 < zs.length
  · have t0 := dec_t (show (1048576 : Int) < (zs.length : Int) by omega)
    go_enter Try.func3, Try.ntmps3
    go_wp2_with fail
    go_ret
    exact ⟨rfl, Below.refl _ _⟩
  · have t0 := dec_f (show ¬ (1048576 : Int) < (zs.length : Int) by omega)
    go_enter Try.func3, Try.ntmps3
    go_wp2_with fail
    refine (toIntS_any A c zs _ (by omega) HR.out).mono ?_
    rintro e w1 ⟨g1, c1, rfl, ho1, hb1⟩
    have HO1 := Lib.hid ho1
    have HB1 := Lib.hid hb1
    clear ho1 hb1
    obtain ⟨r, hr⟩ : ∃ r, cvB zs = r := ⟨_, rfl⟩
    go_wp2_with fail
    refine (spec_cv _ _ _ zs _ (by omega) HO1.out.at).mono ?_
    rintro e w1' ⟨rfl, rfl⟩
    rw [hr]
    have HV := Lib.hid hr
    clear hr
    go_wp2_with fail
    refine (toIntS_any A c zs _ (by omega) (HR.out.below HB1.out)).mono ?_
    rintro e w2 ⟨g2, c2, rfl, ho2, hb2⟩
    have HO2 := Lib.hid ho2
    have HB2 := Lib.hid hb2
    clear ho2 hb2
    go_wp2_with fail
    refine (impl_cv _ _ _ zs _ (by omega) HO2.out.at).mono ?_
    rintro e w2' ⟨rfl, rfl⟩
    rw [HV.out]
    go_wp2_with fail
    refine (toIntS_any A c zs _ (by omega) ((HR.out.below HB1.out).below HB2.out)).mono ?_
    rintro e w3 ⟨g3, c3, rfl, ho3, hb3⟩
    have HO3 := Lib.hid ho3
    have HB3 := Lib.hid hb3
    clear ho3 hb3
    go_wp2_with fail
    refine (eqIntS_any _ _ _ _ _ _ zs zs _ (by omega) (by omega) (HO2.out.at.below HB3.out HO2.out.lt) HO3.out.at).mono ?_
    rintro e w4 ⟨rfl, n, rfl⟩
    go_wp2_with fail
    go_ret
    exact ⟨rfl, below_drewN (below_to (below_to HB1.out HB2.out HB1.out.size) HB3.out (Nat.le_trans HB1.out.size HB2.out.size)) _⟩
end Go.Proofs.Ytfjdaklflpdjaaa
