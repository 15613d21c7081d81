/-
  The law FnExactCountsTrain, walked call by call. No condition.
-/
import Derived.Test.YtfjdaklflpdjaaaTrain
namespace Go.Proofs.Ytfjdaklflpdjaaa
open Go.RowKit
set_option linter.unusedVariables false

theorem trainV_length (n ax : Int) : (trainV n ax).length ≤ 500 := by
  unfold trainV
  by_cases h : trainOk n ax = true
  · rw [if_pos h]
    simp [trainOk, inB] at h
    have := trainL_length ax.toNat (by omega) (n.toNat + 1)
    omega
  · rw [if_neg h]; simp

set_option maxHeartbeats 800000 in
theorem law_ExactCountsTrain (n ax : Int) (w : World) (hn : -9223372036854775808 ≤ n ∧ n ≤ 9223372036854775807) (hax : -9223372036854775808 ≤ ax ∧ ax ≤ 9223372036854775807) :
    Calls Try.prog 4 #[.int .i64 n, .int .i64 ax] w fun e w' => e = .returned (.bool true) ∧ Below w.heap.size w w' := by
  have hlen := trainV_length n ax
  have hspec := fun w => spec_train n ax w
  have himpl := fun w => impl_train n ax w
  generalize trainV n ax = zs at *
  generalize trainOk n ax = ok at *
  have HS := Lib.hid hspec
  have HI := Lib.hid himpl
  clear hspec himpl hn hax
  go_enter Try.func4, Try.ntmps4
  go_wp2_with fail
  refine (HS.out _).mono ?_
  rintro e w1 ⟨gs, cs, rfl, hos, hb1⟩
  have OS := Lib.hid hos
  have B1 := Lib.hid hb1
  clear hos hb1
  go_wp2_with fail
  refine (HI.out _).mono ?_
  rintro e w2 ⟨gi, ci, rfl, hoi, hb2⟩
  have OI := Lib.hid hoi
  have B2 := Lib.hid hb2
  clear hoi hb2
  go_wp2_with fail
  refine (eqIntS_any _ _ _ _ _ _ zs zs _ (by omega) (by omega) OI.out.at (OS.out.at.below B2.out OS.out.lt)).mono ?_
  rintro e w3 ⟨rfl, n3, rfl⟩
  go_wp2_with fail
  refine (markIntS_any w1.heap.size _ _ zs 1 _ (by omega) (by omega) (by omega) (by exact OI.out)).mono ?_
  rintro e w4 ⟨rfl, hm4, hg4, hz4⟩
  have M4 := Lib.hid hm4
  have G4 := Lib.hid hg4
  have Z4 := Lib.hid hz4
  clear hm4 hg4 hz4
  have OS4 : Hid (Own w4 w.heap.size gs cs zs) := (OS.out.below (below_drewN B2.out n3) OS.out.lt).grown G4.out (by have := OS.out.lt; have := OI.out.le; intro h; injection h; omega)
  have B4 : Hid (Below w.heap.size w w4) := below_to (below_drewN (below_to B1.out B2.out B1.out.size) n3) (below_of_grown (B := w1.heap.size) G4.out B2.out.size OI.out.le) B1.out.size
  have tq0 := dec_f (show ¬ (1 + (zs.length : Int)) < 0 by omega)
  have tq1 := bne_f (show (1 + (zs.length : Int)) = 1 + (zs.length : Int) from rfl)
  go_wp2_with fail
  refine (heldIntS_any _ _ _ zs.length 1 _ (by omega) (by omega) (by omega) (by exact M4.out.at)).mono ?_
  rintro e w4' ⟨rfl, rfl⟩
  go_wp2_with fail
  refine (HI.out _).mono ?_
  rintro e w5 ⟨gh, ch, rfl, hoh, hb5⟩
  have OH := Lib.hid hoh
  have B5 := Lib.hid hb5
  clear hoh hb5
  go_wp2_with fail
  refine (eqIntS_any _ _ _ _ _ _ zs zs _ (by omega) (by omega) OH.out.at (OS4.out.at.below B5.out OS4.out.lt)).mono ?_
  rintro e w6 ⟨rfl, n6, rfl⟩
  go_wp2_with fail
  refine (heldIntS_any _ _ _ zs.length 1 _ (by omega) (by omega) (by omega) (by exact M4.out.at.below (below_drewN B5.out n6) M4.out.lt)).mono ?_
  rintro e w7 ⟨rfl, rfl⟩
  go_wp2_with fail
  go_ret
  exact ⟨rfl, below_drewN (below_to B4.out B5.out B4.out.size) _⟩

end Go.Proofs.Ytfjdaklflpdjaaa
