/-
  CountsTrain of the program and of the reference: both hand back the same list. No condition.
-/
import Derived.Test.YtfjdaklflpdjaaaInts
namespace Go.Proofs.Ytfjdaklflpdjaaa
open Go.RowKit
set_option linter.unusedVariables false

/-- The pulses of k counters, ax axles each. -/
def trainL (ax : Nat) : Nat → List Int
  | 0 => []
  | k + 1 => trainL ax k ++ List.replicate ax (k : Int)
theorem trainL_length (ax : Nat) (h : ax ≤ 50) (k : Nat) : (trainL ax k).length ≤ k * 50 := by
  induction k with
  | zero => simp [trainL]
  | succ k ih => simp [trainL]; omega
def trainOk (n ax : Int) : Bool := inB 1 8 n && inB 1 50 ax
def trainV (n ax : Int) : List Int := if trainOk n ax then trainL ax.toNat (n.toNat + 1) else []

set_option maxHeartbeats 800000 in
theorem spec_train (n ax : Int) (w : World) : Calls Try.prog 19 #[.int .i64 n, .int .i64 ax] w (NewIntsB w (trainV n ax) (trainOk n ax)) := by
  by_cases h1 : inB 1 8 n = true
  · by_cases h2 : inB 1 50 ax = true
    · have hok : trainOk n ax = true := by simp [trainOk, h1, h2]
      have hv : trainV n ax = trainL ax.toNat (n.toNat + 1) := by simp [trainV, hok]
      rw [hok, hv]; clear hok hv
      have H1 := inB_iff.1 h1
      have H2 := inB_iff.1 h2
      obtain ⟨N, rfl⟩ := Int.eq_ofNat_of_zero_le (show 0 ≤ n by omega)
      obtain ⟨X, rfl⟩ := Int.eq_ofNat_of_zero_le (show 0 ≤ ax by omega)
      rw [Int.toNat_natCast, Int.toNat_natCast]
      have b1 : 1 ≤ N := by omega
      have b2 : N ≤ 8 := by omega
      have b3 : 1 ≤ X := by omega
      have b4 : X ≤ 50 := by omega
      clear H1 H2
      have he := ownM_empty w w.heap.size (Nat.le_refl _)
      have HE := Lib.hid he
      clear he
      go_enter Try.func19, Try.ntmps19
      go_wp2_with (go_at_call 46; refine (l6In_any _ _ _ _).mono ?_; rintro e w' ⟨rfl, rfl⟩)
      go_loopw [6, 7] (fun v q wr => ∃ k g c m : Nat, k ≤ N + 1 ∧ q = .int .i64 k ∧ v = .slice (some ⟨g, 0, none⟩) m c ∧ OwnM wr w.heap.size g c m (trainL X k) ∧ Below w.heap.size w wr) (fun _ q _ => N + 1 - (intOf q).toNat)
      case atStart => exact ⟨0, w.heap.size, 0, 0, by omega, rfl, rfl, HE.out, below_new w _⟩
      case round =>
        clear HE
        obtain ⟨k, g, c, m, hk, rfl, rfl, hown, hbel⟩ := hrel
        have hm : m ≤ 500 := by
          have := hown.len
          have := trainL_length X b4 k
          omega
        have HO := Lib.hid hown
        have HB := Lib.hid hbel
        clear hown hbel
        by_cases hlt : k < N + 1
        · have t0 := dec_t (show k ≤ N by omega)
          obtain ⟨wo, rfl⟩ : ∃ wo : World, wo = wr := ⟨_, rfl⟩
          go_wp2_with fail
          go_loopw [6, 8] (fun v q wr => ∃ i g c m : Nat, i ≤ X ∧ q = .int .i64 i ∧ v = .slice (some ⟨g, 0, none⟩) m c ∧ OwnM wr w.heap.size g c m (trainL X k ++ List.replicate i (k : Int)) ∧ Below w.heap.size w wr) (fun _ q _ => X - (intOf q).toNat)
          case atStart => exact ⟨0, g, c, m, by omega, rfl, rfl, by simpa using HO.out, HB.out⟩
          case round =>
            clear HO HB
            obtain ⟨i, g, c, m, hi, rfl, rfl, hown, hbel⟩ := hrel
            have hm : m ≤ 500 := by
              have := hown.len
              have := trainL_length X b4 k
              simp at *
              omega
            by_cases hlt2 : i < X
            · go_wp2_with (at_builtin; refine wpList_app1i rfl (.tmp 29) (.tmp 31) rfl _ rfl hown rfl (by omega) ?_; intro g' c' w' hown' hg' hat')
              have R : OwnM w' w.heap.size g' c' (m + 1) (trainL X k ++ List.replicate (i + 1) (k : Int)) := by
                rw [List.append_assoc, ← List.replicate_succ'] at hown'
                exact hown'
              have RB := below_app hbel hg' hown.le
              clear hown hown' hg' hat' hbel
              go_wp2
              go_roundw
              case rel => exact ⟨i + 1, g', c', m + 1, by omega, by go_num, rfl, R, RB⟩
              case measure => simp [intOf]; omega
            · have e : trainL X k ++ List.replicate i (k : Int) = trainL X (k + 1) := by
                rw [trainL, show i = X by omega]
              rw [e] at hown
              have HO := Lib.hid hown
              have HB := Lib.hid hbel
              clear e hown hbel
              go_wp2
              go_roundw
              case rel => exact ⟨k + 1, g, c, m, by omega, by go_num, rfl, HO.out, HB.out⟩
              case measure => simp [intOf]; omega
        · have t0 := dec_f (show ¬ k ≤ N by omega)
          go_wp2
          go_ret2
          have hk' : k = N + 1 := by omega
          subst hk'
          have := HO.out.len
          exact ⟨g, c, ret_slb this, HO.out.own, HB.out⟩
    · have h2' : inB 1 50 ax = false := by simpa using h2
      have hok : trainOk n ax = false := by simp [trainOk, h1, h2']
      have hv : trainV n ax = [] := by simp [trainV, hok]
      rw [hok, hv]; clear hok hv h2
      go_enter Try.func19, Try.ntmps19
      go_wp2_with (go_at_call 46; refine (l6In_any _ _ _ _).mono ?_; rintro e w' ⟨rfl, rfl⟩)
      go_ret2
      exact ⟨_, _, rfl, own_empty w _ (Nat.le_refl _), below_new w _⟩
  · have h1' : inB 1 8 n = false := by simpa using h1
    have hok : trainOk n ax = false := by simp [trainOk, h1']
    have hv : trainV n ax = [] := by simp [trainV, hok]
    rw [hok, hv]; clear hok hv h1
    go_enter Try.func19, Try.ntmps19
    go_wp2_with (go_at_call 46; refine (l6In_any _ _ _ _).mono ?_; rintro e w' ⟨rfl, rfl⟩)
    go_ret2
    exact ⟨_, _, rfl, own_empty w _ (Nat.le_refl _), below_new w _⟩

set_option maxHeartbeats 800000 in
theorem impl_train (n ax : Int) (w : World) : Calls Try.prog 20 #[.int .i64 n, .int .i64 ax] w (NewIntsB w (trainV n ax) (trainOk n ax)) := by
  by_cases h1 : 1 ≤ n
  · have t1 := dec_f (show ¬ n < 1 by omega)
    by_cases h2 : n ≤ 8
    · have t2 := dec_f (show ¬ 8 < n by omega)
      by_cases h3 : 1 ≤ ax
      · have t3 := dec_f (show ¬ ax < 1 by omega)
        by_cases h4 : ax ≤ 50
        · have t4 := dec_f (show ¬ 50 < ax by omega)
          have hok : trainOk n ax = true := by simp [trainOk, inB, h1, h2, h3, h4]
          have hv : trainV n ax = trainL ax.toNat (n.toNat + 1) := by simp [trainV, hok]
          rw [hok, hv]; clear hok hv
          obtain ⟨N, rfl⟩ := Int.eq_ofNat_of_zero_le (show 0 ≤ n by omega)
          obtain ⟨X, rfl⟩ := Int.eq_ofNat_of_zero_le (show 0 ≤ ax by omega)
          rw [Int.toNat_natCast, Int.toNat_natCast]
          have b1 : 1 ≤ N := by omega
          have b2 : N ≤ 8 := by omega
          have b3 : 1 ≤ X := by omega
          have b4 : X ≤ 50 := by omega
          have b5 : (N + 1) * X ≤ 450 := Nat.mul_le_mul (show N + 1 ≤ 9 by omega) b4
          clear h1 h2 h3 h4
          go_enter Try.func20, Try.ntmps20
          go_wp2_with (at_make; refine wpList_mk0 slInt rfl (.const (.int .i64 0)) (.tmp 26) rfl w w.heap.size ((N + 1) * X) rfl rfl ?hC (by omega) (by unfold maxLen; omega) (Nat.le_refl _) ?_)
          case hC =>
            have e : ((N : Int) + 1) * X = (((N + 1) * X : Nat) : Int) := by rw [Int.natCast_mul]; rfl
            rw [e]
            exact IntWalk.wrap64_in _ ⟨by omega, by omega⟩
          intro w1 hown1 hg1
          have HO1 := Lib.hid hown1
          have hb1 : Below w.heap.size w w1 := (Below.refl _ _).grown hg1 (Nat.le_refl _) (by simp)
          have HB1 := Lib.hid hb1
          clear hown1 hg1 hb1
          go_wp2_with fail
          go_loopw [6, 30] (fun v q wr => ∃ k g c m : Nat, k ≤ N + 1 ∧ q = .int .i64 k ∧ v = .slice (some ⟨g, 0, none⟩) m c ∧ OwnM wr w.heap.size g c m (trainL X k) ∧ Below w.heap.size w wr) (fun _ q _ => N + 1 - (intOf q).toNat)
          case atStart => exact ⟨0, _, _, 0, by omega, rfl, rfl, HO1.out, HB1.out⟩
          case round =>
            clear HO1 HB1
            obtain ⟨k, g, c, m, hk, rfl, rfl, hown, hbel⟩ := hrel
            have hm : m ≤ 500 := by
              have := hown.len
              have := trainL_length X b4 k
              omega
            have HO := Lib.hid hown
            have HB := Lib.hid hbel
            clear hown hbel
            by_cases hlt : k < N + 1
            · have t0 := dec_t (show (k : Int) < (N : Int) + 1 by omega)
              obtain ⟨wo, rfl⟩ : ∃ wo : World, wo = wr := ⟨_, rfl⟩
              go_wp2_with fail
              go_loopw [6, 34] (fun v q wr => ∃ i g c m : Nat, i ≤ X ∧ q = .int .i64 i ∧ v = .slice (some ⟨g, 0, none⟩) m c ∧ OwnM wr w.heap.size g c m (trainL X k ++ List.replicate i (k : Int)) ∧ Below w.heap.size w wr) (fun _ q _ => X - (intOf q).toNat)
              case atStart => exact ⟨0, g, c, m, by omega, rfl, rfl, by simpa using HO.out, HB.out⟩
              case round =>
                clear HO HB
                obtain ⟨i, g, c, m, hi, rfl, rfl, hown, hbel⟩ := hrel
                have hm : m ≤ 500 := by
                  have := hown.len
                  have := trainL_length X b4 k
                  simp at *
                  omega
                by_cases hlt2 : i < X
                · go_wp2_with (at_builtin; refine wpList_app1i rfl (.tmp 36) (.tmp 38) rfl _ rfl hown rfl (by omega) ?_; intro g' c' w' hown' hg' hat')
                  have R : OwnM w' w.heap.size g' c' (m + 1) (trainL X k ++ List.replicate (i + 1) (k : Int)) := by
                    rw [List.append_assoc, ← List.replicate_succ'] at hown'
                    exact hown'
                  have RB := below_app hbel hg' hown.le
                  clear hown hown' hg' hat' hbel
                  go_wp2
                  go_roundw
                  case rel => exact ⟨i + 1, g', c', m + 1, by omega, by go_num, rfl, R, RB⟩
                  case measure => simp [intOf]; omega
                · have e : trainL X k ++ List.replicate i (k : Int) = trainL X (k + 1) := by
                    rw [trainL, show i = X by omega]
                  rw [e] at hown
                  have HO := Lib.hid hown
                  have HB := Lib.hid hbel
                  clear e hown hbel
                  go_wp2
                  go_roundw
                  case rel => exact ⟨k + 1, g, c, m, by omega, by go_num, rfl, HO.out, HB.out⟩
                  case measure => simp [intOf]; omega
            · have t0 := dec_f (show ¬ (k : Int) < (N : Int) + 1 by omega)
              go_wp2
              go_ret2
              have hk' : k = N + 1 := by omega
              subst hk'
              have := HO.out.len
              exact ⟨g, c, ret_slb this, HO.out.own, HB.out⟩
        · have t4 := dec_t (show 50 < ax by omega)
          have hok : trainOk n ax = false := by simp [trainOk, inB]; omega
          have hv : trainV n ax = [] := by simp [trainV, hok]
          rw [hok, hv]; clear hok hv
          go_enter Try.func20, Try.ntmps20
          go_wp2
          go_ret2
          exact ⟨_, _, rfl, own_empty w _ (Nat.le_refl _), below_new w _⟩
      · have t3 := dec_t (show ax < 1 by omega)
        have hok : trainOk n ax = false := by simp [trainOk, inB]; omega
        have hv : trainV n ax = [] := by simp [trainV, hok]
        rw [hok, hv]; clear hok hv
        go_enter Try.func20, Try.ntmps20
        go_wp2
        go_ret2
        exact ⟨_, _, rfl, own_empty w _ (Nat.le_refl _), below_new w _⟩
    · have t2 := dec_t (show 8 < n by omega)
      have hok : trainOk n ax = false := by simp [trainOk, inB]; omega
      have hv : trainV n ax = [] := by simp [trainV, hok]
      rw [hok, hv]; clear hok hv
      go_enter Try.func20, Try.ntmps20
      go_wp2
      go_ret2
      exact ⟨_, _, rfl, own_empty w _ (Nat.le_refl _), below_new w _⟩
  · have t1 := dec_t (show n < 1 by omega)
    have hok : trainOk n ax = false := by simp [trainOk, inB]; omega
    have hv : trainV n ax = [] := by simp [trainV, hok]
    rw [hok, hv]; clear hok hv
    go_enter Try.func20, Try.ntmps20
    go_wp2
    go_ret2
    exact ⟨_, _, rfl, own_empty w _ (Nat.le_refl _), below_new w _⟩

end Go.Proofs.Ytfjdaklflpdjaaa
