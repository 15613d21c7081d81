/-
  TrackWalk of the reference and of the program. No condition but lengths that fit.
-/
import Derived.Test.YtkfgimhihknpoaaWalk1
namespace Go.Proofs.Ytkfgimhihknpoaa
open Go.RowKit
set_option linter.unusedVariables false

def isB (S S' : ByteArray) : Bool := nearB (tset S) S.size (tset S') S'.size
theorem isB_T {s n s' n' : Nat} (h1 : 1 ≤ n) (h2 : n ≤ 8) (hs : s < 2 ^ n) (h1' : 1 ≤ n') (h2' : n' ≤ 8) (hs' : s' < 2 ^ n') : isB (T s n) (T s' n') = nearB s n s' n' := by
  unfold isB
  rw [tset_T s n h1 h2 hs, T_size, tset_T s' n' h1' h2' hs', T_size]
/-- The k-th text is a track, and a step from the one before. -/
def wkAt (ss : List Bs) (k : Nat) : Bool := trB (ss.getD k ByteArray.empty) && (decide (k = 0) || isB (ss.getD (k - 1) ByteArray.empty) (ss.getD k ByteArray.empty))
def wkK (ss : List Bs) : Nat → Bool
  | 0 => true
  | k + 1 => wkK ss k && wkAt ss k
def walkB (ss : List Bs) : Bool := decide (0 < ss.length) && wkK ss ss.length
theorem wkK_le {ss : List Bs} {k m : Nat} (hk : k ≤ m) (h : wkK ss m = true) : wkK ss k = true := by
  induction m with
  | zero => have : k = 0 := by omega
            subst this; exact h
  | succ m ih =>
    by_cases hm : k ≤ m
    · simp only [wkK, Bool.and_eq_true] at h
      exact ih hm h.1
    · have : k = m + 1 := by omega
      subst this; exact h
theorem walkB_no {ss : List Bs} {k : Nat} (hk : k < ss.length) (h : wkAt ss k = false) : walkB ss = false := by
  unfold walkB
  cases hw : wkK ss ss.length
  · simp
  · have := wkK_le (show k + 1 ≤ ss.length by omega) hw
    simp [wkK, h] at this
theorem wkK_succ {ss : List Bs} {k : Nat} (h : wkK ss k = true) (h' : wkAt ss k = true) : wkK ss (k + 1) = true := by simp [wkK, h, h']
theorem wkK_tr {ss : List Bs} {k : Nat} (h : wkK ss (k + 1) = true) : trB (ss.getD k ByteArray.empty) = true := by
  simp only [wkK, wkAt, Bool.and_eq_true] at h
  exact h.2.1
theorem wkAt_f {ss : List Bs} {k : Nat} (h : trB (ss.getD k ByteArray.empty) = false) : wkAt ss k = false := by unfold wkAt; rw [h]; rfl
theorem wkAt_is {ss : List Bs} {k : Nat} (h : trB (ss.getD k ByteArray.empty) = true) (hk : 0 < k) : wkAt ss k = isB (ss.getD (k - 1) ByteArray.empty) (ss.getD k ByteArray.empty) := by
  unfold wkAt
  rw [h, dec_f (show ¬ k = 0 by omega)]
  rfl
theorem wkAt_0 {ss : List Bs} (h : trB (ss.getD 0 ByteArray.empty) = true) : wkAt ss 0 = true := by unfold wkAt; rw [h]; rfl

theorem l7Is_S (S S' : ByteArray) (w : World) (h : trB S = true) (h' : trB S' = true) :
    Calls Try.prog 50 #[.string S, .string S'] w fun e w' => e = .returned (.bool (isB S S')) ∧ ∃ m, w' = w.drewN m := by
  obtain ⟨s, n, h1, h2, hs, rfl⟩ := trB_T h
  obtain ⟨s', n', h1', h2', hs', rfl⟩ := trB_T h'
  rw [isB_T h1 h2 hs h1' h2' hs']
  exact l7Is_any s n s' n' w h1 h2 hs hs'

theorem spec_tvq (S : ByteArray) (w : World) (hs : S.size ≤ 9223372036854775807) :
    Calls Try.prog 35 #[.string S] w fun e w' => e = .returned (.bool (trB S)) ∧ w' = w := (spec_tv S w hs).mono fun _ _ h => ⟨h.1, h.2.symm⟩
set_option maxHeartbeats 3200000 in
theorem spec_walk (b off c : Nat) (ss : List Bs) (w : World) (hn : ss.length ≤ 1099511627776) (hsz : ∀ s ∈ ss, s.size ≤ 9223372036854775807) (ha : AtStrs w b off ss) :
    Calls Try.prog 27 #[.slice (some ⟨b, off, none⟩) ss.length c] w fun e w' => e = .returned (.bool (walkB ss)) ∧ Qt w w' := by
  have HA := Lib.hid ha
  have HZ := Lib.hid hsz
  clear ha hsz
  go_enter Try.func27, Try.ntmps27
  go_wp2_with fail
  go_loopw [3] (fun q wr => ∃ k : Nat, k ≤ ss.length ∧ q = .int .i64 k ∧ Qt w wr ∧ wkK ss k = true) (fun q _ => ss.length - (intOf q).toNat)
  case atStart => exact ⟨0, by omega, rfl, ⟨0, rfl⟩, rfl⟩
  case round =>
    obtain ⟨k, hk, rfl, hq, hwk⟩ := hrel
    have HWK := Lib.hid hwk
    have HQ := Lib.hid hq
    have hca : AtStrs wr b off ss := by obtain ⟨m, rfl⟩ := hq; exact HA.out
    have HC := Lib.hid hca
    clear hwk hq hca
    by_cases hlt : k < ss.length
    · have hcx := HC.out k hlt
      have i1 : (k : Int) < (ss.length : Int) := by omega
      have hzx := HZ.out (ss.getD k ByteArray.empty) (by simp [List.getD, hlt])
      obtain ⟨x, hx⟩ : ∃ x, ss.getD k ByteArray.empty = x := ⟨_, rfl⟩
      rw [hx] at hcx hzx
      have HX := Lib.hid hx
      have htv := fun w => spec_tvq x w hzx
      by_cases htr : trB x = true
      · rw [htr] at htv
        have HTV := Lib.hid htv
        by_cases hk0 : k = 0
        · have HR := Lib.hid (wkK_succ HWK.out (show wkAt ss k = true by rw [hk0]; exact wkAt_0 (by rw [← hk0, hx]; exact htr)))
          have t0 := dec_f (show ¬ (0 : Int) < (k : Int) by omega)
          have t0' := dec_f (show ¬ 0 < k by omega)
          clear hk0 htv hx htr
          go_wp2_with fail
          go_quiet (first | (go_at_call 35; exact Calls.quiet_of_same (HTV.out _)))
          go_wp2_with fail
          go_roundw
          case rel => exact ⟨k + 1, by omega, by go_num, HQ.out.trans ⟨_, rfl⟩, HR.out⟩
          case measure => simp [intOf]; omega
        · have hkp : 0 < k := by omega
          have hcy := HC.out (k - 1) (by omega)
          obtain ⟨y, hy⟩ : ∃ y, ss.getD (k - 1) ByteArray.empty = y := ⟨_, rfl⟩
          have hty : trB y = true := by
            have := HWK.out
            rw [← hy]
            exact wkK_tr (k := k - 1) (by rw [show k - 1 + 1 = k by omega]; exact this)
          have hat := wkAt_is (ss := ss) (k := k) (by rw [hx]; exact htr) hkp
          rw [hy] at hcy
          rw [hx, hy] at hat
          have his := fun w => l7Is_S y x w hty htr
          have t0 := dec_t (show (0 : Int) < (k : Int) by omega)
          have t0n := dec_t (show 0 < k by omega)
          have i2 : (0 : Int) ≤ (k : Int) - 1 := by omega
          have i3 : (k : Int) - 1 < (ss.length : Int) := by omega
          by_cases hi : isB y x = true
          · rw [hi] at his
            have HIS := Lib.hid his
            have HR := Lib.hid (wkK_succ HWK.out (hat.trans hi))
            clear his hi hat htv hx hy htr hty hk0 hkp
            go_wp2_with fail
            go_quiet (first | (go_at_call 35; exact Calls.quiet_of_same (HTV.out _)) | (go_at_call 50; exact Calls.quiet_of (HIS.out _)))
            go_wp2_with fail
            go_roundw
            case rel => exact ⟨k + 1, by omega, by go_num, HQ.out.trans ⟨_, rfl⟩, HR.out⟩
            case measure => simp [intOf]; omega
          · have hi' : isB y x = false := by simpa using hi
            rw [hi'] at his
            have HIS := Lib.hid his
            have HR := Lib.hid (walkB_no hlt (hat.trans hi'))
            clear his hi hi' hat htv hx hy htr hty hk0 hkp
            go_wp2_with fail
            go_quiet (first | (go_at_call 35; exact Calls.quiet_of_same (HTV.out _)) | (go_at_call 50; exact Calls.quiet_of (HIS.out _)))
            go_wp2_with fail
            go_ret
            exact ⟨ret_bool HR.out.symm, HQ.out.trans ⟨_, rfl⟩⟩
      · have htr' : trB x = false := by simpa using htr
        rw [htr'] at htv
        have HTV := Lib.hid htv
        have HR := Lib.hid (walkB_no hlt (wkAt_f (by rw [hx]; exact htr')))
        clear htv hx htr htr'
        go_wp2_with fail
        go_quiet (first | (go_at_call 35; exact Calls.quiet_of_same (HTV.out _)))
        go_wp2_with fail
        go_ret
        exact ⟨ret_bool HR.out.symm, HQ.out.trans ⟨_, rfl⟩⟩
    · have hkn : k = ss.length := by omega
      have hr : decide (0 < ss.length) = walkB ss := by
        have := HWK.out
        rw [hkn] at this
        unfold walkB; rw [this]; simp
      have HR := Lib.hid hr
      clear hr hkn
      go_wp2_with fail
      go_ret
      exact ⟨ret_bool HR.out, HQ.out⟩

end Go.Proofs.Ytkfgimhihknpoaa
